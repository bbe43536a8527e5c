/- The walks of capsulelaw17.ProtectStrips and ProtectChecks. -/
import Derived.Test.YtmccihngbdopdaaLaw17C
import Derived.Laws.StructEq
namespace Go.Proofs.Ytmccihngbdopdaa
open Go.RowKit
set_option linter.unusedVariables false
set_option linter.unusedSimpArgs false

theorem Strip_at (ty : Int) (fs : Bool) (m : Value) (lm : List (BitVec 8)) (n : Int) (k : List (BitVec 8)) (w : World) (hm : BytesV w m lm) (hs : lm.length ≤ 140737488355328) (hn : Prot.wr ty fs true lm.length = n) (hk : Prot.strip ty fs lm = k) :
    Calls Try.prog 30 #[.agg #[.int .i64 ty, .bool fs], m] w fun e w' => ∃ u, e = .returned (.tuple #[u, .int .i64 n]) ∧ BytesV w' u k ∧ Below w.heap.size w w' := by
  subst hn hk; exact Strip_any ty fs m lm w hm hs
theorem rStrip_at (ty : Int) (fs : Bool) (m : Value) (lm : List (BitVec 8)) (n : Int) (k : List (BitVec 8)) (w : World) (hm : BytesV w m lm) (hs : lm.length ≤ 140737488355328) (hn : Prot.wr ty fs true lm.length = n) (hk : Prot.strip ty fs lm = k) :
    Calls Try.prog 31 #[.agg #[.int .i64 ty, .bool fs], m] w fun e w' => ∃ u, e = .returned (.tuple #[u, .int .i64 n]) ∧ BytesV w' u k ∧ Below w.heap.size w w' := by
  subst hn hk; exact rStrip_any ty fs m lm w hm hs
theorem Insert_at (ty : Int) (fs : Bool) (v : Value) (l : List (BitVec 8)) (g a : BitVec 16) (r : BitVec 32) (n : Int) (k : List (BitVec 8)) (w : World) (hv : BytesV w v l) (hs : l.length + 8 ≤ 140737488355328) (hn : Prot.ti ty fs = n) (hk : Prot.insert ty fs l (Prot.bytes g a r) = k) :
    Calls Try.prog 32 #[.agg #[.int .i64 ty, .bool fs], v, .agg #[.int .u16 (uv g), .int .u16 (uv a), .int .u32 (uv r)]] w fun e w' => ∃ u, e = .returned (.tuple #[u, .int .i64 n]) ∧ BytesV w' u k ∧ Below w.heap.size w w' := by
  subst hn hk; exact Insert_any ty fs v l g a r w hv hs
theorem rInsert_at (ty : Int) (fs : Bool) (v : Value) (l : List (BitVec 8)) (g a : BitVec 16) (r : BitVec 32) (n : Int) (k : List (BitVec 8)) (w : World) (hv : BytesV w v l) (hs : l.length + 8 ≤ 140737488355328) (hn : Prot.ti ty fs = n) (hk : Prot.insert ty fs l (Prot.bytes g a r) = k) :
    Calls Try.prog 33 #[.agg #[.int .i64 ty, .bool fs], v, .agg #[.int .u16 (uv g), .int .u16 (uv a), .int .u32 (uv r)]] w fun e w' => ∃ u, e = .returned (.tuple #[u, .int .i64 n]) ∧ BytesV w' u k ∧ Below w.heap.size w w' := by
  subst hn hk; exact rInsert_any ty fs v l g a r w hv hs
theorem Check_at (ty : Int) (fs : Bool) (v mm : Value) (lv lm : List (BitVec 8)) (cg ca cr : Bool) (t m : BitVec 16) (y : BitVec 32) (n c : Int) (w : World) (hv : BytesV w v lv) (hm : BytesV w mm lm) (hs : lv.length + lm.length ≤ 140737488355000) (hn : Prot.wr ty fs false lm.length = n) (hc : Prot.chk ty fs lv lm cg ca cr t m y = c) :
    Calls Try.prog 25 #[.agg #[.int .i64 ty, .bool fs], v, mm, .agg #[.bool cg, .bool ca, .bool cr, .int .u16 (uv t), .int .u16 (uv m)], .int .u32 (uv y)] w fun e w' => e = .returned (.tuple #[.agg (Prot.st c), .int .i64 n]) ∧ Below w.heap.size w w' := by
  subst hn hc; exact Check_any ty fs v mm lv lm cg ca cr t m y w hv hm hs
theorem rCheck_at (ty : Int) (fs : Bool) (v mm : Value) (lv lm : List (BitVec 8)) (cg ca cr : Bool) (t m : BitVec 16) (y : BitVec 32) (n c : Int) (w : World) (hv : BytesV w v lv) (hm : BytesV w mm lm) (hs : lv.length + lm.length ≤ 140737488355000) (hn : Prot.wr ty fs false lm.length = n) (hc : Prot.chk ty fs lv lm cg ca cr t m y = c) :
    Calls Try.prog 26 #[.agg #[.int .i64 ty, .bool fs], v, mm, .agg #[.bool cg, .bool ca, .bool cr, .int .u16 (uv t), .int .u16 (uv m)], .int .u32 (uv y)] w fun e w' => e = .returned (.tuple #[.int .i64 c, .int .i64 n]) ∧ Below w.heap.size w w' := by
  subst hn hc; exact rCheck_any ty fs v mm lv lm cg ca cr t m y w hv hm hs
theorem Read_at' (ty : Int) (fs : Bool) (m : Value) (lm : List (BitVec 8)) (g a : BitVec 16) (r : BitVec 32) (n : Int) (w : World) (hm : BytesV w m lm) (hn : Prot.wr ty fs true lm.length = n) (hg : Prot.rg ty fs lm = g) (ha : Prot.ra ty fs lm = a) (hr : Prot.rr ty fs lm = r) :
    Calls Try.prog 27 #[.agg #[.int .i64 ty, .bool fs], m] w fun e w' => e = .returned (.tuple #[.agg #[.int .u16 (uv g), .int .u16 (uv a), .int .u32 (uv r)], .int .i64 n]) ∧ Below w.heap.size w w' := by
  subst hn hg ha hr; exact Read_any ty fs m lm w hm
theorem rRead_at' (ty : Int) (fs : Bool) (m : Value) (lm : List (BitVec 8)) (g a : BitVec 16) (r : BitVec 32) (n : Int) (w : World) (hm : BytesV w m lm) (hn : Prot.wr ty fs true lm.length = n) (hg : Prot.rg ty fs lm = g) (ha : Prot.ra ty fs lm = a) (hr : Prot.rr ty fs lm = r) :
    Calls Try.prog 28 #[.agg #[.int .i64 ty, .bool fs], m] w fun e w' => e = .returned (.tuple #[.agg #[.int .u16 (uv g), .int .u16 (uv a), .int .u32 (uv r)], .int .i64 n]) ∧ Below w.heap.size w w' := by
  subst hn hg ha hr; exact rRead_any ty fs m lm w hm
theorem st_size (c : Int) : (Prot.st c).size = 4 := by unfold Prot.st; split <;> rfl
theorem st_one (c : Int) : (Prot.st c).all (·.oneCell') = true := by unfold Prot.st; split <;> simp [Value.oneCell']
theorem st_info (c : Int) : (Try.prog.info? 55).map (·.size) = some (Prot.st c).size := by rw [st_size]; kernel_rfl
theorem code3_four (x y z : Bool) : Prot.code3 x y z = 0 ∨ Prot.code3 x y z = 130 ∨ Prot.code3 x y z = 131 ∨ Prot.code3 x y z = 132 := by cases x <;> cases y <;> cases z <;> decide
theorem chk_four (ty : Int) (fs : Bool) (lv lm : List (BitVec 8)) (cg ca cr : Bool) (t m : BitVec 16) (y : BitVec 32) (c : Int) (hc : Prot.chk ty fs lv lm cg ca cr t m y = c) : c = 0 ∨ c = 130 ∨ c = 131 ∨ c = 132 := by
  subst hc
  unfold Prot.chk
  split
  · split
    · exact .inl rfl
    · split
      · exact .inl rfl
      · exact code3_four _ _ _
  · exact .inl rfl
theorem tup_equalIn (g a g' a' : BitVec 16) (r r' : BitVec 32) (w : World) : (Op.equalIn 10000 25 (.agg #[.int .u16 (uv g), .int .u16 (uv a), .int .u32 (uv r)]) (.agg #[.int .u16 (uv g'), .int .u16 (uv a'), .int .u32 (uv r')])).run Try.prog w = .ok (g == g' && a == a' && r == r') w := by
  have hS : Try.prog.underlying 25 = some (.struct (Try.prog.fieldsOf 25)) := by kernel_rfl
  have hp : Try.prog.stoodInHeld 25 = false := by kernel_rfl
  have u1 := Try.underlying22
  have u2 := Try.underlying23
  rw [show (10000 : Nat) = 9999 + 1 from rfl, run_equalIn_agg w 9999 25 _ _ hS hp]
  simp only [Program.fieldsOf, Try.underlying25]
  go_simp
  by_cases h1 : g = g' <;> by_cases h2 : a = a' <;> by_cases h3 : r = r' <;> simp [h1, h2, h3]
theorem tup_eql (g a g' a' : BitVec 16) (r r' : BitVec 32) (w : World) : (binOp .eql 25 (.agg #[.int .u16 (uv g), .int .u16 (uv a), .int .u32 (uv r)]) (.agg #[.int .u16 (uv g'), .int .u16 (uv a'), .int .u32 (uv r')])).run Try.prog w = .ok (.bool (g == g' && a == a' && r == r')) w := by
  rw [run_eql_struct, tup_equalIn]; rfl
theorem tup_neq (g a g' a' : BitVec 16) (r r' : BitVec 32) (w : World) : (binOp .neq 25 (.agg #[.int .u16 (uv g), .int .u16 (uv a), .int .u32 (uv r)]) (.agg #[.int .u16 (uv g'), .int .u16 (uv a'), .int .u32 (uv r')])).run Try.prog w = .ok (.bool (!(g == g' && a == a' && r == r'))) w := by
  rw [run_neq_struct, tup_equalIn]; rfl

set_option maxRecDepth 4000 in
set_option maxHeartbeats 1600000 in
theorem lawStrips (ty : Int) (fs : Bool) (m : Value) (lm : List (BitVec 8)) (g a : BitVec 16) (r : BitVec 32) (w : World) (_ : -9223372036854775808 ≤ ty ∧ ty ≤ 9223372036854775807) (hm : BytesV w m lm) :
    Calls Try.prog 7 #[.agg #[.int .i64 ty, .bool fs], m, .agg #[.int .u16 (uv g), .int .u16 (uv a), .int .u32 (uv r)]] w fun e w' => e = .returned (.bool true) ∧ Below w.heap.size w w' := by
  by_cases h2 : lm.length ≤ 100
  · obtain ⟨n, hn⟩ : ∃ n, Prot.wr ty fs true lm.length = n := ⟨_, rfl⟩
    obtain ⟨k, hk⟩ : ∃ k, Prot.strip ty fs lm = k := ⟨_, rfl⟩
    obtain ⟨i, hi⟩ : ∃ n, Prot.ti ty fs = n := ⟨_, rfl⟩
    obtain ⟨l, hl⟩ : ∃ k, Prot.insert ty fs lm (Prot.bytes g a r) = k := ⟨_, rfl⟩
    have q2 : decide ((lm.length : Int) > 100) = false := by simp; omega
    have s3 : lm.length ≤ 140737488355328 := by omega
    have s4 : lm.length + 8 ≤ 140737488355328 := by omega
    have HN := Lib.hid hn; clear hn
    have HK := Lib.hid hk; clear hk
    have HI := Lib.hid hi; clear hi
    have HL := Lib.hid hl; clear hl
    have S3 := Lib.hid s3; clear s3
    have S4 := Lib.hid s4; clear s4
    have M := Lib.hid hm; clear hm h2
    obtain ⟨am, cm, rfl, -⟩ := id M.out
    obtain ⟨W, hW⟩ : ∃ W, W = (w.alloc (.cells #[.int .i64 ty, .bool fs] 28)).alloc (.cells #[.int .u16 (uv g), .int .u16 (uv a), .int .u32 (uv r)] 25) := ⟨_, rfl⟩
    have hb1 : Below w.heap.size w W := by subst hW; exact gr_tr (gr_alloc _ _) (gr_alloc _ _)
    have d0 : W.cell? ⟨w.heap.size, 0, none⟩ = some (.int .i64 ty) := by subst hW; simp [go_sem]
    have d1 : W.cell? ⟨w.heap.size, 1, none⟩ = some (.bool fs) := by subst hW; simp [go_sem]
    have d2 : W.cell? ⟨w.heap.size + 1, 0, none⟩ = some (.int .u16 (uv g)) := by subst hW; simp [go_sem]
    have d3 : W.cell? ⟨w.heap.size + 1, 1, none⟩ = some (.int .u16 (uv a)) := by subst hW; simp [go_sem]
    have d4 : W.cell? ⟨w.heap.size + 1, 2, none⟩ = some (.int .u32 (uv r)) := by subst hW; simp [go_sem]
    replace M := Lib.hid (M.out.below hb1)
    have B := Lib.hid hb1; clear hb1
    have HW := Lib.hid hW; clear hW
    go_enter Try.func7, Try.ntmps7
    go_upto_region 1 with fail
    rw [← HW.out]
    go_upto_region 8 with (first
      | (at_builtin; refine app_fresh rfl (.tmp 20) (.tmp 21) rfl _ rfl rfl _ lm rfl M.out S3.out ?_; intro x w1 hx hw; have X := Lib.hid (BytesV.of_own hx); replace d0 := below_get hw d0; replace d1 := below_get hw d1; replace d2 := below_get hw d2; replace d3 := below_get hw d3; replace d4 := below_get hw d4; replace M := Lib.hid (M.out.below hw); replace B := Lib.hid (gr_tr B.out hw); clear hw hx)
      | (go_at_call 30; (with_reducible refine (Strip_at _ _ _ _ _ k _ X.out S3.out HN.out HK.out).mono ?_); rintro e w2 ⟨p, rfl, hp, hw⟩; replace d0 := below_get hw d0; replace d1 := below_get hw d1; replace d2 := below_get hw d2; replace d3 := below_get hw d3; replace d4 := below_get hw d4; replace M := Lib.hid (M.out.below hw); replace X := Lib.hid (X.out.below hw); replace B := Lib.hid (gr_tr B.out hw); have P := Lib.hid hp; clear hp; clear hw)
      | (go_at_call 31; (with_reducible refine (rStrip_at _ _ _ _ _ k _ M.out S3.out HN.out HK.out).mono ?_); rintro e w3 ⟨q, rfl, hq, hw⟩; replace d0 := below_get hw d0; replace d1 := below_get hw d1; replace d2 := below_get hw d2; replace d3 := below_get hw d3; replace d4 := below_get hw d4; replace M := Lib.hid (M.out.below hw); replace X := Lib.hid (X.out.below hw); replace P := Lib.hid (P.out.below hw); replace B := Lib.hid (gr_tr B.out hw); have Q := Lib.hid hq; clear hq; clear hw)
      | (go_at_call 32; (with_reducible refine (Insert_at _ _ _ _ _ _ _ _ l _ X.out S4.out HI.out HL.out).mono ?_); rintro e w4 ⟨p', rfl, hp, hw⟩; replace d0 := below_get hw d0; replace d1 := below_get hw d1; replace d2 := below_get hw d2; replace d3 := below_get hw d3; replace d4 := below_get hw d4; replace M := Lib.hid (M.out.below hw); replace X := Lib.hid (X.out.below hw); replace P := Lib.hid (P.out.below hw); replace Q := Lib.hid (Q.out.below hw); replace B := Lib.hid (gr_tr B.out hw); have P' := Lib.hid hp; clear hp; clear hw)
      | (go_at_call 33; (with_reducible refine (rInsert_at _ _ _ _ _ _ _ _ l _ M.out S4.out HI.out HL.out).mono ?_); rintro e w5 ⟨q', rfl, hq, hw⟩; replace d0 := below_get hw d0; replace d1 := below_get hw d1; replace d2 := below_get hw d2; replace d3 := below_get hw d3; replace d4 := below_get hw d4; replace M := Lib.hid (M.out.below hw); replace X := Lib.hid (X.out.below hw); replace P := Lib.hid (P.out.below hw); replace Q := Lib.hid (Q.out.below hw); replace P' := Lib.hid (P'.out.below hw); replace B := Lib.hid (gr_tr B.out hw); have Q' := Lib.hid hq; clear hq; clear hw))
    have sp := str_at P.out; have sq := str_at Q.out; have sp' := str_at P'.out; have sq' := str_at Q'.out; have sx := str_at X.out; have sm := str_at M.out
    go_wp2_with (first
      | (go_at_call 18; refine (num_any _ _).mono ?_; rintro e w' ⟨rfl, rfl⟩)
      | (go_at_call 19; refine (works_any _).mono ?_; rintro e w9 ⟨rfl, hw⟩; replace B := Lib.hid (gr_tr B.out hw); clear hw))
    go_ret
    exact ⟨rfl, B.out⟩
  · have q2 : decide ((lm.length : Int) > 100) = true := by simp; omega
    clear h2
    obtain ⟨am, cm, rfl, -⟩ := hm
    go_enter Try.func7, Try.ntmps7
    go_wp2_with (go_at_call 19; refine (works_any _).mono ?_; rintro e w8 ⟨rfl, hw⟩; have B := Lib.hid (gr_tr (gr_tr (gr_alloc _ _) (gr_alloc _ _)) hw); clear hw)
    go_ret
    exact ⟨rfl, B.out⟩

set_option maxRecDepth 4000 in
set_option maxHeartbeats 1600000 in
theorem lawChecks_tail (ty : Int) (fs : Bool) (v : Value) (lv : List (BitVec 8)) (m : Value) (lm : List (BitVec 8)) (cg ca cr : Bool) (ct cm : BitVec 16) (y : BitVec 32) (w : World) (hv : BytesV w v lv) (hm : BytesV w m lm) (h1 : lv.length ≤ 5000) (h2 : lm.length ≤ 100) :
    Calls Try.prog 5 #[.agg #[.int .i64 ty, .bool fs], v, m, .agg #[.bool cg, .bool ca, .bool cr, .int .u16 (uv ct), .int .u16 (uv cm)], .int .u32 (uv y)] w fun e w' => e = .returned (.bool true) ∧ Below w.heap.size w w' := by
  obtain ⟨n, hn⟩ : ∃ n, Prot.wr ty fs false lm.length = n := ⟨_, rfl⟩
  obtain ⟨i, hi⟩ : ∃ n, Prot.wr ty fs true lm.length = n := ⟨_, rfl⟩
  obtain ⟨c, hc⟩ : ∃ c, Prot.chk ty fs lv lm cg ca cr ct cm y = c := ⟨_, rfl⟩
  obtain ⟨g, hg⟩ : ∃ c, Prot.rg ty fs lm = c := ⟨_, rfl⟩
  obtain ⟨a, ha⟩ : ∃ c, Prot.ra ty fs lm = c := ⟨_, rfl⟩
  obtain ⟨r, hr⟩ : ∃ c, Prot.rr ty fs lm = c := ⟨_, rfl⟩
  have h4 := chk_four _ _ _ _ _ _ _ _ _ _ _ hc
  have q1 : decide ((lv.length : Int) > 5000) = false := by simp; omega
  have q2 : decide ((lm.length : Int) > 100) = false := by simp; omega
  have s1 : lv.length + lm.length ≤ 140737488355000 := by omega
  have HQ := Lib.hid (tup_eql g a g a r r)
  have HN := Lib.hid hn; clear hn
  have HI := Lib.hid hi; clear hi
  have HC := Lib.hid hc; clear hc
  have HG := Lib.hid hg; clear hg
  have HA := Lib.hid ha; clear ha
  have HR := Lib.hid hr; clear hr
  have H4 := Lib.hid h4; clear h4
  have S1 := Lib.hid s1; clear s1
  have V := Lib.hid hv; clear hv h1
  have M := Lib.hid hm; clear hm h2
  obtain ⟨av, cv, rfl, -⟩ := id V.out
  obtain ⟨am, cm', rfl, -⟩ := id M.out
  obtain ⟨W, hW⟩ : ∃ W, W = (w.alloc (.cells #[.int .i64 ty, .bool fs] 28)).alloc (.cells #[.bool cg, .bool ca, .bool cr, .int .u16 (uv ct), .int .u16 (uv cm)] 53) := ⟨_, rfl⟩
  have hb1 : Below w.heap.size w W := by subst hW; exact gr_tr (gr_alloc _ _) (gr_alloc _ _)
  have d0 : W.cell? ⟨w.heap.size, 0, none⟩ = some (.int .i64 ty) := by subst hW; simp [go_sem]
  have d1 : W.cell? ⟨w.heap.size, 1, none⟩ = some (.bool fs) := by subst hW; simp [go_sem]
  have d2 : W.cell? ⟨w.heap.size + 1, 0, none⟩ = some (.bool cg) := by subst hW; simp [go_sem]
  have d3 : W.cell? ⟨w.heap.size + 1, 1, none⟩ = some (.bool ca) := by subst hW; simp [go_sem]
  have d4 : W.cell? ⟨w.heap.size + 1, 2, none⟩ = some (.bool cr) := by subst hW; simp [go_sem]
  have d5 : W.cell? ⟨w.heap.size + 1, 3, none⟩ = some (.int .u16 (uv ct)) := by subst hW; simp [go_sem]
  have d6 : W.cell? ⟨w.heap.size + 1, 4, none⟩ = some (.int .u16 (uv cm)) := by subst hW; simp [go_sem]
  replace V := Lib.hid (V.out.below hb1)
  replace M := Lib.hid (M.out.below hb1)
  have B := Lib.hid hb1; clear hb1
  have HW := Lib.hid hW; clear hW
  go_enter Try.func5, Try.ntmps5
  go_upto_region 1 with fail
  rw [← HW.out]
  go_upto_region 7 with (first
    | (go_at_call 25; (with_reducible refine (Check_at _ _ _ _ _ _ _ _ _ _ _ _ _ c _ V.out M.out S1.out HN.out HC.out).mono ?_); rintro e w1 ⟨rfl, hw⟩; replace d0 := below_get hw d0; replace d1 := below_get hw d1; replace d2 := below_get hw d2; replace d3 := below_get hw d3; replace d4 := below_get hw d4; replace d5 := below_get hw d5; replace d6 := below_get hw d6; replace V := Lib.hid (V.out.below hw); replace M := Lib.hid (M.out.below hw); replace B := Lib.hid (gr_tr B.out hw); clear hw)
    | (refine wpList_store_new rfl 55 (.tmp 11) _ rfl (Prot.st c) 55 #[.int .u8 0, .int .u8 0, .bool false, .bool false] rfl rfl (st_info c) (st_size c).symm (st_one c) ?_; intro w2 hr hw; have R1 := Lib.hid hr; replace d0 := below_get hw d0; replace d1 := below_get hw d1; replace d2 := below_get hw d2; replace d3 := below_get hw d3; replace d4 := below_get hw d4; replace d5 := below_get hw d5; replace d6 := below_get hw d6; replace V := Lib.hid (V.out.below hw); replace M := Lib.hid (M.out.below hw); replace B := Lib.hid (gr_tr B.out hw); clear hr hw)
    | (go_at_call 26; (with_reducible refine (rCheck_at _ _ _ _ _ _ _ _ _ _ _ _ _ c _ V.out M.out S1.out HN.out HC.out).mono ?_); rintro e w3 ⟨rfl, hw⟩; replace d0 := below_get hw d0; replace d1 := below_get hw d1; replace d2 := below_get hw d2; replace d3 := below_get hw d3; replace d4 := below_get hw d4; replace d5 := below_get hw d5; replace d6 := below_get hw d6; replace R1 := Lib.hid (blk_below R1.out hw); replace V := Lib.hid (V.out.below hw); replace M := Lib.hid (M.out.below hw); replace B := Lib.hid (gr_tr B.out hw); clear hw)
    | (go_at_call 27; (with_reducible refine (Read_at' _ _ _ _ g a r _ _ M.out HI.out HG.out HA.out HR.out).mono ?_); rintro e w4 ⟨rfl, hw⟩; replace d0 := below_get hw d0; replace d1 := below_get hw d1; replace d2 := below_get hw d2; replace d3 := below_get hw d3; replace d4 := below_get hw d4; replace d5 := below_get hw d5; replace d6 := below_get hw d6; replace R1 := Lib.hid (blk_below R1.out hw); replace V := Lib.hid (V.out.below hw); replace M := Lib.hid (M.out.below hw); replace B := Lib.hid (gr_tr B.out hw); clear hw)
    | (refine wpList_store_new rfl 25 (.tmp 15) _ rfl #[.int .u16 (uv g), .int .u16 (uv a), .int .u32 (uv r)] 25 #[.int .u16 0, .int .u16 0, .int .u32 0] rfl rfl (by kernel_rfl) rfl (by simp [Value.oneCell']) ?_; intro w5 hr hw; have R2 := Lib.hid hr; replace d0 := below_get hw d0; replace d1 := below_get hw d1; replace d2 := below_get hw d2; replace d3 := below_get hw d3; replace d4 := below_get hw d4; replace d5 := below_get hw d5; replace d6 := below_get hw d6; replace R1 := Lib.hid (blk_below R1.out hw); replace V := Lib.hid (V.out.below hw); replace M := Lib.hid (M.out.below hw); replace B := Lib.hid (gr_tr B.out hw); clear hr hw)
    | (go_at_call 28; (with_reducible refine (rRead_at' _ _ _ _ g a r _ _ M.out HI.out HG.out HA.out HR.out).mono ?_); rintro e w6 ⟨rfl, hw⟩; replace d0 := below_get hw d0; replace d1 := below_get hw d1; replace d2 := below_get hw d2; replace d3 := below_get hw d3; replace d4 := below_get hw d4; replace d5 := below_get hw d5; replace d6 := below_get hw d6; replace R1 := Lib.hid (blk_below R1.out hw); replace R2 := Lib.hid (blk_below R2.out hw); replace V := Lib.hid (V.out.below hw); replace M := Lib.hid (M.out.below hw); replace B := Lib.hid (gr_tr B.out hw); clear hw)
    | (refine wpList_store_new rfl 25 (.tmp 17) _ rfl #[.int .u16 (uv g), .int .u16 (uv a), .int .u32 (uv r)] 25 #[.int .u16 0, .int .u16 0, .int .u32 0] rfl rfl (by kernel_rfl) rfl (by simp [Value.oneCell']) ?_; intro w7 hr hw; have R3 := Lib.hid hr; replace d0 := below_get hw d0; replace d1 := below_get hw d1; replace d2 := below_get hw d2; replace d3 := below_get hw d3; replace d4 := below_get hw d4; replace d5 := below_get hw d5; replace d6 := below_get hw d6; replace R1 := Lib.hid (blk_below R1.out hw); replace R2 := Lib.hid (blk_below R2.out hw); replace V := Lib.hid (V.out.below hw); replace M := Lib.hid (M.out.below hw); replace B := Lib.hid (gr_tr B.out hw); clear hr hw))
  have hq := HQ.out
  go_wp2_with (first
    | (refine wpList_load_row rfl 55 (.tmp 11) rfl w1.heap.size rfl 55 (Prot.st c) (0, 0) _ R1.out Try.underlying55 rfl (st_info c) ?_)
    | (refine wpList_unguard (by rfl) (wpList_load_row rfl 25 (.tmp 15) rfl w4.heap.size rfl 25 #[.int .u16 (uv g), .int .u16 (uv a), .int .u32 (uv r)] (0, 0) _ R2.out Try.underlying25 rfl (by kernel_rfl) ?_))
    | (refine wpList_unguard (by rfl) (wpList_load_row rfl 25 (.tmp 17) rfl w6.heap.size rfl 25 #[.int .u16 (uv g), .int .u16 (uv a), .int .u32 (uv r)] (0, 0) _ R3.out Try.underlying25 rfl (by kernel_rfl) ?_))
    | (go_at_call 29; refine (code_any c H4.out _).mono ?_; rintro e w8 ⟨rfl, hw⟩; replace R2 := Lib.hid (blk_below R2.out hw); replace R3 := Lib.hid (blk_below R3.out hw); replace B := Lib.hid (gr_tr B.out hw); clear hw)
    | (go_at_call 18; refine (num_any _ _).mono ?_; rintro e w' ⟨rfl, rfl⟩)
    | (go_at_call 19; refine (works_any _).mono ?_; rintro e w9 ⟨rfl, hw⟩; replace B := Lib.hid (gr_tr B.out hw); clear hw))
  go_ret
  exact ⟨rfl, B.out⟩

theorem lawChecks (ty : Int) (fs : Bool) (v : Value) (lv : List (BitVec 8)) (m : Value) (lm : List (BitVec 8)) (cg ca cr : Bool) (ct cm : BitVec 16) (y : BitVec 32) (w : World) (_ : -9223372036854775808 ≤ ty ∧ ty ≤ 9223372036854775807) (hv : BytesV w v lv) (hm : BytesV w m lm) :
    Calls Try.prog 5 #[.agg #[.int .i64 ty, .bool fs], v, m, .agg #[.bool cg, .bool ca, .bool cr, .int .u16 (uv ct), .int .u16 (uv cm)], .int .u32 (uv y)] w fun e w' => e = .returned (.bool true) ∧ Below w.heap.size w w' := by
  by_cases h1 : lv.length ≤ 5000
  · by_cases h2 : lm.length ≤ 100
    · exact lawChecks_tail ty fs v lv m lm cg ca cr ct cm y w hv hm h1 h2
    · have q1 : decide ((lv.length : Int) > 5000) = false := by simp; omega
      have q2 : decide ((lm.length : Int) > 100) = true := by simp; omega
      clear h1 h2
      obtain ⟨av, cv, rfl, -⟩ := hv
      obtain ⟨am, cm', rfl, -⟩ := hm
      go_enter Try.func5, Try.ntmps5
      go_wp2_with (go_at_call 19; refine (works_any _).mono ?_; rintro e w8 ⟨rfl, hw⟩; have B := Lib.hid (gr_tr (gr_tr (gr_alloc _ _) (gr_alloc _ _)) hw); clear hw)
      go_ret
      exact ⟨rfl, B.out⟩
  · have q1 : decide ((lv.length : Int) > 5000) = true := by simp; omega
    clear h1
    obtain ⟨av, cv, rfl, -⟩ := hv
    obtain ⟨am, cm', rfl, -⟩ := hm
    go_enter Try.func5, Try.ntmps5
    go_wp2_with (go_at_call 19; refine (works_any _).mono ?_; rintro e w8 ⟨rfl, hw⟩; have B := Lib.hid (gr_tr (gr_tr (gr_alloc _ _) (gr_alloc _ _)) hw); clear hw)
    go_ret
    exact ⟨rfl, B.out⟩
end Go.Proofs.Ytmccihngbdopdaa
