/- The walk of capsulelaw17.ProtectGenerates. -/
import Derived.Test.YtmccihngbdopdaaLaw17B
namespace Go.Proofs.Ytmccihngbdopdaa
open Go.RowKit
set_option linter.unusedVariables false
set_option linter.unusedSimpArgs false

theorem Generate_at (ty : Int) (fs : Bool) (v m : Value) (lv lm : List (BitVec 8)) (a : BitVec 16) (r : BitVec 32) (n : Int) (k : List (BitVec 8)) (w : World) (hv : BytesV w v lv) (hm : BytesV w m lm) (hs : lv.length + lm.length ≤ 140737488355000) (hn : Prot.wr ty fs false lm.length = n) (hk : Prot.gen ty fs lv lm a r = k) :
    Calls Try.prog 20 #[.agg #[.int .i64 ty, .bool fs], v, m, .int .u16 (uv a), .int .u32 (uv r)] w fun e w' => ∃ u, e = .returned (.tuple #[u, .int .i64 n]) ∧ BytesV w' u k ∧ Below w.heap.size w w' := by
  subst hn hk; exact Generate_any ty fs v m lv lm a r w hv hm hs
theorem rGenerate_at (ty : Int) (fs : Bool) (v m : Value) (lv lm : List (BitVec 8)) (a : BitVec 16) (r : BitVec 32) (n : Int) (k : List (BitVec 8)) (w : World) (hv : BytesV w v lv) (hm : BytesV w m lm) (hs : lv.length + lm.length ≤ 140737488355000) (hn : Prot.wr ty fs false lm.length = n) (hk : Prot.gen ty fs lv lm a r = k) :
    Calls Try.prog 21 #[.agg #[.int .i64 ty, .bool fs], v, m, .int .u16 (uv a), .int .u32 (uv r)] w fun e w' => ∃ u, e = .returned (.tuple #[u, .int .i64 n]) ∧ BytesV w' u k ∧ Below w.heap.size w w' := by
  subst hn hk; exact rGenerate_any ty fs v m lv lm a r w hv hm hs
theorem Guard_any' (ty : Int) (fs : Bool) (v m : Value) (lv lm : List (BitVec 8)) (n : Int) (g : BitVec 16) (w : World) (hv : BytesV w v lv) (hm : BytesV w m lm) (hs : lv.length + lm.length ≤ 140737488355328) (hn : Prot.wr ty fs false lm.length = n) (hg : Prot.guard ty fs lv lm = g) :
    Calls Try.prog 22 #[.agg #[.int .i64 ty, .bool fs], v, m] w fun e w' => e = .returned (.tuple #[.int .u16 (if n = 0 then uv g else 0), .int .i64 n]) ∧ Below w.heap.size w w' := by
  subst hn hg; exact Guard_any ty fs v m lv lm w hv hm hs
theorem rGuard_at' (ty : Int) (fs : Bool) (v m : Value) (lv lm : List (BitVec 8)) (g : BitVec 16) (w : World) (hv : BytesV w v lv) (hm : BytesV w m lm) (hn : Prot.wr ty fs false lm.length = 0) (hs : lv.length + lm.length ≤ 140737488355328) (hg : Prot.guard ty fs lv lm = g) :
    Calls Try.prog 24 #[.agg #[.int .i64 ty, .bool fs], v, m] w fun e w' => e = .returned (.int .u16 (uv g)) ∧ Below w.heap.size w w' := by
  obtain ⟨hok, -, h8⟩ := Prot.wr_ok hn
  exact rGuard_at ty fs v m lv lm g w hv hm h8 (Prot.valid_range hok).1 hs hg
/-- What the law compares: the string of what was made and of what was wanted. -/
theorem str_at {w : World} {v : Value} {l : List (BitVec 8)} (h : BytesV w v l) : (convert 35 9 v).run Try.prog w = .ok (.string (strOf l)) w := run_string h
set_option maxRecDepth 4000 in
set_option maxHeartbeats 1600000 in
theorem lawGen_tail (ty : Int) (fs : Bool) (v m : Value) (lv lm : List (BitVec 8)) (a : BitVec 16) (r : BitVec 32) (w : World) (hv : BytesV w v lv) (hm : BytesV w m lm) (h1 : lv.length ≤ 5000) (h2 : lm.length ≤ 100) :
    Calls Try.prog 4 #[.agg #[.int .i64 ty, .bool fs], v, m, .int .u16 (uv a), .int .u32 (uv r)] w fun e w' => e = .returned (.bool true) ∧ Below w.heap.size w w' := by
  obtain ⟨n, hn⟩ : ∃ n, Prot.wr ty fs false lm.length = n := ⟨_, rfl⟩
  obtain ⟨k, hk⟩ : ∃ k, Prot.gen ty fs lv lm a r = k := ⟨_, rfl⟩
  obtain ⟨g, hg⟩ : ∃ g, Prot.guard ty fs lv lm = g := ⟨_, rfl⟩
  have q1 : decide ((lv.length : Int) > 5000) = false := by simp; omega
  have q2 : decide ((lm.length : Int) > 100) = false := by simp; omega
  have s1 : lv.length + lm.length ≤ 140737488355000 := by omega
  have s2 : lv.length + lm.length ≤ 140737488355328 := by omega
  have s3 : lv.length ≤ 140737488355328 := by omega
  have s4 : lm.length ≤ 140737488355328 := by omega
  have hc := hn ▸ Prot.wr_cases ty fs false lm.length
  have S1 := Lib.hid s1; have S2 := Lib.hid s2; have S3 := Lib.hid s3; have S4 := Lib.hid s4
  have HN := Lib.hid hn; have HK := Lib.hid hk; have HG := Lib.hid hg
  have V := Lib.hid hv; have M := Lib.hid hm
  clear h1 h2 s1 s2 s3 s4 hn hk hg hv hm
  obtain ⟨av, cv, rfl, -⟩ := id V.out
  obtain ⟨am, cm, rfl, -⟩ := id M.out
  have hb1 := gr_alloc w (.cells #[.int .i64 ty, .bool fs] 28)
  replace V := Lib.hid (V.out.below hb1); replace M := Lib.hid (M.out.below hb1)
  have B := Lib.hid hb1; clear hb1
  have hd0 : (w.alloc (.cells #[.int .i64 ty, .bool fs] 28)).cell? ⟨w.heap.size, 0, none⟩ = some (.int .i64 ty) := by simp [go_sem]
  have hd1 : (w.alloc (.cells #[.int .i64 ty, .bool fs] 28)).cell? ⟨w.heap.size, 1, none⟩ = some (.bool fs) := by simp [go_sem]
  have D0 := Lib.hid hd0; have D1 := Lib.hid hd1; clear hd0 hd1
  have hz1 : w.heap.size + 1 = (w.alloc (.cells #[.int .i64 ty, .bool fs] 28)).heap.size := by simp
  have HZ1 := Lib.hid hz1; clear hz1
  rcases hc with rfl | rfl | rfl
  all_goals
    go_enter Try.func4, Try.ntmps4
    go_upto_region 4 with (first
      | (at_builtin; refine app_fresh rfl (.tmp 30) (.tmp 31) rfl _ rfl HZ1.out _ lv rfl V.out S3.out ?_; intro x w1 hx hw; have X := Lib.hid (BytesV.of_own hx); have d0 := below_get hw D0.out; have d1 := below_get hw D1.out; replace V := Lib.hid (V.out.below hw); replace M := Lib.hid (M.out.below hw); replace B := Lib.hid (gr_tr B.out hw); clear hw hx)
      | (at_builtin; refine app_fresh rfl (.tmp 33) (.tmp 34) rfl _ rfl rfl _ lm rfl M.out S4.out ?_; intro y w2 hy hw; have Y := Lib.hid (BytesV.of_own hy); replace d0 := below_get hw d0; replace d1 := below_get hw d1; replace V := Lib.hid (V.out.below hw); replace M := Lib.hid (M.out.below hw); replace X := Lib.hid (X.out.below hw); replace B := Lib.hid (gr_tr B.out hw); clear hw hy))
    go_upto_region 9 with (first
      | (go_at_call 20; (with_reducible refine (Generate_at _ _ _ _ _ _ _ _ _ k _ X.out Y.out S1.out HN.out HK.out).mono ?_); rintro e w3 ⟨p, rfl, hp, hw⟩; replace d0 := below_get hw d0; replace d1 := below_get hw d1; replace V := Lib.hid (V.out.below hw); replace M := Lib.hid (M.out.below hw); replace X := Lib.hid (X.out.below hw); replace Y := Lib.hid (Y.out.below hw); replace B := Lib.hid (gr_tr B.out hw); have P := Lib.hid hp; clear hp; clear hw)
      | (go_at_call 21; (with_reducible refine (rGenerate_at _ _ _ _ _ _ _ _ _ k _ V.out M.out S1.out HN.out HK.out).mono ?_); rintro e w4 ⟨q, rfl, hq, hw⟩; replace d0 := below_get hw d0; replace d1 := below_get hw d1; replace V := Lib.hid (V.out.below hw); replace M := Lib.hid (M.out.below hw); replace X := Lib.hid (X.out.below hw); replace Y := Lib.hid (Y.out.below hw); replace P := Lib.hid (P.out.below hw); replace B := Lib.hid (gr_tr B.out hw); have Q := Lib.hid hq; clear hq; clear hw)
      | (go_at_call 22; (with_reducible refine (Guard_any' _ _ _ _ _ _ _ g _ X.out Y.out S2.out HN.out HG.out).mono ?_); rintro e w5 ⟨rfl, hw⟩; replace d0 := below_get hw d0; replace d1 := below_get hw d1; replace V := Lib.hid (V.out.below hw); replace M := Lib.hid (M.out.below hw); replace X := Lib.hid (X.out.below hw); replace Y := Lib.hid (Y.out.below hw); replace P := Lib.hid (P.out.below hw); replace Q := Lib.hid (Q.out.below hw); replace B := Lib.hid (gr_tr B.out hw); clear hw)
      | (go_at_call 23; (with_reducible refine (Wrong_any _ _ _ _ _ _ M.out HN.out).mono ?_); rintro e w6 ⟨rfl, hw⟩; replace d0 := below_get hw d0; replace d1 := below_get hw d1; replace V := Lib.hid (V.out.below hw); replace M := Lib.hid (M.out.below hw); replace X := Lib.hid (X.out.below hw); replace Y := Lib.hid (Y.out.below hw); replace P := Lib.hid (P.out.below hw); replace Q := Lib.hid (Q.out.below hw); replace B := Lib.hid (gr_tr B.out hw); clear hw))
    have sp := str_at P.out; have sq := str_at Q.out; have sx := str_at X.out; have sy := str_at Y.out; have sv := str_at V.out; have sm := str_at M.out
    go_wp2_with (first
      | (go_at_call 24; (with_reducible refine (rGuard_at' _ _ _ _ _ _ g _ V.out M.out HN.out S2.out HG.out).mono ?_); rintro e w7 ⟨rfl, hw⟩; replace V := Lib.hid (V.out.below hw); replace M := Lib.hid (M.out.below hw); replace X := Lib.hid (X.out.below hw); replace Y := Lib.hid (Y.out.below hw); replace P := Lib.hid (P.out.below hw); replace Q := Lib.hid (Q.out.below hw); replace B := Lib.hid (gr_tr B.out hw); clear hw; have sp := str_at P.out; have sq := str_at Q.out; have sx := str_at X.out; have sy := str_at Y.out; have sv := str_at V.out; have sm := str_at M.out)
      | (go_at_call 18; refine (num_any _ _).mono ?_; rintro e w' ⟨rfl, rfl⟩)
      | (go_at_call 19; refine (works_any _).mono ?_; rintro e w8 ⟨rfl, hw⟩; replace B := Lib.hid (gr_tr B.out hw); clear hw))
    go_ret
    exact ⟨rfl, B.out⟩

theorem lawGen (ty : Int) (fs : Bool) (v : Value) (lv : List (BitVec 8)) (m : Value) (lm : List (BitVec 8)) (a : BitVec 16) (r : BitVec 32) (w : World) (_ : -9223372036854775808 ≤ ty ∧ ty ≤ 9223372036854775807) (hv : BytesV w v lv) (hm : BytesV w m lm) :
    Calls Try.prog 4 #[.agg #[.int .i64 ty, .bool fs], v, m, .int .u16 (uv a), .int .u32 (uv r)] w fun e w' => e = .returned (.bool true) ∧ Below w.heap.size w w' := by
  by_cases h1 : lv.length ≤ 5000
  · by_cases h2 : lm.length ≤ 100
    · exact lawGen_tail ty fs v m lv lm a r w hv hm h1 h2
    · have q1 : decide ((lv.length : Int) > 5000) = false := by simp; omega
      have q2 : decide ((lm.length : Int) > 100) = true := by simp; omega
      clear h1 h2
      obtain ⟨av, cv, rfl, -⟩ := hv
      obtain ⟨am, cm, rfl, -⟩ := hm
      go_enter Try.func4, Try.ntmps4
      go_wp2_with (go_at_call 19; refine (works_any _).mono ?_; rintro e w8 ⟨rfl, hw⟩; have B := Lib.hid (gr_tr (gr_alloc _ _) hw); clear hw)
      go_ret
      exact ⟨rfl, B.out⟩
  · have q1 : decide ((lv.length : Int) > 5000) = true := by simp; omega
    clear h1
    obtain ⟨av, cv, rfl, -⟩ := hv
    obtain ⟨am, cm, rfl, -⟩ := hm
    go_enter Try.func4, Try.ntmps4
    go_wp2_with (go_at_call 19; refine (works_any _).mono ?_; rintro e w8 ⟨rfl, hw⟩; have B := Lib.hid (gr_tr (gr_alloc _ _) hw); clear hw)
    go_ret
    exact ⟨rfl, B.out⟩
end Go.Proofs.Ytmccihngbdopdaa
