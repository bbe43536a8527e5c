/- The walks of package wire: each over sizes, All, Next, Zeros. -/
import Derived.Test.YtabfmhlhdebcpaaGreatDoorWireE
namespace Go.Proofs.YtabfmhlhdebcpaaGreatDoor
open Go.RowKit
set_option linter.unusedVariables false
set_option linter.unusedSimpArgs false
namespace Wire
/-- Reading fields: the error, the values, what is left. -/
def readE (l : List (BitVec 8)) : List Int → Int
  | [] => 0
  | k :: ks => if takeE l k = 0 then readE (l.drop k.toNat) ks else takeE l k
def readL (l : List (BitVec 8)) : List Int → List (BitVec 8)
  | [] => l
  | k :: ks => readL (l.drop k.toNat) ks
def readV (l : List (BitVec 8)) : List Int → List (BitVec 64)
  | [] => []
  | k :: ks => get (l.take k.toNat) :: readV (l.drop k.toNat) ks
def readN : List Int → Nat
  | [] => 0
  | k :: ks => k.toNat + readN ks
theorem takeE_cases (l : List (BitVec 8)) (k : Int) : takeE l k ≠ 0 ∨ (takeE l k = 0 ∧ ∃ j : Nat, k = j ∧ 1 ≤ j ∧ j ≤ 8 ∧ j ≤ l.length) := by
  unfold takeE
  by_cases h : k < 1 ∨ 8 < k
  · rw [if_pos h]; exact .inl (by omega)
  · rw [if_neg h]
    by_cases h2 : (l.length : Int) < k
    · rw [if_pos h2]; exact .inl (by omega)
    · rw [if_neg h2]; exact .inr ⟨rfl, k.toNat, by omega, by omega, by omega, by omega⟩
theorem read_snoc (l : List (BitVec 8)) (ks : List Int) (k : Int) : readL l (ks ++ [k]) = (readL l ks).drop k.toNat ∧ readV l (ks ++ [k]) = readV l ks ++ [get ((readL l ks).take k.toNat)] ∧ readN (ks ++ [k]) = readN ks + k.toNat ∧ (readE l ks = 0 → readE l (ks ++ [k]) = takeE (readL l ks) k) := by
  induction ks generalizing l with
  | nil => refine ⟨rfl, rfl, by simp [readN], fun _ => ?_⟩; simp only [List.nil_append, readE, readL]; split <;> omega
  | cons j ks ih =>
    obtain ⟨h1, h2, h3, h4⟩ := ih (l.drop j.toNat)
    refine ⟨by simpa [readL] using h1, by simp [readV, readL, h2], by simp [readN, h3]; omega, fun h => ?_⟩
    simp only [List.cons_append, readE, readL] at h ⊢
    split at h
    · rename_i e; rw [if_pos e]; exact h4 h
    · rename_i e; exact absurd h e
theorem read_take (l : List (BitVec 8)) (ks : List Int) (i : Nat) (k : Int) (h : ks[i]? = some k) : ks.take (i + 1) = ks.take i ++ [k] := by
  obtain ⟨hk, rfl⟩ := List.getElem?_eq_some_iff.1 h
  exact List.take_succ_eq_append_getElem hk
theorem readE_stop (l : List (BitVec 8)) (ks : List Int) (i : Nat) (k : Int) (h : ks[i]? = some k) (h0 : readE l (ks.take i) = 0) (he : takeE (readL l (ks.take i)) k ≠ 0) : readE l ks = takeE (readL l (ks.take i)) k := by
  induction ks generalizing l i with
  | nil => simp at h
  | cons j ks ih =>
    cases i with
    | zero => simp at h; subst h; simp only [List.take_zero, readL, readE] at he ⊢; rw [if_neg he]
    | succ i =>
      simp at h
      simp only [List.take_succ_cons, readE, readL] at h0 he ⊢
      split at h0
      · rename_i e; rw [if_pos e]; exact ih _ i h h0 he
      · rename_i e; exact absurd h0 e
theorem readV_len (l : List (BitVec 8)) (ks : List Int) : (readV l ks).length = ks.length := by
  induction ks generalizing l with
  | nil => rfl
  | cons k ks ih => simp [readV, ih]
end Wire
def IntsV (w : World) (v : Value) (ks : List Int) : Prop :=
  ∃ a c, v = .slice a ks.length c ∧ (a = none → c = 0) ∧ ks.length ≤ c ∧ c ≤ 9223372036854775807 ∧ Row w a (ks.map (Value.int .i64))
theorem IntsV.below {w w' : World} {v : Value} {ks : List Int} (h : IntsV w v ks) (hb : Below w.heap.size w w') : IntsV w' v ks := by
  obtain ⟨a, c, e, h0, h1, h2, h3⟩ := h
  exact ⟨a, c, e, h0, h1, h2, h3.below hb⟩
theorem wordsOk : ElemOk Tryz.prog 184 86 (.int .u64 0) 1 8 :=
  ⟨Tryz.underlying184, info_parts (by kernel_rfl), rfl, by decide⟩
theorem wd_one (l : List (BitVec 64)) : ∀ u ∈ wd l, u.oneCell' = true := by
  intro u hu
  obtain ⟨x, _, rfl⟩ := List.mem_map.1 hu
  rfl
theorem Chg.below_base {w a b : World} (B : Nat → Prop) (h : Chg B w a) {row : Option Nat} (hg : a.grownBy b row) (hr : ∀ k, row = some k → w.heap.size ≤ k) : Chg B w b :=
  ⟨hg.os.trans h.os, hg.tape.trans h.tape, hg.output.trans h.output, Nat.le_trans h.size hg.size, fun k hk hn => (hg.block k (Nat.lt_of_lt_of_le hk h.size) (fun e => by have := hr k e.symm; omega)).trans (h.block k hk hn)⟩
theorem own_gt {w : World} {base q : Nat} {e : TypeId} {size n : Nat} {v : Value} {xs : List Value} (h : w.ownsRow base e size v n xs) (hq : q < base) : ∀ k, v.ownBlock = some k → q < k :=
  fun k hk => Nat.lt_of_lt_of_le hq (h.lt k hk).1
theorem some_none {α : Type} {a : α} {p : Prop} : some a = none → p := fun h => by cases h
theorem own_ne_rd {w : World} {base : Nat} {e : TypeId} {size n : Nat} {v u : Value} {xs : List Value} {T : TypeId} {r d m : Nat} {l : List (BitVec 8)} (h : w.ownsRow base e size v n xs) (hr : RdAt w T r d u l m) (hT : T ≠ e) : ∀ g, v.ownBlock = some g → ¬ g = r := by
  intro g hg hgr
  subst hgr
  obtain ⟨h1, h2⟩ := h
  rcases h2 with ⟨rfl, _⟩ | ⟨g', cap, cur, rfl, _, hh, _⟩
  · simp [Value.ownBlock] at hg
  · simp [Value.ownBlock] at hg
    subst hg
    have := hr.blk
    rw [hh] at this
    simp at this
    exact hT this.2.symm
theorem word_row {w : World} {g : Nat} {y : BitVec 64} (h : w.heap[g]? = some (.cells #[.int .u64 (uv y)] 86 (0, 0))) : Row w (some ⟨g, 0, none⟩) [.int .u64 (uv y)] := by
  refine .inr ⟨g, 0, rfl, fun i hi => ?_⟩
  rw [cell_of_row _ _ _ _ _ _ h]; simp
/-- A reader stays as it was where something of the call's own has changed. -/
theorem RdAt.base {w w' : World} {T : TypeId} {r d m : Nat} {u : Value} {l : List (BitVec 8)} {row : Option Nat} (h : RdAt w T r d u l m) (hg : w.grownBy w' row) (hr : ∀ k, row = some k → r < k) : RdAt w' T r d u l m := by
  have hb : Below (r + 1) w w' := ⟨hg.os, hg.tape, hg.output, hg.size, fun k hk => hg.block k (by have := h.lt; omega) (fun e => by have := hr k e.symm; omega)⟩
  refine ⟨(hb.block r (by omega)).trans h.blk, ?_, h.small, h.old, h.le⟩
  have hdr := h.le
  obtain ⟨a, c, e, h0, h1, h2, h3⟩ := h.bytes
  refine ⟨a, c, e, h0, h1, h2, ?_⟩
  rcases h3 with h3 | ⟨b, o, rfl, h3⟩
  · exact .inl h3
  · have := h.old _ _ _ e
    exact .inr ⟨b, o, rfl, fun i hi => by rw [hb.cell (p := ⟨b, o + i, none⟩) (by show b < r + 1; simp only at this; omega)]; exact h3 i hi⟩
/-- 'append(own, y)' at words. -/
theorem app_word {ops : Array Oper} {rest : List Oper} {o : Oper} {a : Act} {Q : Exit → Act → World → Prop} {W : World} (hgd : o.guard = none) (s x : Operand) (ho : o.op = .call { callee := .builtin .append, args := #[s, x], argTypes := #[184, 184] })
    (u : Value) (base n : Nat) (ks : List (BitVec 64)) (hs : a.eval s = u) (hown : W.ownsRow base 86 1 u n (wd ks)) (hbase : base ≤ W.heap.size)
    (g : Nat) (y : BitVec 64) (hx : a.eval x = .slice (some ⟨g, 0, none⟩) 1 1) (hg : W.heap[g]? = some (.cells #[.int .u64 (uv y)] 86 (0, 0))) (hl : n ≤ 1000000000)
    (h : ∀ v' w', w'.ownsRow base 86 1 v' (n + 1) (wd (ks ++ [y])) → W.grownBy w' u.ownBlock → (v'.ownBlock = u.ownBlock ∨ v'.ownBlock = some W.heap.size) → wpList Tryz.prog ops Q rest (a.put o.dst v') w') : wpList Tryz.prog ops Q (o :: rest) a W := by
  refine app_law_at wordsOk hgd s x ho base u n (wd ks) hs hown (some ⟨g, 0, none⟩) 1 1 [.int .u64 (uv y)] hx some_none (Nat.le_refl _) (word_row hg) rfl (wd_one [y]) (by omega) (by omega) hbase ?_
  intro v' w' h1 h2 h3
  exact h v' w' (by unfold wd at h1 ⊢; rw [List.map_append]; exact h1) h2 h3
theorem each_step {w wr w1 w2 : World} {q d n : Nat} {u v1 : Value} {xs : List Value} {T : TypeId} {l : List (BitVec 8)} {m : Nat} (hc : Chg (fun b => b = q) w wr) (c1 : Chg (fun b => b = q) wr w1) (o1 : w1.ownsRow w.heap.size 86 1 u n xs) (r1 : RdAt w1 T q d v1 l m) (hq : q < w.heap.size) (hg : w1.grownBy w2 u.ownBlock) : RdAt w2 T q d v1 l m ∧ Chg (fun b => b = q) w w2 :=
  ⟨r1.base hg (own_gt o1 hq), Chg.below_base (fun b => b = q) (hc.trans c1) hg (fun k hk => ((o1.lt) k hk).1)⟩
set_option maxHeartbeats 1600000 in
theorem eachU_any {d : Nat} (q : Nat) (T : TypeId) (v : Value) (l : List (BitVec 8)) (n : Nat) (u : Value) (ks : List Int) (w : World) (hq : RdAt w T q d v l n) (hT : T ≠ 86) (hu : IntsV w u ks) (hoff : ∀ g o m c, u = .slice (some ⟨g, o, none⟩) m c → 0 < m → ¬ g = q) (hs : ks.length ≤ 100000) :
    Calls Tryz.prog 124 #[u, .func (.func 125) #[.pointer (some ⟨q, 0, none⟩)] #[]] w fun e w' =>
      (Wire.readE l ks ≠ 0 → e = .returned (.tuple #[.slice none 0 0, .int .i64 (Wire.readE l ks)])) ∧
      (Wire.readE l ks = 0 → ∃ x v', e = .returned (.tuple #[x, .int .i64 0]) ∧ w'.ownsRow w.heap.size 86 1 x ks.length (wd (Wire.readV l ks)) ∧ RdAt w' T q d v' (Wire.readL l ks) (n + Wire.readN ks)) ∧ Chg (fun b => b = q) w w' := by
  obtain ⟨a, c, rfl, hn, hc, hm, hrow⟩ := hu
  have HROW := Lib.hid hrow; clear hrow
  have HQ := Lib.hid hq; clear hq
  have QLT := Lib.hid HQ.out.lt
  have hm' : ks.length ≤ 9223372036854775807 := by omega
  go_enter Tryz.func124, Tryz.ntmps124
  go_wp2
  go_loopw [4, 12] (fun u i wr => ∃ (k : Nat) (v' : Value), k ≤ ks.length ∧ i = .int .i64 k ∧ Hid (Wire.readE l (ks.take k) = 0) ∧ wr.ownsRow w.heap.size 86 1 u k (wd (Wire.readV l (ks.take k))) ∧ RdAt wr T q d v' (Wire.readL l (ks.take k)) (n + Wire.readN (ks.take k)) ∧ Chg (fun b => b = q) w wr) (fun _ i _ => ks.length - (intOf i).toNat)
  case atStart => exact ⟨0, v, by omega, rfl, rfl, World.ownsRow_nil _ _ _ _, HQ.out, Chg.refl _ _⟩
  case round =>
    obtain ⟨k, v', hk, rfl, hE, hown, hrd, hb⟩ := hrel
    have HO := Lib.hid hown; clear hown
    have HR := Lib.hid hrd; clear hrd
    have HC := Lib.hid hb; clear hb
    have hE := hE
    by_cases hlt : k < ks.length
    · obtain ⟨x, hx⟩ : ∃ f, ks[k]? = some f := ⟨ks[k], List.getElem?_eq_getElem hlt⟩
      obtain ⟨b, o, rfl, c0'⟩ := HROW.out.at (i := k) (v := .int .i64 x) (by simp [hx])
      have hne : ¬ b = q := hoff b o _ _ rfl (by omega)
      have c0 := HC.out.cell c0' hne
      clear c0' hne
      obtain ⟨s1, s2, s3, s4⟩ := Wire.read_snoc l (ks.take k) x
      rw [← Wire.read_take l ks k x hx] at s1 s2 s3 s4
      have s4 := s4 hE.out
      have hst := Wire.readE_stop l ks k x hx hE.out
      obtain ⟨lk, hlk⟩ : ∃ z, Wire.readL l (ks.take k) = z := ⟨_, rfl⟩
      have hRd := HR.out
      rw [hlk] at s1 s2 s4 hst hRd
      have HR' := Lib.hid hRd
      have HLK := Lib.hid hlk
      have S1 := Lib.hid s1; have S2 := Lib.hid s2; have S3 := Lib.hid s3
      clear s1 s2 s3 hRd hlk hx
      rcases Wire.takeE_cases lk x with hne | ⟨h0, j, rfl, j1, j8, jl⟩
      · obtain ⟨e, he⟩ : ∃ e, Wire.takeE lk x = e := ⟨_, rfl⟩
        rw [he] at hne hst
        have hq : (e != 0) = true := by simpa using hne
        have HE := Lib.hid he; have HNE := Lib.hid hne; have HST := Lib.hid (hst hne)
        clear he hne s4 hst
        go_wp2_with (go_at_call 125; refine (field_no q T v' lk _ x e _ HR'.out HE.out HNE.out).mono ?_; rintro r w' ⟨rfl, rfl⟩)
        go_ret2
        exact ⟨fun _ => by rw [HST.out]; rfl, fun h => absurd (HST.out.symm.trans h) HNE.out, HC.out⟩
      · rw [h0] at s4
        obtain ⟨y, hy⟩ : ∃ y, Wire.get (lk.take j) = y := ⟨_, rfl⟩
        have J1 := Lib.hid j1; have J8 := Lib.hid j8; have JL := Lib.hid jl
        clear j1 j8 jl
        have hk1 : k ≤ 1000000000 := by omega
        have HK1 := Lib.hid hk1; clear hk1
        have HY := Lib.hid hy; have S4 := Lib.hid s4
        clear hy s4 hst h0
        go_wp2_with (first
          | (go_at_call 125; refine (field_ok q T v' lk _ j y _ HR'.out J1.out J8.out JL.out HY.out).mono ?_; rintro r w1 ⟨g, rfl, hg, hb1, ⟨v1, hr1⟩, hc1⟩; have G := Lib.hid hg; have R1 := Lib.hid hr1; have C1 := Lib.hid hc1; have O1 := Lib.hid (own_chg HO.out hc1 (own_ne_rd HO.out HR'.out hT)); have Z1 := Lib.hid (Nat.le_trans HC.out.size hc1.size); clear hg hr1 hc1)
          | (at_builtin; refine app_word rfl (.tmp 25) (.tmp 26) rfl _ w.heap.size k _ rfl O1.out Z1.out g y rfl hb1.out HK1.out ?_; intro v2 w2 hown hgr hat; have O2 := Lib.hid hown; have Z2 := Lib.hid (each_step HC.out C1.out O1.out R1.out QLT.out hgr); clear hown hgr hat))
        go_roundw
        case rel => exact ⟨k + 1, v1, by omega, by go_num, S4.out, by rw [S2.out, Int.toNat_natCast, HY.out]; exact O2.out, by rw [S1.out, S3.out, Int.toNat_natCast, ← Nat.add_assoc]; exact Z2.out.1, Z2.out.2⟩
        case measure => simp [intOf]; omega
    · obtain rfl : k = ks.length := by omega
      go_wp2
      go_ret2
      have h1 := hE.out
      have h2 := HO.out
      have h3 := HR.out
      rw [List.take_length] at h1 h2 h3
      exact ⟨fun h => absurd h1 h, fun _ => ⟨_, _, rfl, h2, h3⟩, HC.out⟩

theorem chg_new {w w1 w2 : World} {q : Nat} (h : Chg (fun b => b = q) w1 w2) (hb : Below w.heap.size w w1) (hq : w.heap.size ≤ q) : Below w.heap.size w w2 :=
  ⟨h.os.trans hb.os, h.tape.trans hb.tape, h.output.trans hb.output, Nat.le_trans hb.size h.size, fun k hk => (h.block k (Nat.lt_of_lt_of_le hk hb.size) (by omega)).trans (hb.block k hk)⟩
theorem intsv_lt {w : World} {u : Value} {ks : List Int} (h : IntsV w u ks) : ∀ g o m c, u = .slice (some ⟨g, o, none⟩) m c → 0 < m → g < w.heap.size := by
  intro g o m c e hm
  obtain ⟨a, c', e1, h0, h1, h2, h3⟩ := h
  rw [e1] at e
  cases e
  exact h3.lt (by intro e; have := congrArg List.length e; simp at this; subst this; simp at hm)
theorem word_cell {w : World} {base : Nat} {v : Value} {x : BitVec 64} (h : w.ownsRow base 86 1 v 1 (wd [x])) : ∃ g c, v = .slice (some ⟨g, 0, none⟩) 1 c ∧ w.cell? ⟨g, 0, none⟩ = some (.int .u64 (uv x)) := by
  have hc := h
  obtain ⟨h1, h2⟩ := h
  rcases h2 with ⟨_, e⟩ | ⟨g, cap, cur, rfl, hg, hh, r1, r2, r3, r4⟩
  · simp at e
  · exact ⟨g, cap, rfl, by have := hc.cellAt 0 (by omega); simpa [wd] using this⟩
theorem RdAt.moved {w : World} {T : TypeId} {q p d : Nat} {v : Value} {l : List (BitVec 8)} {n : Nat} {cs : Array Value} (h : RdAt w T q d v l n) (hp : w.heap[p]? = some (.cells cs T (0, 0))) (hd : d ≤ p) : RdAt (w.setRow p #[v, .int .i64 n]) T p d v l n :=
  ⟨setRow_heap _ _ _ _ _ _ hp, h.bytes.chg (B := fun b => b = p) (Chg.setRow (B := fun b => b = p) w rfl _) (fun g o m c e hg => by have := h.old _ _ _ e; simp only at this; omega), h.small, h.old, hd⟩
set_option maxHeartbeats 1600000 in
theorem All_no {d : Nat} (p : Nat) (v : Value) (l : List (BitVec 8)) (n : Nat) (u : Value) (ks : List Int) (er : Int) (w : World) (hp : RdAt w 181 p d v l n) (hu : IntsV w u ks) (hs : ks.length ≤ 100000) (her : Wire.readE l ks = er) (he : er ≠ 0) :
    Calls Tryz.prog 114 #[.pointer (some ⟨p, 0, none⟩), u] w fun e w' => e = .returned (.tuple #[.slice none 0 0, .int .i64 er]) ∧ Below w.heap.size w w' := by
  have hmf : ∀ (fn : Fn) (first cap : Array Value) (w : World), (Instr.makeFunc fn first cap).run Tryz.prog w = .ok (.func fn first cap) w := fun _ _ _ _ => rfl
  have d0 : w.cell? ⟨p, 0, none⟩ = some v := (cell_of_row _ _ 0 _ _ _ hp.blk).trans rfl
  have d1 : w.cell? ⟨p, 1, none⟩ = some (.int .i64 n) := (cell_of_row _ _ 1 _ _ _ hp.blk).trans rfl
  have P := Lib.hid hp; have U := Lib.hid hu; have PLT := Lib.hid hp.lt; have HS := Lib.hid hs; have HER := Lib.hid her
  have hq : (er == 0) = false := by simpa using he
  have HE := Lib.hid he
  clear hp hu hs her he
  obtain ⟨av, nv, cv, rfl⟩ := bytes_shape P.out.bytes
  obtain ⟨W, hW⟩ : ∃ W, W = w.alloc (.cells #[.slice av nv cv, .int .i64 n] 181) := ⟨_, rfl⟩
  have hbW : Below w.heap.size w W := by subst hW; exact gr_alloc _ _
  have hqW : RdAt W 181 w.heap.size d (.slice av nv cv) l n := by
    subst hW
    exact ⟨heap_alloc_new _ _, P.out.bytes.below (gr_alloc _ _), P.out.small, P.out.old, Nat.le_trans P.out.le (Nat.le_of_lt PLT.out)⟩
  have BW := Lib.hid hbW; have QW := Lib.hid hqW; have HW := Lib.hid hW
  clear hbW hqW hW
  go_enter Tryz.func114, Tryz.ntmps114
  go_upto_region 2 with (go_at_call 112; refine (state_some p _).mono ?_; rintro e w' ⟨rfl, rfl⟩)
  rw [← HW.out]
  clear d0 d1
  go_wp2_with (go_at_call 124; refine (eachU_any w.heap.size 181 _ l n _ ks _ QW.out (by decide) (U.out.below BW.out) (fun g o m c e hm => Nat.ne_of_lt (intsv_lt U.out g o m c e hm)) HS.out).mono ?_; rintro r w1 ⟨hno, -, hc⟩; have hno := hno (by rw [HER.out]; exact HE.out); rw [HER.out] at hno; subst hno; have B1 := Lib.hid (chg_new hc BW.out (Nat.le_refl _)); clear hc)
  go_ret2
  exact ⟨rfl, B1.out⟩
set_option maxHeartbeats 1600000 in
theorem All_ok {d : Nat} (p : Nat) (v : Value) (l : List (BitVec 8)) (n : Nat) (u : Value) (ks : List Int) (w : World) (hp : RdAt w 181 p d v l n) (hu : IntsV w u ks) (hs : ks.length ≤ 100000) (her : Wire.readE l ks = 0) :
    Calls Tryz.prog 114 #[.pointer (some ⟨p, 0, none⟩), u] w fun e w' => ∃ x, e = .returned (.tuple #[x, .int .i64 0]) ∧ w'.ownsRow w.heap.size 86 1 x ks.length (wd (Wire.readV l ks)) ∧ (∃ v', RdAt w' 181 p d v' (Wire.readL l ks) (n + Wire.readN ks)) ∧ Chg (fun b => b = p) w w' := by
  have hmf : ∀ (fn : Fn) (first cap : Array Value) (w : World), (Instr.makeFunc fn first cap).run Tryz.prog w = .ok (.func fn first cap) w := fun _ _ _ _ => rfl
  have d0 : w.cell? ⟨p, 0, none⟩ = some v := (cell_of_row _ _ 0 _ _ _ hp.blk).trans rfl
  have d1 : w.cell? ⟨p, 1, none⟩ = some (.int .i64 n) := (cell_of_row _ _ 1 _ _ _ hp.blk).trans rfl
  have P := Lib.hid hp; have U := Lib.hid hu; have PLT := Lib.hid hp.lt; have HS := Lib.hid hs; have HER := Lib.hid her
  clear hp hu hs her
  obtain ⟨av, nv, cv, rfl⟩ := bytes_shape P.out.bytes
  obtain ⟨W, hW⟩ : ∃ W, W = w.alloc (.cells #[.slice av nv cv, .int .i64 n] 181) := ⟨_, rfl⟩
  have hbW : Below w.heap.size w W := by subst hW; exact gr_alloc _ _
  have hqW : RdAt W 181 w.heap.size d (.slice av nv cv) l n := by
    subst hW
    exact ⟨heap_alloc_new _ _, P.out.bytes.below (gr_alloc _ _), P.out.small, P.out.old, Nat.le_trans P.out.le (Nat.le_of_lt PLT.out)⟩
  have BW := Lib.hid hbW; have QW := Lib.hid hqW; have HW := Lib.hid hW
  clear hbW hqW hW
  go_enter Tryz.func114, Tryz.ntmps114
  go_upto_region 2 with (go_at_call 112; refine (state_some p _).mono ?_; rintro e w' ⟨rfl, rfl⟩)
  rw [← HW.out]
  clear d0 d1
  go_wp2_with (first
    | (go_at_call 124; refine (eachU_any w.heap.size 181 _ l n _ ks _ QW.out (by decide) (U.out.below BW.out) (fun g o m c e hm => Nat.ne_of_lt (intsv_lt U.out g o m c e hm)) HS.out).mono ?_; rintro r w1 ⟨-, hok, hc⟩; obtain ⟨x, v', rfl, hown, hrd⟩ := hok HER.out; have O1 := Lib.hid (own_base hown BW.out.size); have R1 := Lib.hid hrd; have C1 := Lib.hid hc; have B1 := Lib.hid (chg_new hc BW.out (Nat.le_refl _)); clear hok hown hrd hc; obtain ⟨a1, n1, c1, rfl⟩ := bytes_shape R1.out.bytes)
    | (refine wpList_load_row rfl 181 (.tmp 6) rfl w.heap.size rfl 181 _ (0, 0) _ R1.out.blk Tryz.underlying181 rfl (by kernel_rfl) ?_)
    | (refine wpList_store_row rfl 181 (.tmp 29) (.tmp 28) rfl p _ rfl rfl 181 _ ((B1.out.block p PLT.out).trans P.out.blk) (by kernel_rfl) rfl (by simp [Value.oneCell']) ?_))
  go_ret2
  have hfin := R1.out.moved ((B1.out.block p PLT.out).trans P.out.blk) P.out.le
  rw [Int.natCast_add] at hfin
  exact ⟨x, rfl, own_chg O1.out (Chg.setRow (B := fun b => b = p) w1 rfl _) (fun g hg e => by have := own_gt O1.out PLT.out g hg; omega), ⟨_, hfin⟩, (Chg.of_below B1.out).trans (Chg.setRow (B := fun b => b = p) w1 rfl _)⟩
/-- One field off a reader. -/
theorem Next_no {d : Nat} (p : Nat) (v : Value) (l : List (BitVec 8)) (n : Nat) (k : Int) (er : Int) (w : World) (hp : RdAt w 181 p d v l n) (her : Wire.takeE l k = er) (he : er ≠ 0) :
    Calls Tryz.prog 99 #[.pointer (some ⟨p, 0, none⟩), .int .i64 k] w fun e w' => e = .returned (.tuple #[.int .u64 0, .int .i64 er]) ∧ Below w.heap.size w w' := by
  have hre : Wire.readE l [k] = er := by unfold Wire.readE; rw [her, if_neg he]
  have HRE := Lib.hid hre
  have hq : (er != 0) = true := by simpa using he
  have HE := Lib.hid he; have P := Lib.hid hp
  clear hp her he hre
  have hi : ∀ W : World, IntsV (W.alloc (.cells #[.int .i64 k] 3)) (.slice (some ⟨W.heap.size, 0, none⟩) 1 1) [k] := fun W => ⟨_, _, rfl, by simp, Nat.le_refl _, by simp, Row.lit _ _ _ _⟩
  have HI := Lib.hid hi; clear hi
  go_enter Tryz.func99, Tryz.ntmps99
  go_wp2_with (go_at_call 114; refine (All_no p v l n _ [k] er _ (P.out.below (gr_alloc _ _)) (HI.out _) (by simp) HRE.out HE.out).mono ?_; rintro e w1 ⟨rfl, hb⟩; have B1 := Lib.hid (gr_tr (gr_alloc _ _) hb); clear hb)
  go_ret2
  exact ⟨rfl, B1.out⟩
theorem Next_ok {d : Nat} (p : Nat) (v : Value) (l : List (BitVec 8)) (n k : Nat) (x : BitVec 64) (w : World) (hp : RdAt w 181 p d v l n) (h1 : 1 ≤ k) (h8 : k ≤ 8) (hk : k ≤ l.length) (hx : Wire.get (l.take k) = x) :
    Calls Tryz.prog 99 #[.pointer (some ⟨p, 0, none⟩), .int .i64 k] w fun e w' => e = .returned (.tuple #[.int .u64 (uv x), .int .i64 0]) ∧ (∃ v', RdAt w' 181 p d v' (l.drop k) (n + k)) ∧ Chg (fun b => b = p) w w' := by
  have hre : Wire.readE l [(k : Int)] = 0 := by
    have h0 : Wire.takeE l k = 0 := by unfold Wire.takeE; rw [if_neg (by omega), if_neg (by omega)]
    unfold Wire.readE; rw [h0, if_pos rfl]; rfl
  have hrv : Wire.readV l [(k : Int)] = [x] := by unfold Wire.readV; rw [Int.toNat_natCast, hx]; rfl
  have hrl : Wire.readL l [(k : Int)] = l.drop k := by unfold Wire.readL; rw [Int.toNat_natCast]; rfl
  have hrn : Wire.readN [(k : Int)] = k := by unfold Wire.readN; rw [Int.toNat_natCast]; rfl
  have HRE := Lib.hid hre; have HRV := Lib.hid hrv; have HRL := Lib.hid hrl; have HRN := Lib.hid hrn; have P := Lib.hid hp
  clear hp h1 h8 hk hx hre hrv hrl hrn
  have hi : ∀ W : World, IntsV (W.alloc (.cells #[.int .i64 (k : Int)] 3)) (.slice (some ⟨W.heap.size, 0, none⟩) 1 1) [(k : Int)] := fun W => ⟨_, _, rfl, by simp, Nat.le_refl _, by simp, Row.lit _ _ _ _⟩
  have HI := Lib.hid hi; clear hi
  go_enter Tryz.func99, Tryz.ntmps99
  go_wp2_with (go_at_call 114; refine (All_ok p v l n _ [(k : Int)] _ (P.out.below (gr_alloc _ _)) (HI.out _) (by simp) HRE.out).mono ?_; rintro e w1 ⟨x1, rfl, hown, hrd, hc⟩; rw [HRV.out] at hown; rw [HRL.out, HRN.out] at hrd; obtain ⟨g, cap, rfl, hg0⟩ := word_cell hown; have R1 := Lib.hid hrd; have C1 := Lib.hid ((Chg.of_below (gr_alloc _ _)).trans hc); clear hown hrd hc)
  go_ret2
  exact ⟨rfl, R1.out, C1.out⟩
end Go.Proofs.YtabfmhlhdebcpaaGreatDoor
