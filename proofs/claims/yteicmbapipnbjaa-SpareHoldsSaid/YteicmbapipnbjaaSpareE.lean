/- Descriptions of pages: the reference's Seal, Raw and Encode. -/
import Derived.Test.YteicmbapipnbjaaSpareD
import Derived.Test.YteicmbapipnbjaaRef02
import Derived.Test.YteicmbapipnbjaaPlan2
import Derived.Laws.CopyOwn
namespace Go.Proofs.Yteicmbapipnbjaa
open Go.RowKit
set_option linter.unusedVariables false
set_option linter.unusedSimpArgs false
theorem Row.src {w : World} {a : Option Addr} {vs : List Value} (h : Row w a vs) (hne : vs ≠ []) : ∃ ad, a = some ad ∧ ∀ j v, vs[j]? = some v → w.cell? (ad.add j) = some v := by
  rcases h with h | ⟨b, o, rfl, h⟩
  · exact absurd h hne
  · refine ⟨_, rfl, fun j v hj => ?_⟩
    have hlt := (List.getElem?_eq_some_iff.1 hj).1
    rw [Addr.add_lit]; exact (h j hlt).trans hj
/-- 'copy(own[p:], x)'. -/
theorem copy_into {ops : Array Oper} {rest : List Oper} {o : Oper} {a : Act} {Q : Exit → Act → World → Prop} {W : World} (hgd : o.guard = none) (d s : Operand) (ho : o.op = .call { callee := .builtin .copy, args := #[d, s], argTypes := #[26, 26] })
    (base g n cap p : Nat) (k l : List (BitVec 8)) (hd : a.eval d = .slice (some ⟨g, p, none⟩) (n - p) (cap - p)) (v : Value) (hs : a.eval s = v) (hown : W.ownsRow base 5 1 (.slice (some ⟨g, 0, none⟩) n cap) n (by8 k)) (hv : BytesV W v l) (hl : p + l.length ≤ n) (hpos : 0 < l.length)
    (h : ∀ w', w'.ownsRow base 5 1 (.slice (some ⟨g, 0, none⟩) n cap) n (by8 (k.take p ++ (l ++ k.drop (p + l.length)))) → W.grownBy w' (some g) → Below base W w' → wpList Try.prog ops Q rest (a.put o.dst (goInt l.length)) w') : wpList Try.prog ops Q (o :: rest) a W := by
  obtain ⟨av, cv, rfl, n1, n2, n3, n4⟩ := hv
  obtain ⟨h1, h2⟩ := hown
  rcases h2 with ⟨e1, e2⟩ | ⟨g', cap', cur, hv, hg, hh, r1, r2, r3, r4⟩
  · omega
  cases hv
  simp only [by8_length, Nat.mul_one] at h1 r3 r4
  obtain ⟨ad, rfl, hsrc⟩ := n4.src (by intro e; have h0 := congrArg List.length e; rw [by8_length, List.length_nil] at h0; omega)
  refine wpList_copy_own hgd d s _ _ ho 5 Try.underlying26 bsz g p (n - p) (cap - p) ad l.length cv hd hs cur 5 hh (by8 l) (by rw [by8_length]; exact (Nat.min_eq_left (show l.length ≤ n - p by omega)).symm) hsrc (by rw [by8_length]; omega) (by8_one l) ?_
  rw [by8_length]
  refine h _ ⟨by simp only [by8_length, List.length_append, List.length_take, List.length_drop]; omega, .inr ⟨g, cap, _, rfl, hg, setRow_heap _ _ _ _ _ _ hh, r1, r2, ?_, ?_⟩⟩ ?_ ?_
  · simp only [List.size_toArray, List.length_append, List.length_take, List.length_drop, by8_length, Array.length_toList]; omega
  · have hk : by8 (k.take p ++ (l ++ k.drop (p + l.length))) = (by8 k).take p ++ (by8 l ++ (by8 k).drop (p + l.length)) := by simp [by8]
    have hc : cur.toList.take n = by8 k := r4
    rw [hk, ← hc, Nat.mul_one]
    simp only [List.take_append, List.length_take, Array.length_toList, by8_length]
    rw [List.take_take, List.take_take, Nat.min_eq_right (by omega : p ≤ n), Nat.min_eq_left (by omega : p ≤ n), Nat.min_eq_left (by omega : p ≤ cur.size), List.take_of_length_le (by rw [by8_length]; omega : (by8 l).length ≤ n - p)]
    congr 2
    rw [List.drop_take]
    congr 1
    omega
  · exact ⟨rfl, rfl, rfl, by simp [World.setRow], fun i hi hne => setRow_other W g i _ (by intro e; exact hne (by rw [e]))⟩
  · exact below_setRow (Below.refl _ _) hg _

theorem Keep.grown {B : Nat → Prop} {w x x' : World} {g : Nat} (h : Keep B w x) (hg : x.grownBy x' (some g)) (hB : B g) : Keep B w x' := by
  obtain ⟨y, rfl⟩ := h
  exact ⟨⟨x', Nat.le_trans y.size hg.size, fun k hk hn => (hg.block k (Nat.lt_of_lt_of_le hk y.size) (by intro e; injection e with e; exact hn (e ▸ hB))).trans (y.block k hk hn)⟩, rfl⟩
set_option maxRecDepth 4000 in
set_option maxHeartbeats 800000 in
theorem Seal_own (u v : Value) (base : Nat) (l d : List (BitVec 8)) (x : BitVec 64) (w : World) (hu : w.ownsRow base 5 1 u l.length (by8 l)) (hl : l.length = 64) (hv : BytesV w v d) (hs : d.length ≤ 1000000) (hx : Sp.sumOf d l = x) :
    Calls Try.prog 16 #[u, v] w fun e w' => e = .returned (.tuple #[]) ∧ w'.ownsRow base 5 1 u l.length (by8 (l.take 60 ++ Wire.le x 4)) ∧ Chg (fun k => u.ownBlock = some k) w w' := by
  have hb := BytesV.of_own hu
  obtain ⟨u6, hu6, -, hrun⟩ := hb.cut (P := Try.prog) (T := 26) Try.underlying26 bsz 0 60 (by omega) (by omega)
  have hrun : ∀ w', (Instr.slice 26 u none (some (.int .i64 60)) none).run Try.prog w' = .ok u6 w' := hrun rfl
  rw [List.drop_zero] at hu6
  have hly : Sp.lay l 60 (Wire.le x 4) = l.take 60 ++ Wire.le x 4 := by
    unfold Sp.lay; rw [Wire.le_len, List.drop_of_length_le (by omega)]; simp
  obtain ⟨g, c, hug⟩ : ∃ g c, u = .slice (some ⟨g, 0, none⟩) l.length c := by
    obtain ⟨_, e2⟩ := hu
    rcases e2 with ⟨e3, e4⟩ | ⟨g, cap, cur, hv, _⟩
    · omega
    · exact ⟨_, _, hv⟩
  obtain ⟨av, nv', cv, hsv⟩ : ∃ a n c, v = .slice a n c := by obtain ⟨a, c, rfl, _⟩ := hv; exact ⟨_, _, _, rfl⟩
  obtain ⟨a6, n6, c6, hs6⟩ : ∃ a n c, u6 = .slice a n c := by obtain ⟨a, c, rfl, _⟩ := hu6; exact ⟨_, _, _, rfl⟩
  have h6 : (l.take 60).length ≤ 60 := by simp; omega
  obtain ⟨l6, hl6⟩ : ∃ l6, l.take 60 = l6 := ⟨_, rfl⟩
  have hsum : (Dig.crc32 (d ++ l6)).setWidth 64 = x := by rw [← hl6]; exact hx
  rw [hl6] at hu6 h6 hly ⊢
  obtain ⟨cr, hcr⟩ : ∃ cr, Dig.crc32 (d ++ l6) = cr := ⟨_, rfl⟩
  rw [hcr] at hsum
  subst hug hsv hs6
  have U := Lib.hid hu; have V := Lib.hid hv; have U6 := Lib.hid hu6; have HLY := Lib.hid hly; have HCR := Lib.hid hcr; have HSUM := Lib.hid hsum; have HS := Lib.hid hs; have H6 := Lib.hid h6; have HL := Lib.hid hl
  clear hu hv hu6 hly hcr hsum hs h6 hl hb hx hl6
  go_enter Try.func16, Try.ntmps16
  go_wp2_with fail
  refine wp_region_planW (fun k => k = g) [(true, 0), (true, 2), (true, 4), (true, 5), (false, 1), (false, 3), (false, 6), (false, 7), (true, 8), (false, 9)]
    (by kernel_rfl) (by kernel_rfl) (by intro c a d v w h; cases d <;> exact h) ?_
  intro W1 K1 C1
  have V1 := Lib.hid (V.out.below C1.out)
  have S1 := Lib.hid (U6.out.below C1.out)
  have O1 := Lib.hid (own_below U.out C1.out)
  repeat (refine wpS_firm rfl (fun K hK => ?_); simp only [Keep]; go_simp; refine hK _ ?_; clear hK K)
  refine wpS_chain rfl ?_
  go_wp2_with fail
  refine ⟨K1.out.alloc _, ?_⟩
  refine wpS_chain rfl ?_
  refine app_fresh rfl (.tmp 5) (.tmp 6) rfl _ rfl rfl _ d rfl V1.out (by have := HS.out; omega) ?_
  intro v4 w4 hown hb
  have O4 := Lib.hid hown; clear hown
  have B4 := Lib.hid hb; clear hb
  go_wp2_with fail
  refine ⟨K1.out.below B4.out, ?_⟩
  refine wpS_chain rfl ?_
  refine app_more rfl (.tmp 7) (.tmp 9) rfl v4 W1.heap.size d.length d rfl O4.out B4.out.size _ l6 rfl (S1.out.below B4.out) (by have := HS.out; have := H6.out; omega) ?_
  intro v5 w5 hown _ hb
  have O5 := Lib.hid (BytesV.of_own (l := d ++ l6) (by rw [List.length_append]; exact hown)); clear hown
  have B5 := Lib.hid (hb.mono (B' := w.heap.size) C1.out.size)
  have B5' := Lib.hid (gr_base B4.out hb); clear hb
  go_wp2_with fail
  refine ⟨(K1.out.below B4.out).base B5.out, ?_⟩
  refine wpS_chain rfl ?_
  go_wp2_with (go_at_call 35; refine (rCRC32C_any _ _ _ O5.out).mono ?_; rintro r w6 ⟨rfl, rfl⟩; rw [HCR.out])
  refine ⟨(K1.out.below B4.out).base B5.out, ?_⟩
  repeat (refine wpS_firm rfl (fun K hK => ?_); simp only [Keep]; go_simp; refine hK _ ?_; clear hK K)
  refine wpS_chain rfl ?_
  rw [HSUM.out]
  go_wp2_with (go_at_call 34; refine (put5_any _ base l 60 4 x _ (own_below O1.out B5'.out) (by omega) (by have := HL.out; omega) (by have := HL.out; omega)).mono ?_; rintro r w7 ⟨rfl, hown, hgr⟩; rw [HLY.out] at hown; have O7 := Lib.hid hown; have G7 := Lib.hid hgr; clear hown hgr)
  refine ⟨((K1.out.below B4.out).base B5.out).grown G7.out rfl, ?_⟩
  unfold wpS
  go_wp2_with fail
  go_end0
  exact ⟨rfl, O7.out, (Chg.of_below (gr_tr C1.out B5'.out)).trans (Chg.of_grown G7.out (fun k hk => by simpa [Value.ownBlock] using hk))⟩
end Go.Proofs.Yteicmbapipnbjaa
