/- Discovery: a directory in memory; at. Printed by gendscj.py. -/
import Derived.Test.YtjcgdenkmmgmfaaGreatDoorDscI
namespace Go.Proofs.YtjcgdenkmmgmfaaGreatDoor
open Go.RowKit Dsc
set_option linter.unusedVariables false
set_option linter.unusedSimpArgs false
/-- A record with the hosts that may see it. -/
structure Dsc.Ent where
  r : Rec
  hs : List (List (BitVec 8))
/-- The cells of an entry whose hosts lie in the slice hv. -/
def entC (x : Rec × Value) : List Value := x.1.cells ++ [x.2]
theorem entC_len : ∀ x, (entC x).length = 11 := fun _ => rfl
def strC (s : List (BitVec 8)) : List Value := [.string (strOf s)]
abbrev HostsV (w : World) (v : Value) (hs : List (List (BitVec 8))) : Prop := w.ownsRow 0 9 1 v hs.length (hs.flatMap strC)
/-- A directory lies in block p: its entries in the slice lv, their hosts in the slices hvs; its generation. -/
structure DirAt (w : World) (p : Nat) (es : List Ent) (g : BitVec 64) (lv : Value) (hvs : List Value) : Prop where
  blk : w.heap[p]? = some (.cells #[lv, .int .u64 (uv g)] 29 (0, 0))
  own : w.ownsRow (p + 1) 70 11 lv es.length (((es.map (·.r)).zip hvs).flatMap entC)
  len : hvs.length = es.length
  el : ∀ (i : Nat) (e : Ent) (hv : Value), es[i]? = some e → hvs[i]? = some hv → e.r.Fit ∧ HostsV w hv e.hs ∧ hv.oneCell' = true ∧ (∀ s ∈ e.hs, s.length ≤ 9223372036854775807) ∧ e.hs.length ≤ 256
/-- Two rows of different types lie in different blocks. -/
theorem own_apartT {w : World} {b1 b2 : Nat} {e1 e2 : TypeId} {s1 s2 n1 n2 : Nat} {v1 v2 : Value} {x1 x2 : List Value} (h1 : w.ownsRow b1 e1 s1 v1 n1 x1) (h2 : w.ownsRow b2 e2 s2 v2 n2 x2) (hne : e1 ≠ e2) (k : Nat) (k1 : v1.ownBlock = some k) : v2.ownBlock ≠ some k := by
  intro k2
  obtain ⟨-, h1⟩ := h1
  obtain ⟨-, h2⟩ := h2
  rcases h1 with ⟨rfl, _⟩ | ⟨g1, c1, cur1, rfl, _, hh1, _⟩
  · simp [Value.ownBlock] at k1
  rcases h2 with ⟨rfl, _⟩ | ⟨g2, c2, cur2, rfl, _, hh2, _⟩
  · simp [Value.ownBlock] at k2
  simp [Value.ownBlock] at k1 k2
  subst k1; subst k2
  rw [hh1] at hh2
  injection hh2 with hh2; injection hh2 with _ hh2 _
  exact hne hh2
theorem own_apartB {w : World} {b1 : Nat} {e1 t : TypeId} {s1 n1 : Nat} {v1 : Value} {x1 : List Value} {k : Nat} {cs : Array Value} {fr : Nat × Nat} (h1 : w.ownsRow b1 e1 s1 v1 n1 x1) (hk : w.heap[k]? = some (.cells cs t fr)) (hne : e1 ≠ t) : v1.ownBlock ≠ some k := by
  intro k1
  obtain ⟨-, h1⟩ := h1
  rcases h1 with ⟨rfl, _⟩ | ⟨g1, c1, cur1, rfl, _, hh1, _⟩
  · simp [Value.ownBlock] at k1
  simp [Value.ownBlock] at k1
  subst k1
  rw [hh1] at hk
  injection hk with hk; injection hk with _ hk _
  exact hne hk
theorem DirAt.below {w w' : World} {p : Nat} {es : List Ent} {g : BitVec 64} {lv : Value} {hvs : List Value} (h : DirAt w p es g lv hvs) (hb : Below w.heap.size w w') : DirAt w' p es g lv hvs :=
  ⟨blk_below h.blk hb, own_below h.own hb, h.len, fun i e hv h1 h2 => by obtain ⟨a, b, c⟩ := h.el i e hv h1 h2; exact ⟨a, own_below b hb, c⟩⟩
/-- The blocks that a directory may change. -/
def DirB (p : Nat) (lv : Value) : Nat → Prop := fun k => k = p ∨ lv.ownBlock = some k
/-- What changes in another directory leaves it. -/
theorem DirAt.chg {w w' : World} {p q : Nat} {es : List Ent} {g : BitVec 64} {lv mv : Value} {hvs : List Value} {B : Nat → Prop} (h : DirAt w p es g lv hvs) (hc : Chg B w w') (h1 : ¬ B p) (h2 : ∀ k, lv.ownBlock = some k → ¬ B k) (h3 : ∀ (i : Nat) (e : Ent) (hv : Value), es[i]? = some e → hvs[i]? = some hv → ∀ k, hv.ownBlock = some k → ¬ B k) : DirAt w' p es g lv hvs :=
  ⟨hc.blk h.blk h1, own_chg h.own hc h2, h.len, fun i e hv a b => by obtain ⟨x, y, z⟩ := h.el i e hv a b; exact ⟨x, own_chg y hc (h3 i e hv a b), z⟩⟩
theorem DirAt.slice {w : World} {p : Nat} {es : List Ent} {g : BitVec 64} {lv : Value} {hvs : List Value} (h : DirAt w p es g lv hvs) : SliceV w entC lv ((es.map (·.r)).zip hvs) := by
  have hz : ((es.map (·.r)).zip hvs).length = es.length := by rw [List.length_zip, List.length_map, h.len]; omega
  have ho := h.own
  obtain ⟨h1, h2⟩ := ho
  rcases h2 with ⟨e1, e2⟩ | ⟨b, cap, cur, hv, hg, hh, r1, r2, r3, r4⟩
  · subst e1
    have hn : (es.map (·.r)).zip hvs = [] := List.length_eq_zero_iff.1 (by omega)
    refine ⟨none, 0, by rw [hn]; rfl, fun _ => rfl, by rw [hn]; simp, by simp, ?_⟩
    rw [hn]; exact .inl rfl
  · subst hv
    refine ⟨_, cap, by rw [hz], by simp, by rw [hz]; exact r1, r2, ?_⟩
    exact Row.of_own ⟨h1, .inr ⟨b, cap, cur, rfl, hg, hh, r1, r2, r3, r4⟩⟩
theorem DirAt.get {w : World} {p : Nat} {es : List Ent} {g : BitVec 64} {lv : Value} {hvs : List Value} (h : DirAt w p es g lv hvs) (k : Nat) (e : Ent) (he : es[k]? = some e) : ∃ hv, hvs[k]? = some hv ∧ ((es.map (·.r)).zip hvs)[k]? = some (e.r, hv) := by
  have hk : k < hvs.length := by rw [h.len]; exact (List.getElem?_eq_some_iff.1 he).1
  refine ⟨hvs[k], List.getElem?_eq_getElem hk, ?_⟩
  rw [List.getElem?_zip_eq_some]
  exact ⟨by rw [List.getElem?_map, he]; rfl, List.getElem?_eq_getElem hk⟩
namespace Dsc
/-- Where a record lies, or -1. -/
def ix (es : List Ent) (r : Rec) : Int := if es.findIdx (fun e => e.r.same r) < es.length then (es.findIdx (fun e => e.r.same r) : Int) else -1
theorem ix_at {es : List Ent} {r : Rec} {k : Nat} (hk : k < es.length) (h1 : (es[k]).r.same r = true) (h2 : ∀ i (hi : i < k), (es[i]'(by omega)).r.same r = false) : ix es r = k := by
  have e : es.findIdx (fun e => e.r.same r) = k := (List.findIdx_eq hk).2 ⟨h1, fun j hj => h2 j hj⟩
  unfold ix; rw [e, if_pos hk]
theorem ix_no {es : List Ent} {r : Rec} (h : ∀ i (hi : i < es.length), (es[i]).r.same r = false) : ix es r = -1 := by
  have e : es.findIdx (fun e => e.r.same r) = es.length := List.findIdx_eq_length.2 (fun x hx => by
    obtain ⟨i, hi, rfl⟩ := List.mem_iff_getElem.1 hx
    exact h i hi)
  unfold ix; rw [e, if_neg (by omega)]
end Dsc
set_option maxRecDepth 20000 in
set_option maxHeartbeats 3200000 in
theorem atfn_at (x r : Rec) (hv : Value) (Bx : Nat) (b : Bool) (w : World) (hb : x.same r = b) (hBx : w.heap[Bx]? = some (.cells r.cells.toArray 37 (0, 0))) :
    Calls Tryz.prog 54 #[.agg (entC (x, hv)).toArray, .pointer (some ⟨Bx, 0, none⟩)] w fun e w' => e = .returned (.bool b) ∧ Below w.heap.size w w' := by
  have heq := fun w => rec_eql x r w
  rw [hb] at heq
  have X := Lib.hid hBx
  have CLL := Lib.hid (rec_len x)
  have CRS := Lib.hid (show r.cells.toArray.size = 10 from rfl)
  obtain ⟨W, hW⟩ : ∃ W, W = w.alloc (.cells (entC (x, hv)).toArray 70) := ⟨_, rfl⟩
  have D := Lib.hid (show Below w.heap.size w W by rw [hW]; exact gr_alloc w _)
  have E := Lib.hid (show W.heap[w.heap.size]? = some (.cells (entC (x, hv)).toArray 70 (0, 0)) by rw [hW]; exact heap_alloc_new w _)
  have RNG := Lib.hid (show W.rangeAt w.heap.size 0 x.cells from fun j v hj => by
    rw [Nat.zero_add]
    have h := cell_of_row _ _ j _ _ _ E.out
    rw [h]
    have hl := (List.getElem?_eq_some_iff.1 hj).1
    show (entC (x, hv)).toArray[j]? = some v
    unfold entC
    rw [List.getElem?_toArray, List.getElem?_append_left hl, hj])
  have X2 := Lib.hid (blk_below X.out D.out)
  have HW := Lib.hid hW
  obtain ⟨ec, hec⟩ : ∃ ec, (entC (x, hv)).toArray = ec := ⟨_, rfl⟩
  rw [hec] at HW ⊢
  obtain ⟨cx, hcx⟩ : ∃ c, x.cells = c := ⟨_, rfl⟩
  obtain ⟨cr, hcr⟩ : ∃ c, r.cells.toArray = c := ⟨_, rfl⟩
  rw [hcx, hcr] at heq
  rw [hcx] at CLL RNG
  rw [hcr] at X2 CRS
  clear hW hb hBx X E hec hcx hcr
  go_enter Tryz.func54, Tryz.ntmps54
  go_upto_region 1 with fail
  rw [← HW.out]
  go_wp2_with (first
    | (refine wpList_load_mid rfl 37 (.tmp 4) rfl w.heap.size 0 rfl cx _ RNG.out Tryz.underlying37 rfl (by rw [CLL.out]; kernel_rfl) ?_)
    | (refine wpList_load_row rfl 37 (.tmp 1) rfl Bx rfl 37 cr (0, 0) _ X2.out Tryz.underlying37 rfl (by rw [CRS.out]; kernel_rfl) ?_))
  go_ret
  exact ⟨rfl, D.out⟩
set_option maxRecDepth 20000 in
set_option maxHeartbeats 3200000 in
theorem idxEnt_at (p : Nat) (es : List Ent) (g : BitVec 64) (lv : Value) (hvs : List Value) (r : Rec) (Bx : Nat) (j : Int) (w : World) (hd : DirAt w p es g lv hvs) (hBx : w.heap[Bx]? = some (.cells r.cells.toArray 37 (0, 0))) (hj : ix es r = j) (hlen : es.length ≤ 256) :
    Calls Tryz.prog 53 #[lv, .func (.func 54) #[] #[.pointer (some ⟨Bx, 0, none⟩)]] w fun e w' => e = .returned (.int .i64 j) ∧ Below w.heap.size w w' := by
  have DD := Lib.hid hd
  have SS := Lib.hid hd.slice
  have X := Lib.hid hBx
  have HJ := Lib.hid hj
  have hz : ((es.map (·.r)).zip hvs).length = es.length := by rw [List.length_zip, List.length_map, hd.len]; omega
  obtain ⟨a, c, rfl, -⟩ := id hd.slice
  rw [hz]
  obtain ⟨n, hn⟩ : ∃ n, es.length = n := ⟨_, rfl⟩
  rw [hn] at hlen ⊢
  have HN := Lib.hid hn
  have HZ := Lib.hid (show ((es.map (·.r)).zip hvs).length = n by rw [hz, hn])
  clear hd hBx hj hz hn
  go_enter Tryz.func53, Tryz.ntmps53
  go_wp2
  go_loopw [5, 8] (fun _ i wr => ∃ k : Nat, k ≤ n ∧ i = .int .i64 k ∧ Hid (∀ q (hq : q < es.length), q < k → (es[q]).r.same r = false) ∧ Below w.heap.size w wr) (fun _ i _ => n - (intOf i).toNat)
  case atStart => exact ⟨0, by omega, rfl, Lib.hid (fun q hq h => by omega), Below.refl _ _⟩
  case round =>
    obtain ⟨k, hk, rfl, hA, hb⟩ := hrel
    have C := Lib.hid hb
    clear hb
    by_cases hlt : k < n
    · have hks : k < es.length := by rw [HN.out]; exact hlt
      obtain ⟨e, he⟩ : ∃ e, es[k]? = some e := ⟨_, List.getElem?_eq_getElem hks⟩
      have hek : es[k] = e := by rw [List.getElem?_eq_getElem hks] at he; exact Option.some.inj he
      obtain ⟨hv, h1, h2⟩ := DD.out.get k e he
      obtain ⟨gq, o, cq, he1, hr1⟩ := SliceV.rng entC_len SS.out k (e.r, hv) h2 (by decide)
      injection he1 with he1 he1' he1''
      subst he1; subst he1''
      have R1 := Lib.hid (rng_below hr1 C.out)
      obtain ⟨b, hb⟩ : ∃ b, e.r.same r = b := ⟨_, rfl⟩
      have AF := fun w h => atfn_at e.r r hv Bx b w hb h
      have ECL := Lib.hid (entC_len (e.r, hv))
      obtain ⟨ec, hec⟩ : ∃ c, entC (e.r, hv) = c := ⟨_, rfl⟩
      rw [hec] at R1 AF ECL
      have AFH := Lib.hid AF
      have HB := Lib.hid (show (es[k]'hks).r.same r = b by rw [hek]; exact hb)
      have X2 := Lib.hid (blk_below X.out C.out)
      clear he hek h1 h2 hr1 hb hec AF he1'
      cases b
      · have hA2 := Lib.hid (show ∀ q (hq : q < es.length), q < k + 1 → (es[q]).r.same r = false from fun q hq h => by
          by_cases e : q = k
          · subst e; exact HB.out
          · exact hA.out q hq (by omega))
        go_wp2_with (first
          | (refine wpList_load_mid rfl 70 (.tmp 14) rfl gq (o + k * 11) rfl ec _ R1.out Tryz.underlying70 rfl (by rw [ECL.out]; kernel_rfl) ?_)
          | (go_at_call 54; go_loud (refine (AFH.out _ X2.out).mono ?_; rintro e w3 ⟨rfl, hw⟩; have C3 := Lib.hid (gr_tr C.out hw); clear hw)))
        go_roundw
        case rel => exact ⟨k + 1, by omega, by go_num, hA2, C3.out⟩
        case measure => simp [intOf]; omega
      · have hjk : j = k := by rw [← HJ.out]; exact ix_at hks HB.out (fun i hi => hA.out i (by omega) hi)
        subst hjk
        go_wp2_with (first
          | (refine wpList_load_mid rfl 70 (.tmp 14) rfl gq (o + k * 11) rfl ec _ R1.out Tryz.underlying70 rfl (by rw [ECL.out]; kernel_rfl) ?_)
          | (go_at_call 54; go_loud (refine (AFH.out _ X2.out).mono ?_; rintro e w3 ⟨rfl, hw⟩; have C3 := Lib.hid (gr_tr C.out hw); clear hw)))
        go_ret
        exact ⟨rfl, C3.out⟩
    · obtain rfl : k = n := by omega
      have hj1 : j = -1 := by rw [← HJ.out]; exact ix_no (fun i hi => hA.out i hi (by rw [HN.out] at hi; exact hi))
      subst hj1
      go_wp2
      go_ret
      exact ⟨rfl, C.out⟩
set_option maxRecDepth 20000 in
set_option maxHeartbeats 3200000 in
theorem at_at (p : Nat) (es : List Ent) (g : BitVec 64) (lv : Value) (hvs : List Value) (r : Rec) (j : Int) (w : World) (hd : DirAt w p es g lv hvs) (hj : ix es r = j) (hlen : es.length ≤ 256) :
    Calls Tryz.prog 32 #[.pointer (some ⟨p, 0, none⟩), .agg r.cells.toArray] w fun e w' => e = .returned (.int .i64 j) ∧ Below w.heap.size w w' := by
  obtain ⟨W, hW⟩ : ∃ W, W = w.alloc (.cells r.cells.toArray 37) := ⟨_, rfl⟩
  have D := Lib.hid (show Below w.heap.size w W by rw [hW]; exact gr_alloc w _)
  have X := Lib.hid (show W.heap[w.heap.size]? = some (.cells r.cells.toArray 37 (0, 0)) by rw [hW]; exact heap_alloc_new w _)
  have DD := Lib.hid (hd.below D.out)
  have p0 : W.cell? ⟨p, 0, none⟩ = some lv := (cell_of_row _ _ 0 _ _ _ DD.out.blk).trans rfl
  have HJ := Lib.hid hj; have HL := Lib.hid hlen
  have HW := Lib.hid hW
  have IX := Lib.hid (fun W h1 h2 => idxEnt_at p es g lv hvs r w.heap.size j W h1 h2 hj hlen)
  obtain ⟨cr, hcr⟩ : ∃ c, r.cells.toArray = c := ⟨_, rfl⟩
  rw [hcr] at HW X IX ⊢
  clear hW hd hj hlen hcr
  go_enter Tryz.func32, Tryz.ntmps32
  go_upto_region 1 with fail
  rw [← HW.out]
  go_wp2_with (go_at_call 53; go_loud (refine (IX.out _ DD.out X.out).mono ?_; rintro e w3 ⟨rfl, hw⟩; have C3 := Lib.hid (gr_tr D.out hw); clear hw))
  go_ret
  exact ⟨rfl, C3.out⟩
end Go.Proofs.YtjcgdenkmmgmfaaGreatDoor
