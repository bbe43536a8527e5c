/- Discovery: Seen, Generation, Log. Printed by gendsco.py. -/
import Derived.Test.YtjcgdenkmmgmfaaGreatDoorDscN
namespace Go.Proofs.YtjcgdenkmmgmfaaGreatDoor
open Go.RowKit Dsc
set_option linter.unusedVariables false
set_option linter.unusedSimpArgs false
theorem SliceV.oneR {w : World} {g n c : Nat} {r : Rec} (t : TypeId) : Row (w.alloc (.cells r.cells.toArray t)) (some ⟨w.heap.size, 0, none⟩) r.cells := Row.lit w r.cells.toArray t (0, 0)
set_option maxRecDepth 20000 in
set_option maxHeartbeats 6400000 in
theorem chosen_at (p : Nat) (es : List Ent) (g : BitVec 64) (lv : Value) (hvs : List Value) (host : List (BitVec 8)) (Bx : Nat) (L : List Rec) (w : World) (hd : DirAt w p es g lv hvs) (hlen : es.length ≤ 256) (hBx : w.heap[Bx]? = some (.cells #[.string (strOf host)] 9 (0, 0))) (hL : seenL es host = L) :
    Calls Tryz.prog 23 #[lv, .func (.func 24) #[] #[.pointer (some ⟨Bx, 0, none⟩)], .func (.func 26) #[] #[]] w fun e w' => ∃ u, e = .returned u ∧ w'.ownsRow w.heap.size 37 10 u L.length (L.flatMap Dsc.Rec.cells) ∧ Below w.heap.size w w' := by
  have DD := Lib.hid hd
  have SS := Lib.hid hd.slice
  have X := Lib.hid hBx
  have HL := Lib.hid hL
  have hz : ((es.map (·.r)).zip hvs).length = es.length := by rw [List.length_zip, List.length_map, hd.len]; omega
  obtain ⟨a, c, rfl, -⟩ := id hd.slice
  rw [hz]
  obtain ⟨n, hn⟩ : ∃ n, es.length = n := ⟨_, rfl⟩
  rw [hn] at hlen ⊢
  have HN := Lib.hid hn
  have HZ := Lib.hid (show ((es.map (·.r)).zip hvs).length = n by rw [hz, hn])
  clear hd hBx hL hz hn
  go_enter Tryz.func23, Tryz.ntmps23
  go_wp2
  go_loopw [6, 8, 11] (fun u _ i wr => ∃ k m : Nat, k ≤ n ∧ m ≤ k ∧ i = .int .i64 k ∧ Hid ((seenL (es.take k) host).length = m) ∧ wr.ownsRow w.heap.size 37 10 u m ((seenL (es.take k) host).flatMap Dsc.Rec.cells) ∧ Below w.heap.size w wr) (fun _ _ i _ => n - (intOf i).toNat)
  case atStart => exact ⟨0, 0, by omega, by omega, rfl, Lib.hid rfl, World.ownsRow_nil _ _ _ _, Below.refl _ _⟩
  case round =>
    obtain ⟨k, m, hk, hmk, rfl, hm, hown, hb⟩ := hrel
    have C := Lib.hid hb; have O := Lib.hid hown
    clear hb hown
    by_cases hlt : k < n
    · obtain ⟨e, he⟩ : ∃ e, es[k]? = some e := ⟨_, List.getElem?_eq_getElem (by rw [HN.out]; exact hlt)⟩
      obtain ⟨hv, h1, h2⟩ := DD.out.get k e he
      obtain ⟨gq, o, cq, he1, hr1⟩ := SliceV.rng entC_len SS.out k (e.r, hv) h2 (by decide)
      injection he1 with he1 he1' he1''
      subst he1; subst he1''
      have R1 := Lib.hid (rng_below hr1 C.out)
      obtain ⟨y1, y2, y3, y4, y5⟩ := DD.out.el k e hv he h1
      have Y2 := Lib.hid (own_below y2 C.out)
      obtain ⟨b, hb⟩ : ∃ b, mayB e.hs host = b := ⟨_, rfl⟩
      have AF := fun w h h' => Seen1_at e.r hv e.hs host Bx b w h y5 hb h'
      have BF := fun w => Seen2_at e.r hv w
      have SM := seenL_more (host := host) he
      rw [hb] at SM
      have ECL := Lib.hid (entC_len (e.r, hv))
      have ECS := Lib.hid (show (entC (e.r, hv)).toArray.size = 11 from rfl)
      have EON := Lib.hid (show (entC (e.r, hv)).toArray.all (·.oneCell') = true by obtain ⟨ah', ch', hsh⟩ := own_shape y2; rw [hsh]; simp [entC, Dsc.Rec.cells, Value.oneCell'])
      obtain ⟨ec, hec⟩ : ∃ c, entC (e.r, hv) = c := ⟨_, rfl⟩
      rw [hec] at R1 AF BF ECL ECS EON
      have AFH := Lib.hid AF; have BFH := Lib.hid BF; have SMH := Lib.hid SM
      have X2 := Lib.hid (blk_below X.out C.out)
      clear he h1 h2 hr1 hb hec AF BF SM he1' y1 y2 y3 y4 y5
      go_upto_region 4 with (first
        | (refine wpList_load_mid rfl 70 (.tmp 13) rfl gq (o + k * 11) rfl ec _ R1.out Tryz.underlying70 rfl (by rw [ECL.out]; kernel_rfl) ?_)
        | (refine wpList_store_new rfl 70 (.tmp 8) (.tmp 14) rfl ec.toArray 70 _ rfl rfl (by rw [ECS.out]; kernel_rfl) (by rw [ECS.out]; rfl) EON.out ?_; intro w3 hh hw; have Y3 := Lib.hid hh; have B3 := Lib.hid hw; clear hh hw))
      obtain ⟨q, hq⟩ : ∃ q, wr.heap.size = q := ⟨_, rfl⟩
      rw [hq] at Y3 ⊢
      have C3 := Lib.hid (gr_tr C.out B3.out)
      have O3 := Lib.hid (own_below O.out B3.out)
      have X3 := Lib.hid (blk_below X2.out B3.out)
      have H3 := Lib.hid (own_below Y2.out B3.out)
      clear hq R1 Y2
      cases b
      · go_wp2_with (first
          | (refine wpList_load_row rfl 70 (.tmp 8) rfl q rfl 70 ec.toArray (0, 0) _ Y3.out Tryz.underlying70 rfl (by rw [ECS.out]; kernel_rfl) ?_)
          | (go_at_call 24; go_loud (refine (AFH.out _ H3.out X3.out).mono ?_; rintro e w4 ⟨rfl, hw⟩; have C4 := Lib.hid (gr_tr C3.out hw); have O4 := Lib.hid (own_below O3.out hw); clear hw)))
        have ST := Lib.hid (show seenL (es.take (k + 1)) host = seenL (es.take k) host by rw [SMH.out]; simp)
        clear SMH
        go_roundw
        case rel => exact ⟨k + 1, m, by omega, by omega, by go_num, Lib.hid (by rw [ST.out]; exact hm.out), by rw [ST.out]; exact O4.out, C4.out⟩
        case measure => simp [intOf]; omega
      · have ST := Lib.hid (show seenL (es.take (k + 1)) host = seenL (es.take k) host ++ [e.r] by rw [SMH.out]; simp)
        clear SMH
        have RLN := Lib.hid (rec_len e.r)
        have RON := Lib.hid (show ∀ u ∈ e.r.cells, u.oneCell' = true by simp [Dsc.Rec.cells, Value.oneCell'])
        have hm256 : m ≤ 256 := by omega
        have BF0 := BFH.out
        have BF2 : Hid (∀ w, Calls Tryz.prog 26 #[.agg ec.toArray] w fun r w' => r = .returned (.agg #[.int .u8 (uv e.r.tr), .int .u8 (uv e.r.fa), .bool e.r.rf, .bool e.r.sc, .int .u16 (uv e.r.po), .int .u16 (uv e.r.ct), .int .u16 (uv e.r.qu), .string (strOf e.r.sv), .string (strOf e.r.sb), .string (strOf e.r.ad)]) ∧ Below w.heap.size w w') := Lib.hid BF0
        clear BF0 BFH
        go_upto_region 5 with (first
          | (refine wpList_load_row rfl 70 (.tmp 8) rfl q rfl 70 ec.toArray (0, 0) _ Y3.out Tryz.underlying70 rfl (by rw [ECS.out]; kernel_rfl) ?_)
          | (go_at_call 24; go_loud (refine (AFH.out _ H3.out X3.out).mono ?_; rintro e w4 ⟨rfl, hw⟩; have C4 := Lib.hid (gr_tr C3.out hw); have O4 := Lib.hid (own_below O3.out hw); have Y4 := Lib.hid (blk_below Y3.out hw); clear hw)))
        clear Y3 O3 C3 X3 H3
        go_wp2_with (first
          | (refine wpList_load_row rfl 70 (.tmp 8) rfl q rfl 70 ec.toArray (0, 0) _ Y4.out Tryz.underlying70 rfl (by rw [ECS.out]; kernel_rfl) ?_)
          | (go_at_call 26; go_loud (refine (BF2.out _).mono ?_; rintro r w5 ⟨rfl, hw⟩; have C5 := Lib.hid (gr_tr C4.out hw); have O5 := Lib.hid (own_below O4.out hw); clear hw))
          | (at_builtin; go_loud (refine app_law_at recsOk rfl (.tmp 18) (.tmp 22) rfl w.heap.size _ m _ rfl (own_below O5.out (gr_alloc _ _)) (some ⟨w5.heap.size, 0, none⟩) 1 1 e.r.cells rfl (by simp) (by omega) (Row.lit w5 _ 37 (0, 0)) RLN.out RON.out (by omega) (by omega) (by have := C5.out.size; have := (gr_alloc w5 (.cells e.r.cells.toArray 37)).size; simp; omega) ?_; intro v6 w6 ho hg ha; have O6 := Lib.hid ho; have C6 := Lib.hid ((C5.out.trans ((gr_alloc w5 _).mono C5.out.size)).grown hg (by have := C5.out.size; simp; omega) (fun j hj => (O5.out.lt j hj).1)); clear ho hg ha)))
        go_roundw
        case rel => exact ⟨k + 1, m + 1, by omega, by omega, by go_num, Lib.hid (by rw [ST.out, List.length_append, hm.out]; rfl), by rw [ST.out, List.flatMap_append]; simpa using O6.out, C6.out⟩
        case measure => simp [intOf]; omega
    · obtain rfl : k = n := by omega
      have OE := Lib.hid (show wr.ownsRow w.heap.size 37 10 u6 L.length (L.flatMap Dsc.Rec.cells) by
        have h := O.out
        rw [List.take_of_length_le (by rw [HN.out]; exact Nat.le_refl _), HL.out] at h
        have h3 := hm.out
        rw [List.take_of_length_le (by rw [HN.out]; exact Nat.le_refl _), HL.out] at h3
        rw [h3]; exact h)
      go_wp2
      go_ret
      exact ⟨_, rfl, OE.out, C.out⟩
theorem ValidName_h (host : List (BitVec 8)) (z : Bool) (w : World) (hl : host.length ≤ 9223372036854775807) (hz : nmOk host = z) :
    Calls Tryz.prog 22 #[.string (strOf host)] w fun e w' => e = .returned (.bool z) ∧ Below w.heap.size w w' := ValidName_at host z w hl hz
theorem Seen_nil (st : ByteArray) (w : World) :
    Calls Tryz.prog 8 #[.pointer none, .string st] w fun e w' => e = .returned (.tuple #[.slice none 0 0, .int .i64 1]) ∧ Below w.heap.size w w' := by
  go_enter Tryz.func8, Tryz.ntmps8
  go_wp2
  go_ret2
  exact ⟨rfl, gr_alloc _ _⟩
namespace Dsc
def seenE (host : List (BitVec 8)) : Int := if nmOk host then 0 else 2
def seenR (es : List Ent) (host : List (BitVec 8)) : List Rec := if nmOk host then seenL es host else []
end Dsc
set_option maxRecDepth 20000 in
set_option maxHeartbeats 3200000 in
theorem Seen_at (p : Nat) (es : List Ent) (g : BitVec 64) (lv : Value) (hvs : List Value) (host : List (BitVec 8)) (E : Int) (L : List Rec) (w : World) (hd : DirAt w p es g lv hvs) (hlen : es.length ≤ 256) (hl : host.length ≤ 9223372036854775807) (hE : seenE host = E) (hL : seenR es host = L) :
    Calls Tryz.prog 8 #[.pointer (some ⟨p, 0, none⟩), .string (strOf host)] w fun e w' => ∃ u, e = .returned (.tuple #[u, .int .i64 E]) ∧ w'.ownsRow w.heap.size 37 10 u L.length (L.flatMap Dsc.Rec.cells) ∧ Below w.heap.size w w' := by
  obtain ⟨al, cl, hlv⟩ : ∃ a c, lv = .slice a es.length c := own_shape hd.own
  subst hlv
  obtain ⟨W, hW⟩ : ∃ W, W = w.alloc (.cells #[.string (strOf host)] 9) := ⟨_, rfl⟩
  have D := Lib.hid (show Below w.heap.size w W by rw [hW]; exact gr_alloc w _)
  have X := Lib.hid (show W.heap[w.heap.size]? = some (.cells #[.string (strOf host)] 9 (0, 0)) by rw [hW]; exact heap_alloc_new w _)
  have DD := Lib.hid (hd.below D.out)
  have x0 : W.cell? ⟨w.heap.size, 0, none⟩ = some (.string (strOf host)) := (cell_of_row _ _ 0 _ _ _ X.out).trans rfl
  obtain ⟨b, hb⟩ : ∃ b, nmOk host = b := ⟨_, rfl⟩
  have HE := Lib.hid (show (if b then (0 : Int) else 2) = E by rw [← hE, ← hb]; rfl)
  have HL := Lib.hid (show (if b then seenL es host else []) = L by rw [← hL, ← hb]; rfl)
  have VN := Lib.hid (fun w => ValidName_h host b w hl hb)
  have CH := Lib.hid (fun W L h1 h2 h3 => chosen_at p es g (.slice al es.length cl) hvs host w.heap.size L W h1 hlen h2 h3)
  have HLEN := Lib.hid hlen
  have HW := Lib.hid hW
  obtain ⟨st, hst⟩ : ∃ st, strOf host = st := ⟨_, rfl⟩
  rw [hst] at HW x0 X VN CH ⊢
  clear hW hd hlen hl hE hL hb hst
  obtain ⟨n, hn⟩ : ∃ n, es.length = n := ⟨_, rfl⟩
  rw [hn] at DD CH
  clear hn
  go_enter Tryz.func8, Tryz.ntmps8
  go_upto_region 1 with fail
  rw [← HW.out]
  cases b
  · have hE : E = 2 := HE.out.symm
    have hL : L = [] := HL.out.symm
    subst hE; subst hL
    go_wp2_with (go_at_call 22; go_loud (refine (VN.out _).mono ?_; rintro e w2 ⟨rfl, hw⟩; have D2 := Lib.hid (gr_tr D.out hw); clear hw))
    go_ret2
    exact ⟨_, rfl, World.ownsRow_nil _ _ _ _, D2.out⟩
  · have hE : E = 0 := HE.out.symm
    subst hE
    have HL2 := Lib.hid (show seenL es host = L from HL.out)
    clear HL HE
    go_upto_region 5 with (go_at_call 22; go_loud (refine (VN.out _).mono ?_; rintro e w2 ⟨rfl, hw⟩; have D2 := Lib.hid (gr_tr D.out hw); have X2 := Lib.hid (blk_below X.out hw); have DD2 := Lib.hid (DD.out.below hw); clear hw x0 X DD D))
    have p0 : w2.cell? ⟨p, 0, none⟩ = some (.slice al n cl) := (cell_of_row _ _ 0 _ _ _ DD2.out.blk).trans rfl
    go_wp2_with (go_at_call 23; go_loud (refine (CH.out _ _ DD2.out X2.out HL2.out).mono ?_; rintro e w3 ⟨u, rfl, ho, hw⟩; have O := Lib.hid (own_base ho D2.out.size); have D3 := Lib.hid (gr_tr D2.out hw); clear ho hw p0))
    go_ret2
    exact ⟨_, rfl, O.out, D3.out⟩
theorem Gen_at (p : Nat) (es : List Ent) (g : BitVec 64) (lv : Value) (hvs : List Value) (w : World) (hd : DirAt w p es g lv hvs) :
    Calls Tryz.prog 13 #[.pointer (some ⟨p, 0, none⟩)] w fun e w' => e = .returned (.int .u64 (uv g)) ∧ w = w' := by
  have p1 : w.cell? ⟨p, 1, none⟩ = some (.int .u64 (uv g)) := (cell_of_row _ _ 1 _ _ _ hd.blk).trans rfl
  clear hd
  go_enter Tryz.func13, Tryz.ntmps13
  go_wp2
  go_ret
  exact ⟨rfl, rfl⟩
theorem Gen_nil (w : World) :
    Calls Tryz.prog 13 #[.pointer none] w fun e w' => e = .returned (.int .u64 0) ∧ w = w' := by
  go_enter Tryz.func13, Tryz.ntmps13
  go_wp2
  go_ret
  exact ⟨rfl, rfl⟩
end Go.Proofs.YtjcgdenkmmgmfaaGreatDoor
