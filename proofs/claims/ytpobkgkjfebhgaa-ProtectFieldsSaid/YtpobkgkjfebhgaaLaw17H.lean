/- The walk of capsulelaw17.ProtectFields. Printed by genlaw17h.py. -/
import Derived.Test.YtpobkgkjfebhgaaLaw17B
import Derived.Test.YtpobkgkjfebhgaaFldA
import Derived.Test.YtpobkgkjfebhgaaAppAt
import Derived.RangeFuncFrom
import Derived.RangeFuncNested
namespace Go.Proofs.Ytpobkgkjfebhgaa
open Go.RowKit Go.Shelf
set_option linter.unusedVariables false
set_option linter.unusedSimpArgs false
attribute [local go_sem] Oper.semAt_some
theorem blk_belowL {w w' : World} {k : Nat} {o : Obj} (h : w.heap[k]? = some o) (hb : Below w.heap.size w w') : w'.heap[k]? = some o := (hb.block k (Array.getElem?_eq_some_iff.1 h).1).trans h
theorem own_setCell_other {w : World} {base : Nat} {e : TypeId} {size : Nat} {v : Value} {n : Nat} {xs : List Value} {p o : Nat} {x : Value} (h : w.ownsRow base e size v n xs) (hp : p < base) : (w.setCell ⟨p, o, none⟩ x).ownsRow base e size v n xs := by
  obtain ⟨h1, h2⟩ := h
  refine ⟨h1, ?_⟩
  rcases h2 with h2 | ⟨g, cap, cur, hv, hg, hh, r⟩
  · exact .inl h2
  · exact .inr ⟨g, cap, cur, hv, hg, by rw [heap_setCell_other _ _ _ _ (show g ≠ p by omega)]; exact hh, r⟩
theorem Fld.upto_le (cg ca cr : Bool) (k : Nat) : (Fld.upto cg ca cr k).length ≤ 3 := by
  match k with
  | 0 => simp [Fld.upto]
  | 1 => cases cg <;> simp [Fld.upto, Fld.one]
  | 2 => cases cg <;> cases ca <;> simp [Fld.upto, Fld.one]
  | k + 3 => exact Fld.len_le cg ca cr
theorem strsOk : ElemOk Try.prog 25 9 (.string ⟨#[]⟩) 1 16 :=
  ⟨Try.underlying25, info_parts (by kernel_rfl), rfl, by decide⟩
theorem Fields_any (cg ca cr : Bool) (t m : BitVec 16) (w : World) :
    Calls Try.prog 4 #[.agg #[.bool cg, .bool ca, .bool cr, .int .u16 (uv t), .int .u16 (uv m)]] w fun e w' => e = .returned (.func (.func 6) #[] #[.pointer (some ⟨w.heap.size, 0, none⟩)]) ∧ w'.heap[w.heap.size]? = some (.cells #[.bool cg, .bool ca, .bool cr, .int .u16 (uv t), .int .u16 (uv m)] 24 (0, 0)) ∧ w.heap.size < w'.heap.size ∧ Below w.heap.size w w' := by
  go_enter Try.func4, Try.ntmps4
  go_wp2
  go_ret
  exact ⟨rfl, heap_alloc_new _ _, by simp, gr_alloc _ _⟩
structure FldSt (w0 : World) (cg ca cr : Bool) (t m : BitVec 16) (many : Int) (k : Nat) (W : World) : Prop where
  b0 : W.heap[w0.heap.size]? = some (.cells #[.bool cg, .bool ca, .bool cr, .int .u16 (uv t), .int .u16 (uv m)] 24 (0, 0))
  b1 : W.heap[w0.heap.size + 1]? = some (.cells #[.int .i64 many] 3 (0, 0))
  b2 : W.heap[w0.heap.size + 2]? = some (.cells #[.bool false] 4 (0, 0))
  want : ∃ v, W.heap[w0.heap.size + 3]? = some (.cells #[v] 25 (0, 0)) ∧ W.ownsRow (w0.heap.size + 4) 9 1 v (Fld.upto cg ca cr k).length ((Fld.upto cg ca cr k).map .string)
  sz : w0.heap.size + 4 ≤ W.heap.size
  bel : Below w0.heap.size w0 W
theorem FldSt.below {w0 : World} {cg ca cr : Bool} {t m : BitVec 16} {many : Int} {k : Nat} {W W2 : World} (h : FldSt w0 cg ca cr t m many k W) (hb : Below W.heap.size W W2) : FldSt w0 cg ca cr t m many k W2 := by
  obtain ⟨v, hv, hown⟩ := h.want
  exact ⟨blk_belowL h.b0 hb, blk_belowL h.b1 hb, blk_belowL h.b2 hb, ⟨v, blk_belowL hv hb, own_below hown hb⟩, Nat.le_trans h.sz hb.size, h.bel.trans (hb.mono h.bel.size)⟩
/-- A round of the outer loop is under way: the turn, the count, the marks of the loops before. -/
structure Rnd (w0 : World) (cg ca cr : Bool) (t m : BitVec 16) (many : Int) (v : Value) (Bs T K : Nat) (turn k : Int) (ds : List Nat) (W : World) : Prop where
  b0 : W.heap[w0.heap.size]? = some (.cells #[.bool cg, .bool ca, .bool cr, .int .u16 (uv t), .int .u16 (uv m)] 24 (0, 0))
  b1 : W.heap[w0.heap.size + 1]? = some (.cells #[.int .i64 many] 3 (0, 0))
  b2 : W.heap[w0.heap.size + 2]? = some (.cells #[.bool false] 4 (0, 0))
  b3 : W.heap[w0.heap.size + 3]? = some (.cells #[v] 25 (0, 0))
  own : W.ownsRow (w0.heap.size + 4) 9 1 v (Fld.names cg ca cr).length ((Fld.names cg ca cr).map .string)
  og : ∀ g, v.ownBlock = some g → g < Bs
  f : W.heap[Bs]? = some (.cells #[.bool cg, .bool ca, .bool cr, .int .u16 (uv t), .int .u16 (uv m)] 24 (0, 0))
  tb : W.heap[T]? = some (.cells #[.int .i64 turn] 3 (0, 0))
  kb : W.heap[K]? = some (.cells #[.int .i64 k] 3 (0, 0))
  o1 : w0.heap.size + 4 ≤ Bs
  o2 : Bs < T
  o3 : T < K
  ds : ∀ D ∈ ds, D < T ∧ Bs < D ∧ W.heap[D]? = some (.deferred (some []))
  bel : Below w0.heap.size w0 W
theorem Rnd.blt {w0 : World} {cg ca cr : Bool} {t m : BitVec 16} {many : Int} {v : Value} {Bs T K : Nat} {turn k : Int} {ds : List Nat} {W : World} (h : Rnd w0 cg ca cr t m many v Bs T K turn k ds W) : Bs < W.heap.size := (Array.getElem?_eq_some_iff.1 h.f).1
theorem Rnd.grown {w0 : World} {cg ca cr : Bool} {t m : BitVec 16} {many : Int} {v : Value} {Bs T K : Nat} {turn k : Int} {ds : List Nat} {W W2 : World} {row : Option Nat} (h : Rnd w0 cg ca cr t m many v Bs T K turn k ds W) (hg : W.grownBy W2 row) (hr : ∀ r, row = some r → K < r) : Rnd w0 cg ca cr t m many v Bs T K turn k ds W2 := by
  have h1 := h.o1; have h2 := h.o2; have h3 := h.o3
  have keep : ∀ (j : Nat) (x : Obj), j ≤ K → W.heap[j]? = some x → W2.heap[j]? = some x := fun j x hj hx =>
    (hg.block j (Array.getElem?_eq_some_iff.1 hx).1 (fun e => by have := hr j e.symm; omega)).trans hx
  refine ⟨keep _ _ (by omega) h.b0, keep _ _ (by omega) h.b1, keep _ _ (by omega) h.b2, keep _ _ (by omega) h.b3, ?_, h.og, keep _ _ (by omega) h.f, keep _ _ (by omega) h.tb, keep _ _ (by omega) h.kb, h1, h2, h3, fun D hD => ?_, h.bel.grown hg h.bel.size (fun j e => by have := hr j e; omega)⟩
  · obtain ⟨n1, n2⟩ := h.own
    refine ⟨n1, ?_⟩
    rcases n2 with n2 | ⟨g, cap, cur, hv, hg', hh, r⟩
    · exact .inl n2
    · refine .inr ⟨g, cap, cur, hv, hg', keep _ _ ?_ hh, r⟩
      have := h.og g (by rw [hv]; rfl)
      omega
  · obtain ⟨d1, d2, d3⟩ := h.ds D hD
    exact ⟨d1, d2, keep _ _ (by omega) d3⟩
theorem Rnd.setK {w0 : World} {cg ca cr : Bool} {t m : BitVec 16} {many : Int} {v : Value} {Bs T K : Nat} {turn k k2 : Int} {ds : List Nat} {W : World} (h : Rnd w0 cg ca cr t m many v Bs T K turn k ds W) : Rnd w0 cg ca cr t m many v Bs T K turn k2 ds (W.setCell ⟨K, 0, none⟩ (.int .i64 k2)) := by
  have h1 := h.o1; have h2 := h.o2; have h3 := h.o3
  have keep : ∀ (j : Nat) (x : Obj), j < K → W.heap[j]? = some x → (W.setCell ⟨K, 0, none⟩ (.int .i64 k2)).heap[j]? = some x := fun j x hj hx => by
    rw [heap_setCell_other _ _ _ _ (show j ≠ K by omega)]; exact hx
  refine ⟨keep _ _ (by omega) h.b0, keep _ _ (by omega) h.b1, keep _ _ (by omega) h.b2, keep _ _ (by omega) h.b3, ?_, h.og, keep _ _ (by omega) h.f, keep _ _ (by omega) h.tb, heap_setCell_same _ _ _ _ _ _ h.kb, h1, h2, h3, fun D hD => ?_, h.bel.setCell (p := ⟨K, 0, none⟩) (by simp; omega) _⟩
  · obtain ⟨n1, n2⟩ := h.own
    refine ⟨n1, ?_⟩
    rcases n2 with n2 | ⟨g, cap, cur, hv, hg', hh, r⟩
    · exact .inl n2
    · refine .inr ⟨g, cap, cur, hv, hg', keep _ _ ?_ hh, r⟩
      have := h.og g (by rw [hv]; rfl)
      omega
  · obtain ⟨d1, d2, d3⟩ := h.ds D hD
    exact ⟨d1, d2, keep _ _ (by omega) d3⟩
/-- Another round begins: a turn and a count are laid. -/
theorem Rnd.start {w0 : World} {cg ca cr : Bool} {t m : BitVec 16} {many : Int} {v : Value} {Bs : Nat} {W : World} (h : FldSt w0 cg ca cr t m many 3 W) (hv : W.heap[w0.heap.size + 3]? = some (.cells #[v] 25 (0, 0))) (hown : W.ownsRow (w0.heap.size + 4) 9 1 v (Fld.upto cg ca cr 3).length ((Fld.upto cg ca cr 3).map .string))
    (hog : ∀ g, v.ownBlock = some g → g < Bs) (hf : W.heap[Bs]? = some (.cells #[.bool cg, .bool ca, .bool cr, .int .u16 (uv t), .int .u16 (uv m)] 24 (0, 0))) (h1 : w0.heap.size + 4 ≤ Bs) (h2 : Bs < W.heap.size) :
    Rnd w0 cg ca cr t m many v Bs W.heap.size (W.heap.size + 1) 0 0 [] ((W.alloc (.cells #[.int .i64 0] 3)).alloc (.cells #[.int .i64 0] 3)) := by
  have hb := gr_tr (gr_alloc W (.cells #[.int .i64 0] 3)) (gr_alloc (W.alloc (.cells #[.int .i64 0] 3)) (.cells #[.int .i64 0] 3))
  refine ⟨blk_belowL h.b0 hb, blk_belowL h.b1 hb, blk_belowL h.b2 hb, blk_belowL hv hb, own_below hown hb, hog, blk_belowL hf hb, ?_, ?_, h1, h2, by omega, by simp, h.bel.trans (hb.mono h.bel.size)⟩
  · exact blk_belowL (heap_alloc_new W _) (gr_alloc _ _)
  · have := heap_alloc_new (W.alloc (.cells #[.int .i64 0] 3)) (.cells #[.int .i64 0] 3)
    simpa using this
theorem Rnd.next {w0 : World} {cg ca cr : Bool} {t m : BitVec 16} {many : Int} {v : Value} {Bs T K D : Nat} {turn k turn2 : Int} {W : World} (h : Rnd w0 cg ca cr t m many v Bs T K turn k [] W) (hD : K < D) (hd : W.heap[D]? = some (.deferred (some []))) :
    Rnd w0 cg ca cr t m many v Bs W.heap.size (W.heap.size + 1) turn2 0 [D] ((W.alloc (.cells #[.int .i64 turn2] 3)).alloc (.cells #[.int .i64 0] 3)) := by
  have hb := gr_tr (gr_alloc W (.cells #[.int .i64 turn2] 3)) (gr_alloc (W.alloc (.cells #[.int .i64 turn2] 3)) (.cells #[.int .i64 0] 3))
  refine ⟨blk_belowL h.b0 hb, blk_belowL h.b1 hb, blk_belowL h.b2 hb, blk_belowL h.b3 hb, own_below h.own hb, h.og, blk_belowL h.f hb, ?_, ?_, h.o1, h.blt, by omega, ?_, h.bel.trans (hb.mono h.bel.size)⟩
  · exact blk_belowL (heap_alloc_new W _) (gr_alloc _ _)
  · have := heap_alloc_new (W.alloc (.cells #[.int .i64 turn2] 3)) (.cells #[.int .i64 0] 3)
    simpa using this
  · intro E hE
    obtain rfl := List.mem_singleton.1 hE
    exact ⟨(Array.getElem?_eq_some_iff.1 hd).1, by have := h.o2; have := h.o3; omega, blk_belowL hd hb⟩
/-- The fourth law, the act behind the assignment left open; a break and the end meet. -/
theorem rf_join {F : Fence} {n : Nat} {P : Program} {α : Type} {g : Operand} {ps : Array Tmp} {assign body : Code} {id : Nat} {Q : Exit → Act → World → Prop} {a : Act} {w : World}
    (hro : F.round = none) (h1 : 1 ≤ n) {gf : Nat} {lb : Array Value} (hg : a.eval g = .func (.func gf) #[] lb) (hFg : F.fn gf) (eg : ∀ args w, (callFunc gf args).run P w = .ok (.enter gf args) w)
    {encs : α → Array Value} {Kp : World → World → Prop} {S Sp : List α → Prop} {N : Nat} {w0 : World} (hseq : SeqStopsK F (n - 1) P gf lb encs Kp S Sp N w0)
    (hKt : ∀ {A B C : World}, Kp A B → Kp B C → Kp A C) (hKb : ∀ (W : World) (l : Nat) (o o' : Obj), w.heap.size ≤ l → W.heap[l]? = some o → o.isCells = false → o.isWalk = false → Kp W (W.putObj l o')) (hb0 : Below w0.heap.size w0 w) (hps : ∀ x, (encs x).size = ps.size)
    (I Ix : List α → World → Prop) (Z : World → Prop) (hI : OwnFrom w.heap.size I) (hIx : OwnFrom w.heap.size Ix) (h0 : I [] w)
    (hab : ∃ a₁ : α → Act, (∀ (l : Nat) (x : α) (W : World) (K : Act → World → Prop), K (a₁ x) W →
      assign.wpIn (F.inRound l) (n - 1 - 1) P (Exit.then K (fun _ _ _ => False)) { tmps := (ps.zip (encs x)).foldl (fun t (p, v) => t.setIfInBounds p v) a.tmps, defers := [] } W) ∧
      (∀ (l : Nat) (pre : List α) (x : α) (W : World), I pre W → pre.length < N → body.wpIn (F.inRound l) (n - 1 - 1) P (ownPostK Kp I (fun c pre W => (c = .ret ∧ ¬ Sp pre) ∨ (c = .exit id ∧ Ix pre W)) (pre ++ [x]) W) (a₁ x) W))
    (hdone : ∀ (xs : List α) (W : World), S xs → I xs W → Z W)
    (hstop : ∀ (pre : List α) (W : World), Sp pre → Ix pre W → Z W)
    (hgo : ∀ (D : Nat) (W : World), w.heap.size ≤ D → Z W → W.heap[D]? = some (.deferred (some [])) → Q .normal { a with defers := { target := .collected D, args := #[] } :: a.defers } W) :
    (Code.rangeFunc g ps assign body).wpIn F n P (Exit.inBlock id Q) a w := by
  obtain ⟨a₁, ha, hb⟩ := hab
  refine wpIn_rangeFunc_ownF hro h1 hg hFg eg hseq hKt hKb hb0 hps I (fun c pre W => (c = .ret ∧ ¬ Sp pre) ∨ (c = .exit id ∧ Ix pre W)) hI ?_ h0 a₁ ha hb ?_ ?_
  · rintro c s A B row (⟨h1, h2⟩ | ⟨h1, h2⟩) hg hr
    · exact .inl ⟨h1, h2⟩
    · exact .inr ⟨h1, hIx s A B row h2 hg hr⟩
  · intro D xs W hD hS hi hK
    exact hgo D W hD (hdone xs W hS hi) hK
  · rintro D c pre W hD hSp (⟨h1, h2⟩ | ⟨rfl, h2⟩) hK
    · exact absurd hSp h2
    · refine wpIn_exit ?_
      show (if id = id then _ else _)
      rw [if_pos rfl]
      exact hgo D W hD (hstop pre W hSp h2) hK
/-- Behind 'want = append(want, name)'. -/
theorem FldSt.more {w0 : World} {cg ca cr : Bool} {t m : BitVec 16} {many : Int} {k : Nat} {W : World} {s : ByteArray} (h : FldSt w0 cg ca cr t m many k W) {v : Value} (hv : W.heap[w0.heap.size + 3]? = some (.cells #[v] 25 (0, 0))) (hown : W.ownsRow (w0.heap.size + 4) 9 1 v (Fld.upto cg ca cr k).length ((Fld.upto cg ca cr k).map .string))
    (hk : Fld.upto cg ca cr (k + 1) = Fld.upto cg ca cr k ++ [s]) {o : Obj} {w3 : World} {v3 : Value} (ho : w3.ownsRow (w0.heap.size + 4) 9 1 v3 ((Fld.upto cg ca cr k).length + 1) ((Fld.upto cg ca cr k).map .string ++ [.string s])) (hg : (W.alloc o).grownBy w3 v.ownBlock) :
    w3.heap[w0.heap.size + 3]? = some (.cells #[v] 25 (0, 0)) ∧ FldSt w0 cg ca cr t m many (k + 1) (w3.setCell ⟨w0.heap.size + 3, 0, none⟩ v3) := by
  have ha := gr_alloc W o
  have hs := h.sz
  have keep : ∀ (j : Nat) (x : Obj), j < w0.heap.size + 4 → W.heap[j]? = some x → w3.heap[j]? = some x := fun j x hj hx => by
    have h1 := blk_belowL hx ha
    refine (hg.block j (Array.getElem?_eq_some_iff.1 h1).1 ?_).trans h1
    intro e
    have := (hown.lt j e.symm).1
    omega
  have k3 := keep _ _ (by omega) hv
  refine ⟨k3, ?_, ?_, ?_, ⟨v3, ?_, ?_⟩, ?_, ?_⟩
  · rw [heap_setCell_other _ _ _ _ (show w0.heap.size ≠ w0.heap.size + 3 by omega)]; exact keep _ _ (by omega) h.b0
  · rw [heap_setCell_other _ _ _ _ (show w0.heap.size + 1 ≠ w0.heap.size + 3 by omega)]; exact keep _ _ (by omega) h.b1
  · rw [heap_setCell_other _ _ _ _ (show w0.heap.size + 2 ≠ w0.heap.size + 3 by omega)]; exact keep _ _ (by omega) h.b2
  · exact heap_setCell_same _ _ _ _ _ _ k3
  · rw [hk, List.length_append, List.map_append]
    exact own_setCell_other ho (by omega)
  · have := hg.size; simp at this ⊢; omega
  · exact ((h.bel.trans (ha.mono (by omega))).grown hg (by have := ha.size; omega) (fun j hj => by have := (hown.lt j hj).1; omega)).setCell (p := ⟨w0.heap.size + 3, 0, none⟩) (by simp) _
set_option maxHeartbeats 6400000 in
set_option maxRecDepth 20000 in
theorem lawFields (cg ca cr : Bool) (t m : BitVec 16) (many : Int) (w : World) (_ : -9223372036854775808 ≤ many ∧ many ≤ 9223372036854775807) :
    Calls Try.prog 3 #[.agg #[.bool cg, .bool ca, .bool cr, .int .u16 (uv t), .int .u16 (uv m)], .int .i64 many] w fun e w' => e = .returned (.bool true) ∧ Below w.heap.size w w' := by
  obtain ⟨W, hW⟩ : ∃ W, W = (((w.alloc (.cells #[.bool cg, .bool ca, .bool cr, .int .u16 (uv t), .int .u16 (uv m)] 24)).alloc (.cells #[.int .i64 many] 3)).alloc (.cells #[.bool false] 4)).alloc (.cells #[.slice none 0 0] 25) := ⟨_, rfl⟩
  have ST := Lib.hid (show FldSt w cg ca cr t m many 0 W by
    rw [hW]
    refine ⟨?_, ?_, ?_, ⟨.slice none 0 0, ?_, World.ownsRow_nil _ _ _ _⟩, by simp, ?_⟩
    · exact blk_belowL (heap_alloc_new w _) (gr_tr (gr_tr (gr_alloc _ _) (gr_alloc _ _)) (gr_alloc _ _))
    · have h := blk_belowL (heap_alloc_new (w.alloc (.cells #[.bool cg, .bool ca, .bool cr, .int .u16 (uv t), .int .u16 (uv m)] 24)) (.cells #[.int .i64 many] 3)) (gr_tr (gr_alloc _ (.cells #[.bool false] 4)) (gr_alloc _ (.cells #[.slice none 0 0] 25)))
      simpa using h
    · have h := blk_belowL (heap_alloc_new ((w.alloc (.cells #[.bool cg, .bool ca, .bool cr, .int .u16 (uv t), .int .u16 (uv m)] 24)).alloc (.cells #[.int .i64 many] 3)) (.cells #[.bool false] 4)) (gr_alloc _ (.cells #[.slice none 0 0] 25))
      simpa using h
    · have h := heap_alloc_new (((w.alloc (.cells #[.bool cg, .bool ca, .bool cr, .int .u16 (uv t), .int .u16 (uv m)] 24)).alloc (.cells #[.int .i64 many] 3)).alloc (.cells #[.bool false] 4)) (.cells #[.slice none 0 0] 25)
      simpa using h
    · exact gr_tr (gr_tr (gr_tr (gr_alloc _ _) (gr_alloc _ _)) (gr_alloc _ _)) (gr_alloc _ _))
  have HW := Lib.hid hW
  clear hW
  refine callsIn_wide.1 (callsIn_of_wp_marks (F := Fence.wide) (n := 8) Try.func3 rfl trivial ?_)
  simp only [Try.ntmps3, List.size_toArray, List.length_cons, List.length_nil, Nat.reduceAdd, Nat.reduceSub, Array.replicate_succ, Array.replicate_zero, List.push_toArray, List.append_toArray, List.nil_append, List.cons_append]
  refine wpIn_wide.2 ?_
  let FT : Exit → Act → World → Prop := bodyPost Try.prog Try.f3 (fun _ _ => True)
  go_upto_region 2 with fail
  rw [← HW.out]
  have q0 : W.cell? ⟨w.heap.size, 0, none⟩ = some (.bool cg) := (cell_of_row _ _ 0 _ _ _ ST.out.b0).trans rfl
  go_upto_if 12 with fail
  clear q0
  go_cut [] (fun wx => FldSt w cg ca cr t m many 1 wx)
  case first =>
    obtain hf | hf : cg = false ∨ cg = true := by cases cg <;> simp
    · have e9 : Fld.upto cg ca cr 1 = Fld.upto cg ca cr 0 := by rw [Fld.step0, hf]; simp [Fld.one]
      have SX : Hid (FldSt w cg ca cr t m many 1 W) := Lib.hid ⟨ST.out.b0, ST.out.b1, ST.out.b2, by rw [e9]; exact ST.out.want, ST.out.sz, ST.out.bel⟩
      clear e9
      subst hf
      go_wp2
      go_meet
      exact SX.out
    · have e9 := Lib.hid (show Fld.upto cg ca cr 1 = Fld.upto cg ca cr 0 ++ [Fld.sG] by rw [Fld.step0, hf]; simp [Fld.one])
      obtain ⟨v, hv, hown⟩ := ST.out.want
      have q9 : W.cell? ⟨w.heap.size + 3, 0, none⟩ = some v := (cell_of_row _ _ 0 _ _ _ hv).trans rfl
      have V := Lib.hid hv; have OWN := Lib.hid hown
      have HL := Lib.hid (show (Fld.upto cg ca cr 0).length ≤ 3 from Fld.upto_le cg ca cr 0)
      clear hv hown
      subst hf
      go_wp2_with (at_builtin; go_loud (refine app_law_at strsOk rfl (.tmp 13) (.tmp 14) rfl (w.heap.size + 4) v _ _ rfl (own_below OWN.out (gr_alloc _ _)) (some ⟨W.heap.size, 0, none⟩) 1 1 [.string Fld.sG] rfl (by simp) (by omega) (Row.lit _ _ _ _) rfl (by simp [Value.oneCell']) (by have := HL.out; omega) (by have := HL.out; omega) (by have := ST.out.sz; simp; omega) ?_; intro v3 w3 ho hg ha; have hx := FldSt.more ST.out V.out OWN.out e9.out ho hg; have k3 := hx.1; have N3 := hx.2; clear hx; have z3 := frozen_of_row _ _ 0 _ _ k3; have q3 : w3.cell? ⟨w.heap.size + 3, 0, none⟩ = some v := (cell_of_row _ _ 0 _ _ _ k3).trans rfl; have hs9 := Go.Proofs.Ytpobkgkjfebhgaa.own_shape ho; obtain ⟨a3, c3, rfl⟩ := hs9; have NX := Lib.hid N3; clear ho hg ha k3 N3 q9))
      go_meet
      exact NX.out
  case rest =>
    clear ST
    have ST := Lib.hid hcut
    clear hcut
    obtain ⟨W, hW⟩ : ∃ W, W = wc := ⟨_, rfl⟩
    subst hW
    have q1 : W.cell? ⟨w.heap.size, 1, none⟩ = some (.bool ca) := (cell_of_row _ _ 1 _ _ _ ST.out.b0).trans rfl
    go_upto_if 17 with fail
    clear q1
    go_cut [] (fun wx => FldSt w cg ca cr t m many 2 wx)
    case first =>
      obtain hf | hf : ca = false ∨ ca = true := by cases ca <;> simp
      · have e9 : Fld.upto cg ca cr 2 = Fld.upto cg ca cr 1 := by rw [Fld.step1, hf]; simp [Fld.one]
        have SX : Hid (FldSt w cg ca cr t m many 2 W) := Lib.hid ⟨ST.out.b0, ST.out.b1, ST.out.b2, by rw [e9]; exact ST.out.want, ST.out.sz, ST.out.bel⟩
        clear e9
        subst hf
        go_wp2
        go_meet
        exact SX.out
      · have e9 := Lib.hid (show Fld.upto cg ca cr 2 = Fld.upto cg ca cr 1 ++ [Fld.sA] by rw [Fld.step1, hf]; simp [Fld.one])
        obtain ⟨v, hv, hown⟩ := ST.out.want
        have q9 : W.cell? ⟨w.heap.size + 3, 0, none⟩ = some v := (cell_of_row _ _ 0 _ _ _ hv).trans rfl
        have V := Lib.hid hv; have OWN := Lib.hid hown
        have HL := Lib.hid (show (Fld.upto cg ca cr 1).length ≤ 3 from Fld.upto_le cg ca cr 1)
        clear hv hown
        subst hf
        go_wp2_with (at_builtin; go_loud (refine app_law_at strsOk rfl (.tmp 18) (.tmp 19) rfl (w.heap.size + 4) v _ _ rfl (own_below OWN.out (gr_alloc _ _)) (some ⟨W.heap.size, 0, none⟩) 1 1 [.string Fld.sA] rfl (by simp) (by omega) (Row.lit _ _ _ _) rfl (by simp [Value.oneCell']) (by have := HL.out; omega) (by have := HL.out; omega) (by have := ST.out.sz; simp; omega) ?_; intro v3 w3 ho hg ha; have hx := FldSt.more ST.out V.out OWN.out e9.out ho hg; have k3 := hx.1; have N3 := hx.2; clear hx; have z3 := frozen_of_row _ _ 0 _ _ k3; have q3 : w3.cell? ⟨w.heap.size + 3, 0, none⟩ = some v := (cell_of_row _ _ 0 _ _ _ k3).trans rfl; have hs9 := Go.Proofs.Ytpobkgkjfebhgaa.own_shape ho; obtain ⟨a3, c3, rfl⟩ := hs9; have NX := Lib.hid N3; clear ho hg ha k3 N3 q9))
        go_meet
        exact NX.out
    case rest =>
      clear ST
      have ST := Lib.hid hcut
      clear hcut
      obtain ⟨W, hW⟩ : ∃ W, W = wc := ⟨_, rfl⟩
      subst hW
      have q2 : W.cell? ⟨w.heap.size, 2, none⟩ = some (.bool cr) := (cell_of_row _ _ 2 _ _ _ ST.out.b0).trans rfl
      go_upto_if 22 with fail
      clear q2
      go_cut [] (fun wx => FldSt w cg ca cr t m many 3 wx)
      case first =>
        obtain hf | hf : cr = false ∨ cr = true := by cases cr <;> simp
        · have e9 : Fld.upto cg ca cr 3 = Fld.upto cg ca cr 2 := by rw [Fld.step2, hf]; simp [Fld.one]
          have SX : Hid (FldSt w cg ca cr t m many 3 W) := Lib.hid ⟨ST.out.b0, ST.out.b1, ST.out.b2, by rw [e9]; exact ST.out.want, ST.out.sz, ST.out.bel⟩
          clear e9
          subst hf
          go_wp2
          go_meet
          exact SX.out
        · have e9 := Lib.hid (show Fld.upto cg ca cr 3 = Fld.upto cg ca cr 2 ++ [Fld.sR] by rw [Fld.step2, hf]; simp [Fld.one])
          obtain ⟨v, hv, hown⟩ := ST.out.want
          have q9 : W.cell? ⟨w.heap.size + 3, 0, none⟩ = some v := (cell_of_row _ _ 0 _ _ _ hv).trans rfl
          have V := Lib.hid hv; have OWN := Lib.hid hown
          have HL := Lib.hid (show (Fld.upto cg ca cr 2).length ≤ 3 from Fld.upto_le cg ca cr 2)
          clear hv hown
          subst hf
          go_wp2_with (at_builtin; go_loud (refine app_law_at strsOk rfl (.tmp 23) (.tmp 24) rfl (w.heap.size + 4) v _ _ rfl (own_below OWN.out (gr_alloc _ _)) (some ⟨W.heap.size, 0, none⟩) 1 1 [.string Fld.sR] rfl (by simp) (by omega) (Row.lit _ _ _ _) rfl (by simp [Value.oneCell']) (by have := HL.out; omega) (by have := HL.out; omega) (by have := ST.out.sz; simp; omega) ?_; intro v3 w3 ho hg ha; have hx := FldSt.more ST.out V.out OWN.out e9.out ho hg; have k3 := hx.1; have N3 := hx.2; clear hx; have z3 := frozen_of_row _ _ 0 _ _ k3; have q3 : w3.cell? ⟨w.heap.size + 3, 0, none⟩ = some v := (cell_of_row _ _ 0 _ _ _ k3).trans rfl; have hs9 := Go.Proofs.Ytpobkgkjfebhgaa.own_shape ho; obtain ⟨a3, c3, rfl⟩ := hs9; have NX := Lib.hid N3; clear ho hg ha k3 N3 q9))
          go_meet
          exact NX.out
      case rest =>
        clear ST
        have ST := Lib.hid hcut
        clear hcut
        obtain ⟨W, hW⟩ : ∃ W, W = wc := ⟨_, rfl⟩
        subst hW
        have B0 := ST.out.b0
        obtain ⟨v, hv3, hown3⟩ := ST.out.want
        have hs9 := own_shape hown3
        obtain ⟨av, cv, rfl⟩ := hs9
        have OG := Lib.hid (show ∀ g, (Value.slice av (Fld.upto cg ca cr 3).length cv).ownBlock = some g → g < W.heap.size from fun g hg => (hown3.lt g hg).2)
        have SZ := Lib.hid ST.out.sz
        have V3 := Lib.hid hv3; have O3 := Lib.hid hown3
        clear hv3 hown3
        go_upto_region 9 with (first
          | (refine wpList_load_row rfl 24 (.tmp 2) rfl w.heap.size rfl 24 #[.bool cg, .bool ca, .bool cr, .int .u16 (uv t), .int .u16 (uv m)] (0, 0) _ B0 Try.underlying24 rfl (by kernel_rfl) ?_)
          | (go_at_call 4; go_loud (refine (Fields_any cg ca cr t m W).mono ?_; rintro e w1 ⟨rfl, hf, hlt, hb⟩; have S1 := Lib.hid (ST.out.below hb); have F1 := Lib.hid hf; have L1 := Lib.hid hlt; have V4 := Lib.hid (blk_belowL V3.out hb); have O4 := Lib.hid (own_below O3.out hb); clear hf hlt hb)))
        clear ST B0
        obtain ⟨Bs, hBs⟩ : ∃ B, W.heap.size = B := ⟨_, rfl⟩
        rw [hBs] at F1 L1 OG SZ ⊢
        have HBs := Lib.hid hBs
        clear hBs
        have hq : ∀ w, (binOp .eql 27 (.func (.func 6) #[] #[.pointer (some ⟨Bs, 0, none⟩)]) .nilFunc).run Try.prog w = .ok (.bool false) w := fun w => by kernel_rfl
        go_upto_region 11 with fail
        obtain ⟨W, hW⟩ : ∃ W, W = w1 := ⟨_, rfl⟩
        subst hW
        clear hq
        have R0 := Lib.hid (Rnd.start S1.out V4.out O4.out OG.out F1.out SZ.out L1.out)
        clear V3 O3 V4 O4 S1 F1 HBs OG SZ
        go_wp2
        refine wp_loop_rounds 3 ?_
        rw [rounds_succ]
        go_wp2
        obtain ⟨W2, hW2⟩ : ∃ X, X = ((W.alloc (.cells #[.int .i64 0] 3)).alloc (.cells #[.int .i64 0] 3)) := ⟨_, rfl⟩
        rw [← hW2]
        have RS := Lib.hid (show Rnd w cg ca cr t m many (.slice av (Fld.upto cg ca cr 3).length cv) Bs W.heap.size (W.heap.size + 1) 0 0 [] W2 by rw [hW2]; exact R0.out)
        have KLT := Lib.hid (show W.heap.size + 1 < W2.heap.size by rw [hW2]; simp)
        clear R0 L1 hW2
        obtain ⟨K, hK⟩ : ∃ K, W.heap.size + 1 = K := ⟨_, rfl⟩
        rw [hK] at RS KLT ⊢
        obtain ⟨T, hT⟩ : ∃ T, W.heap.size = T := ⟨_, rfl⟩
        rw [hT] at RS ⊢
        clear hK hT
        have n1 : (w.heap.size + 1 = K) = False := eq_false (by have := RS.out.o1; have := RS.out.o2; have := RS.out.o3; omega)
        have n2 : (K = w.heap.size + 1) = False := eq_false (by have := RS.out.o1; have := RS.out.o2; have := RS.out.o3; omega)
        have n3 : (T = K) = False := eq_false (by have := RS.out.o3; omega)
        have n4 : (K = T) = False := eq_false (by have := RS.out.o3; omega)
        refine (wpIn_wide (n := 8)).1 ?_
        refine rf_join (F := Fence.wide) (n := 8) rfl (by omega) (gf := 6) (lb := #[.pointer (some ⟨Bs, 0, none⟩)]) rfl trivial (enters_of Try.func6 (by kernel_rfl) rfl) (Fields_stops 7 (by omega) Bs cg ca cr t m W2 RS.out.blt RS.out.f) (fun _ _ => trivial) (fun _ _ _ _ _ _ _ _ => trivial) (Below.refl _ _) (fun _ => rfl)
          (fun pre X => Rnd w cg ca cr t m many (.slice av (Fld.upto cg ca cr 3).length cv) Bs T K 0 pre.length [] X ∧ pre.map (·.val) = List.range pre.length ∧ (pre = [] ∨ (pre.length : Int) < many))
          (fun pre X => Rnd w cg ca cr t m many (.slice av (Fld.upto cg ca cr 3).length cv) Bs T K 0 pre.length [] X ∧ many ≤ pre.length ∧ (pre.length = 1 ∨ (pre.length : Int) - 1 < many) ∧ 1 ≤ pre.length ∧ pre.length ≤ (Fld.names cg ca cr).length)
          (fun X => ∃ k : Nat, min ((Fld.upto cg ca cr 3).length : Int) (max 1 many) = (k : Int) ∧ k ≤ 3 ∧ Rnd w cg ca cr t m many (.slice av (Fld.upto cg ca cr 3).length cv) Bs T K 0 k [] X)
          (fun s A B row hs hg hr => ⟨hs.1.grown hg (fun r e => by have := (hr r e).1; have := KLT.out; omega), hs.2⟩)
          (fun s A B row hs hg hr => ⟨hs.1.grown hg (fun r e => by have := (hr r e).1; have := KLT.out; omega), hs.2⟩)
          ⟨RS.out, rfl, .inl rfl⟩ ?ab ?done ?stop ?go
        case ab =>
          apply Exists.intro
          apply And.intro
          case left =>
            intro l x W K hK
            simp only [Fld.encs]
            gi_wp2
            exact hK
          case right =>
            rintro l pre x X ⟨hR, hpre, hmany⟩ hlt
            obtain ⟨s, hs⟩ : ∃ s, (Fld.names cg ca cr)[x.val]'x.isLt = s := ⟨_, rfl⟩
            rw [hs]
            obtain ⟨k, hk⟩ : ∃ k, pre.length = k := ⟨_, rfl⟩
            rw [hk] at hR hpre hmany hlt
            obtain ⟨j, hj⟩ : ∃ j, x.val = j := ⟨_, rfl⟩
            rw [hj]
            have c1 : X.cell? ⟨w.heap.size + 1, 0, none⟩ = some (.int .i64 many) := (cell_of_row _ _ 0 _ _ _ hR.b1).trans rfl
            have c2 : X.cell? ⟨w.heap.size + 2, 0, none⟩ = some (.bool false) := (cell_of_row _ _ 0 _ _ _ hR.b2).trans rfl
            have c3 : X.cell? ⟨w.heap.size + 3, 0, none⟩ = some (.slice av (Fld.upto cg ca cr 3).length cv) := (cell_of_row _ _ 0 _ _ _ hR.b3).trans rfl
            have ct : X.cell? ⟨T, 0, none⟩ = some (.int .i64 0) := (cell_of_row _ _ 0 _ _ _ hR.tb).trans rfl
            have ck : X.cell? ⟨K, 0, none⟩ = some (.int .i64 k) := (cell_of_row _ _ 0 _ _ _ hR.kb).trans rfl
            have z2 := frozen_of_row _ _ 0 _ _ hR.b2
            have zk := frozen_of_row _ _ 0 _ _ hR.kb
            have hlt' : k < (Fld.upto cg ca cr 3).length := hlt
            have hk3 : k ≤ 3 := by have := Fld.upto_le cg ca cr 3; omega
            have RR := Lib.hid hR
            have PRE := Lib.hid hpre; have MANY := Lib.hid hmany; have HK := Lib.hid hk; have HS := Lib.hid hs
            have HLT := Lib.hid hlt; have HJ := Lib.hid hj
            have hw1 : IntKind.i64.wrap ((k : Int) + 1) = ((k + 1 : Nat) : Int) := by rw [IntKind.wrap_i64]; omega
            clear hR hpre hmany hk hs hlt hj
            by_cases hjk : j = k
            · subst hjk
              obtain ⟨gb, go, rfl, hcell⟩ := (Row.of_own RR.out.own).at (i := j) (v := .string s) (by rw [List.getElem?_map, List.getElem?_eq_getElem HLT.out, ← HS.out]; simp only [HJ.out]; rfl)
              obtain ⟨N, hN⟩ : ∃ N, (Fld.upto cg ca cr 3).length = N := ⟨_, rfl⟩
              rw [hN] at c3 hlt'
              have HN := Lib.hid hN
              clear hN
              by_cases hb : many ≤ ((j + 1 : Nat) : Int)
              · have hb2 : decide (many ≤ ((j + 1 : Nat) : Int)) = true := decide_eq_true hb
                gi_wp2
                have hl : (pre ++ [x]).length = j + 1 := by rw [List.length_append, HK.out]; rfl
                have e1 : ((j + 1 : Nat) : Int) = (j : Int) + 1 := by omega
                refine ⟨KeepsOthers.setCell _ _ _, .inr ⟨rfl, ?_, ?_, ?_, ?_, ?_⟩⟩
                · rw [hl, e1]; exact RR.out.setK
                · rw [hl]; exact hb
                · rcases MANY.out with h | h
                  · left; rw [hl]; have := HK.out; rw [h] at this; simp at this; omega
                  · right; rw [hl]; omega
                · rw [hl]; omega
                · rw [hl]; exact HLT.out
              · gi_wp2
                have hl : (pre ++ [x]).length = j + 1 := by rw [List.length_append, HK.out]; rfl
                have e1 : ((j + 1 : Nat) : Int) = (j : Int) + 1 := by omega
                refine ⟨KeepsOthers.setCell _ _ _, trivial, ?_, ?_, ?_⟩
                · rw [hl, e1]; exact RR.out.setK
                · rw [hl, List.map_append, PRE.out, List.range_succ]; simp [HJ.out]
                · right; rw [hl]; omega
            · have hne : ((j : Int) != (k : Int)) = true := by simp; omega
              gi_wp2
              have hl : (pre ++ [x]).length = k + 1 := by rw [List.length_append, HK.out]; rfl
              refine ⟨KeepsOthers.setCell _ _ _, .inl ⟨rfl, fun hsp => hjk ?_⟩⟩
              have h := hsp.1
              rw [hl, List.map_append, PRE.out, List.range_succ] at h
              have h2 := List.append_cancel_left h
              simp [HJ.out] at h2
              exact h2
        case done =>
          rintro xs X hS ⟨hR, hpre, hmany⟩
          have hl : xs.length = (Fld.names cg ca cr).length := by have := congrArg List.length (hpre.symm.trans hS); simpa using this
          refine ⟨xs.length, ?_, by rw [hl]; exact Fld.len_le cg ca cr, hR⟩
          rw [show (Fld.upto cg ca cr 3).length = xs.length from hl.symm]
          rcases hmany with h | h
          · subst h; simp; omega
          · omega
        case stop =>
          rintro pre X hSp ⟨hR, h1, h2, h3, h4⟩
          refine ⟨pre.length, ?_, Nat.le_trans h4 (Fld.len_le cg ca cr), hR⟩
          have h5 : pre.length ≤ (Fld.upto cg ca cr 3).length := h4
          omega
        case go =>
          rintro D1 X hD ⟨k, hmin, hk3, hR⟩ hK
          have c1 : X.cell? ⟨w.heap.size + 1, 0, none⟩ = some (.int .i64 many) := (cell_of_row _ _ 0 _ _ _ hR.b1).trans rfl
          have c3 : X.cell? ⟨w.heap.size + 3, 0, none⟩ = some (.slice av (Fld.upto cg ca cr 3).length cv) := (cell_of_row _ _ 0 _ _ _ hR.b3).trans rfl
          have ct : X.cell? ⟨T, 0, none⟩ = some (.int .i64 0) := (cell_of_row _ _ 0 _ _ _ hR.tb).trans rfl
          have ck : X.cell? ⟨K, 0, none⟩ = some (.int .i64 k) := (cell_of_row _ _ 0 _ _ _ hR.kb).trans rfl
          have RR := Lib.hid hR; have HK1 := Lib.hid hK; have HMIN := Lib.hid hmin
          have HD := Lib.hid (show K < D1 by have := KLT.out; omega)
          clear hR hK KLT
          go_upto_region 22 with fail
          go_cut [83] (fun s wx => s = .bool false ∧ wx = X)
          case first =>
            go_wp2
            all_goals go_meet
            all_goals first | exact ⟨rfl, rfl⟩ | (refine ⟨?_, rfl⟩; congr 1; simp; omega)
          case rest =>
            obtain ⟨rfl, rfl⟩ := hcut
            clear c1 c3 ck hmin
            go_wp2
            rw [rounds_succ]
            clear ct
            go_wp2
            obtain ⟨W2, hW2⟩ : ∃ X, X = ((wc.alloc (.cells #[.int .i64 1] 3)).alloc (.cells #[.int .i64 0] 3)) := ⟨_, rfl⟩
            rw [← hW2]
            have RS := Lib.hid (show Rnd w cg ca cr t m many (.slice av (Fld.upto cg ca cr 3).length cv) Bs wc.heap.size (wc.heap.size + 1) 1 0 [D1] W2 by rw [hW2]; exact RR.out.next HD.out HK1.out)
            have KLT := Lib.hid (show wc.heap.size + 1 < W2.heap.size by rw [hW2]; simp)
            have DLT := Lib.hid (show D1 < wc.heap.size from (Array.getElem?_eq_some_iff.1 HK1.out).1)
            clear RR HK1 HD hW2 n1 n2 n3 n4 HMIN
            obtain ⟨K2, hK⟩ : ∃ K, wc.heap.size + 1 = K := ⟨_, rfl⟩
            rw [hK] at RS KLT ⊢
            obtain ⟨T2, hT⟩ : ∃ T, wc.heap.size = T := ⟨_, rfl⟩
            rw [hT] at RS DLT ⊢
            clear hK hT
            have n1 : (w.heap.size + 1 = K2) = False := eq_false (by have := RS.out.o1; have := RS.out.o2; have := RS.out.o3; omega)
            have n2 : (K2 = w.heap.size + 1) = False := eq_false (by have := RS.out.o1; have := RS.out.o2; have := RS.out.o3; omega)
            have n3 : (T2 = K2) = False := eq_false (by have := RS.out.o3; omega)
            have n4 : (K2 = T2) = False := eq_false (by have := RS.out.o3; omega)
            refine (wpIn_wide (n := 8)).1 ?_
            refine rf_join (F := Fence.wide) (n := 8) rfl (by omega) (gf := 6) (lb := #[.pointer (some ⟨Bs, 0, none⟩)]) rfl trivial (enters_of Try.func6 (by kernel_rfl) rfl) (Fields_stops 7 (by omega) Bs cg ca cr t m W2 RS.out.blt RS.out.f) (fun _ _ => trivial) (fun _ _ _ _ _ _ _ _ => trivial) (Below.refl _ _) (fun _ => rfl)
              (fun pre X => Rnd w cg ca cr t m many (.slice av (Fld.upto cg ca cr 3).length cv) Bs T2 K2 1 pre.length [D1] X ∧ pre.map (·.val) = List.range pre.length)
              (fun pre X => False)
              (fun X => Rnd w cg ca cr t m many (.slice av (Fld.upto cg ca cr 3).length cv) Bs T2 K2 1 (Fld.upto cg ca cr 3).length [D1] X)
              (fun s A B row hs hg hr => ⟨hs.1.grown hg (fun r e => by have := (hr r e).1; have := KLT.out; omega), hs.2⟩)
              (fun s A B row hs hg hr => hs)
              ⟨RS.out, rfl⟩ ?ab2 ?done2 ?stop2 ?go2
            case ab2 =>
              apply Exists.intro
              apply And.intro
              case left =>
                intro l x W K hK
                simp only [Fld.encs]
                gi_wp2
                exact hK
              case right =>
                rintro l pre x X ⟨hR, hpre⟩ hlt
                obtain ⟨s, hs⟩ : ∃ s, (Fld.names cg ca cr)[x.val]'x.isLt = s := ⟨_, rfl⟩
                rw [hs]
                obtain ⟨k, hk⟩ : ∃ k, pre.length = k := ⟨_, rfl⟩
                rw [hk] at hR hpre hlt
                obtain ⟨j, hj⟩ : ∃ j, x.val = j := ⟨_, rfl⟩
                rw [hj]
                have c1 : X.cell? ⟨w.heap.size + 1, 0, none⟩ = some (.int .i64 many) := (cell_of_row _ _ 0 _ _ _ hR.b1).trans rfl
                have c2 : X.cell? ⟨w.heap.size + 2, 0, none⟩ = some (.bool false) := (cell_of_row _ _ 0 _ _ _ hR.b2).trans rfl
                have c3 : X.cell? ⟨w.heap.size + 3, 0, none⟩ = some (.slice av (Fld.upto cg ca cr 3).length cv) := (cell_of_row _ _ 0 _ _ _ hR.b3).trans rfl
                have ct : X.cell? ⟨T2, 0, none⟩ = some (.int .i64 1) := (cell_of_row _ _ 0 _ _ _ hR.tb).trans rfl
                have ck : X.cell? ⟨K2, 0, none⟩ = some (.int .i64 k) := (cell_of_row _ _ 0 _ _ _ hR.kb).trans rfl
                have z2 := frozen_of_row _ _ 0 _ _ hR.b2
                have zk := frozen_of_row _ _ 0 _ _ hR.kb
                have hlt' : k < (Fld.upto cg ca cr 3).length := hlt
                have hk3 : k ≤ 3 := by have := Fld.upto_le cg ca cr 3; omega
                have RR := Lib.hid hR
                have PRE := Lib.hid hpre; have HK := Lib.hid hk; have HS := Lib.hid hs
                have HLT := Lib.hid hlt; have HJ := Lib.hid hj
                have hw1 : IntKind.i64.wrap ((k : Int) + 1) = ((k + 1 : Nat) : Int) := by rw [IntKind.wrap_i64]; omega
                clear hR hpre hk hs hlt hj
                by_cases hjk : j = k
                · subst hjk
                  obtain ⟨gb, go, rfl, hcell⟩ := (Row.of_own RR.out.own).at (i := j) (v := .string s) (by rw [List.getElem?_map, List.getElem?_eq_getElem HLT.out, ← HS.out]; simp only [HJ.out]; rfl)
                  obtain ⟨N, hN⟩ : ∃ N, (Fld.upto cg ca cr 3).length = N := ⟨_, rfl⟩
                  rw [hN] at c3 hlt'
                  have HN := Lib.hid hN
                  clear hN
                  gi_wp2
                  have hl : (pre ++ [x]).length = j + 1 := by rw [List.length_append, HK.out]; rfl
                  have e1 : ((j + 1 : Nat) : Int) = (j : Int) + 1 := by omega
                  refine ⟨KeepsOthers.setCell _ _ _, trivial, ?_, ?_⟩
                  · rw [hl, e1]; exact RR.out.setK
                  · rw [hl, List.map_append, PRE.out, List.range_succ]; simp [HJ.out]
                · have hne : ((j : Int) != (k : Int)) = true := by simp; omega
                  gi_wp2
                  have hl : (pre ++ [x]).length = k + 1 := by rw [List.length_append, HK.out]; rfl
                  refine ⟨KeepsOthers.setCell _ _ _, .inl ⟨rfl, fun hsp => hjk ?_⟩⟩
                  have h := hsp.1
                  rw [hl, List.map_append, PRE.out, List.range_succ] at h
                  have h2 := List.append_cancel_left h
                  simp [HJ.out] at h2
                  exact h2
            case done2 =>
              rintro xs X hS ⟨hR, hpre⟩
              have hl : xs.length = (Fld.names cg ca cr).length := by have := congrArg List.length (hpre.symm.trans hS); simpa using this
              rw [hl] at hR
              exact hR
            case stop2 =>
              rintro pre X hSp h
              exact h.elim
            case go2 =>
              rintro D2 X hD hR hK
              have c3 : X.cell? ⟨w.heap.size + 3, 0, none⟩ = some (.slice av (Fld.upto cg ca cr 3).length cv) := (cell_of_row _ _ 0 _ _ _ hR.b3).trans rfl
              have ct : X.cell? ⟨T2, 0, none⟩ = some (.int .i64 1) := (cell_of_row _ _ 0 _ _ _ hR.tb).trans rfl
              have ck : X.cell? ⟨K2, 0, none⟩ = some (.int .i64 (Fld.upto cg ca cr 3).length) := (cell_of_row _ _ 0 _ _ _ hR.kb).trans rfl
              have RR := Lib.hid hR; have HK2 := Lib.hid hK
              have HD := Lib.hid (show K2 < D2 by have := KLT.out; omega)
              clear hR hK KLT
              go_upto_region 22 with fail
              go_cut [83] (fun s wx => s = .bool false ∧ wx = X)
              case first =>
                go_wp2
                all_goals go_meet
                all_goals first | exact ⟨rfl, rfl⟩ | (refine ⟨?_, rfl⟩; congr 1; simp; omega)
              case rest =>
                obtain ⟨rfl, rfl⟩ := hcut
                clear c3 ck
                go_wp2
                rw [rounds_succ]
                clear ct
                go_wp2_with (go_at_call 5; go_loud (refine (works_any _).mono ?_; rintro e w9 ⟨rfl, hw⟩; have hb9 : Below wc.heap.size wc w9 := gr_tr (gr_alloc wc _) hw; have R9 := Lib.hid (RR.out.grown (grown_of_below hb9) (fun r e => by cases e)); have K9 := Lib.hid (blk_belowL HK2.out hb9); have c9 : w9.cell? ⟨w.heap.size + 2, 0, none⟩ = some (.bool false) := (cell_of_row _ _ 0 _ _ _ R9.out.b2).trans rfl; have z9 := frozen_of_row _ _ 0 _ _ R9.out.b2; clear hw hb9))
                have hne : D1 ≠ D2 := by have := DLT.out; have := HD.out; have := RR.out.o3; omega
                have hn2 : w.heap.size + 2 ≠ D2 := by have := HD.out; have := RR.out.o1; have := RR.out.o2; have := RR.out.o3; omega
                obtain ⟨d1, d2, d3⟩ := R9.out.ds D1 (by simp)
                have hn1 : w.heap.size + 2 ≠ D1 := by have := RR.out.o1; omega
                obtain ⟨V, hV⟩ : ∃ V, V = w9.setCell ⟨w.heap.size + 2, 0, none⟩ (.bool true) := ⟨_, rfl⟩
                have V2 : V.heap[D2]? = some (.deferred (some [])) := by rw [hV, heap_setCell_other _ _ _ _ (Ne.symm hn2)]; exact K9.out
                have V1 : V.heap[D1]? = some (.deferred (some [])) := by rw [hV, heap_setCell_other _ _ _ _ (Ne.symm hn1)]; exact d3
                have Vc : V.heap[w.heap.size + 2]? = some (.cells #[.bool true] 4 (0, 0)) := by rw [hV]; exact heap_setCell_same _ _ _ _ _ _ R9.out.b2
                have VB : Below w.heap.size w V := by rw [hV]; exact R9.out.bel.setCell (p := ⟨w.heap.size + 2, 0, none⟩) (by simp) _
                rw [← hV]
                have V1' : (V.putObj D2 (.deferred none)).heap[D1]? = some (.deferred (some [])) := (World.putObj_heap_other hne).trans V1
                have Vc' : ((V.putObj D2 (.deferred none)).putObj D1 (.deferred none)).heap[w.heap.size + 2]? = some (.cells #[.bool true] 4 (0, 0)) := (World.putObj_heap_other hn1).trans ((World.putObj_heap_other hn2).trans Vc)
                have hc5 := (cell_of_row _ _ 0 _ _ _ Vc').trans rfl
                have VB' : Below w.heap.size w ((V.putObj D2 (.deferred none)).putObj D1 (.deferred none)) := (VB.grown (grownBy_putObj' V D2 _) VB.size (fun k e => by cases e; have := HD.out; have := RR.out.o1; have := RR.out.o2; have := RR.out.o3; omega)).grown (grownBy_putObj' _ D1 _) (by have := VB.size; simpa using this) (fun k e => by cases e; have := RR.out.o1; omega)
                refine ⟨by simp, .inl ⟨_, _, rfl, run_takeDeferred V2, ⟨by simp, .inl ⟨_, _, rfl, run_takeDeferred V1', ?_⟩⟩⟩⟩
                refine ⟨.bool true, ?_, rfl, VB'⟩
                simp [results, Try.f3, go_sem, hc5]
end Go.Proofs.Ytpobkgkjfebhgaa
