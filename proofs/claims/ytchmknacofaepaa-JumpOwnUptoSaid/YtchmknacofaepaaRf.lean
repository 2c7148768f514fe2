/-
  A range over a function, in two laws of this seat's own: the statement, out of what the iterator's call does; and a round, out of the walks of the assignment and of the body. (The iterator may keep state of its own in cells: nothing is asked of it here but what its contract says.)
-/
import Derived.RangeFuncNested
import Derived.RangeFuncLeaves
namespace Go.Proofs.Ytchmknacofaepaa.RF
open Go.RowKit

variable {F : Fence} {n : Nat} {P : Program}

/-- The record of a loop, as it was laid. -/
def lrec (fn : FuncId) (tmps : Array Value) (ps : Array Tmp) (assign body : Code) (D : Nat) : Loop :=
  { state := .ready, pending := none, fn := fn, tmps := tmps, params := ps, assign := assign, body := body, defers := D }

/-- The world in which the iterator is called. -/
def laidLoop (w : World) (rc : Loop) : World := (w.alloc (.deferred (some []))).alloc (.loop rc)

theorem laidLoop_rec (w : World) (rc : Loop) : (laidLoop w rc).heap[w.heap.size + 1]? = some (.loop rc) := by
  have := World.alloc_heap_new (w.alloc (.deferred (some []))) (.loop rc)
  rwa [World.size_alloc] at this
theorem laidLoop_def (w : World) (rc : Loop) : (laidLoop w rc).heap[w.heap.size]? = some (.deferred (some [])) :=
  (Below.heap_alloc _ _ _ (by simp)).trans (World.alloc_heap_new w _)
theorem laidLoop_below (w : World) (rc : Loop) : Below w.heap.size w (laidLoop w rc) :=
  ((Below.refl _ w).alloc (Nat.le_refl _) _).alloc (by simp) _
theorem laidLoop_size (w : World) (rc : Loop) : (laidLoop w rc).heap.size = w.heap.size + 2 := by simp [laidLoop]

/-- THE STATEMENT. 'hcall': the iterator's call comes back; either no round has left the loop (the record is ready), or one has left it by the jump c. -/
theorem range_stmt {g : Operand} {ps : Array Tmp} {assign body : Code} {Q : Exit → Act → World → Prop} {a : Act} {w : World}
    (hro : F.round = none) (h1 : 1 ≤ n) {gf : Nat} {lb : Array Value} (hg : a.eval g = .func (.func gf) #[] lb) (hFg : F.fn gf) (eg : ∀ args w, (callFunc gf args).run P w = .ok (.enter gf args) w)
    (Rd : World → Prop) (Rx : Code → World → Prop)
    (hcall : ∀ fn, F.fn fn → CallsIn F (n - 1) P gf (#[.func (.yield (w.heap.size + 1)) #[] #[]] ++ lb) (laidLoop w (lrec fn a.tmps ps assign body w.heap.size)) fun e W => (∃ v, e = .returned v) ∧
      ((W.heap[w.heap.size + 1]? = some (.loop (lrec fn a.tmps ps assign body w.heap.size)) ∧ Rd W) ∨
        ∃ c, W.heap[w.heap.size + 1]? = some (.loop { lrec fn a.tmps ps assign body w.heap.size with state := .done, pending := some c }) ∧ Rx c W))
    (hdone : ∀ W o, Rd W → (∃ r, W.heap[w.heap.size + 1]? = some (.loop r)) → Q .normal { a with defers := { target := .collected w.heap.size, args := #[] } :: a.defers } (W.putObj (w.heap.size + 1) o))
    (hstop : ∀ W o c, Rx c W → (∃ r, W.heap[w.heap.size + 1]? = some (.loop r)) → c.wpIn F n P Q { a with defers := { target := .collected w.heap.size, args := #[] } :: a.defers } (W.putObj (w.heap.size + 1) o)) :
    (Code.rangeFunc g ps assign body).wpIn F n P Q a w := by
  refine wpIn_rangeFunc fun fn hfn => ?_
  rw [hro]
  refine ⟨w.heap.size + 1, [{ target := .collected w.heap.size, args := #[] }], laidLoop w (lrec fn a.tmps ps assign body w.heap.size), { target := .fn (.func gf) lb, args := #[.func (.yield (w.heap.size + 1)) #[] #[]] }, laidLoop w (lrec fn a.tmps ps assign body w.heap.size), gf, _, _,
    run_enterLoop_outer _ _ _ _ _, ?_, ?_, ?_, fun _ => h1, (hcall fn hfn).mono ?_⟩
  · simp only [resolve, hg]; simp [go_sem]
  · intro f' hf'; simp [Target.leads] at hf'; subst hf'; exact hFg
  · simp [invoke, go_sem, eg]
  · rintro e W ⟨⟨v, rfl⟩, ⟨hl, hR⟩ | ⟨c, hl, hR⟩⟩
    · exact ⟨none, _, run_endLoop hl (by simp [lrec]), hdone W _ hR ⟨_, hl⟩⟩
    · exact ⟨some c, _, run_endLoop hl (by simp), hstop W _ c hR ⟨_, hl⟩⟩

/-- How a round's body may be left: it goes on, or leaves the loop by a jump; the record lies as it lay. -/
def roundEnd (l : Nat) (rc : Loop) (G : World → Prop) (X : Code → World → Prop) : Exit → Act → World → Prop
  | .normal, _, W => W.heap[l]? = some (.loop { rc with state := .busy }) ∧ G W
  | .ret, _, W => W.heap[l]? = some (.loop { rc with state := .busy }) ∧ X .ret W
  | .exit id, _, W => W.heap[l]? = some (.loop { rc with state := .busy }) ∧ X (.exit id) W
  | .goto t, _, W => W.heap[l]? = some (.loop { rc with state := .busy }) ∧ X (.goto t) W
  | .panic _, _, _ => False
  | .outgrown, _, _ => False

/-- A ROUND. -/
theorem yield_round {l D : Nat} {fn : FuncId} {tmps : Array Value} {ps : Array Tmp} {assign body : Code} {args : Array Value} {W : World} {a₁ : Act} {G : World → Prop} {X : Code → World → Prop}
    (hfn : F.fn fn) (hl : W.heap[l]? = some (.loop (lrec fn tmps ps assign body D))) (hsz : args.size = ps.size)
    (hassign : ∀ (K : Act → World → Prop), K a₁ W → assign.wpIn (F.inRound l) n P (Exit.then K (fun _ _ _ => False)) { tmps := (ps.zip args).foldl (fun t (p, v) => t.setIfInBounds p v) tmps, defers := [] } W)
    (hbody : ∀ W1 o, W1 = W.putObj l o → W1.heap[l]? = some (.loop { lrec fn tmps ps assign body D with state := .busy }) → body.wpIn (F.inRound l) n P (roundEnd l (lrec fn tmps ps assign body D) G X) a₁ W1) :
    YieldAt F n P l args W fun e W' =>
      (e = .returned (.bool true) ∧ ∃ V, G V ∧ (∃ r, V.heap[l]? = some (.loop r)) ∧ W' = V.putObj l (.loop (lrec fn tmps ps assign body D))) ∨
      (e = .returned (.bool false) ∧ ∃ c V, X c V ∧ (∃ r, V.heap[l]? = some (.loop r)) ∧ W' = V.putObj l (.loop { lrec fn tmps ps assign body D with state := .done, pending := some c })) := by
  refine ⟨fn, _, assign, body, run_yield hl hsz, roundIn_of_wpIn hfn (hassign _ ⟨_, run_beginRound hl rfl, wpIn_mono (hbody _ _ rfl (World.putObj_heap_same (Array.getElem?_eq_some_iff.1 hl).1)) ?_⟩)⟩
  rintro e a3 W3 hp
  cases e with
  | normal => obtain ⟨h3, hG⟩ := hp; exact ⟨_, _, run_endRound none h3, .inl ⟨rfl, W3, hG, ⟨_, h3⟩, rfl⟩⟩
  | ret => obtain ⟨h3, hX⟩ := hp; exact ⟨_, _, run_endRound (some .ret) h3, .inr ⟨rfl, .ret, W3, hX, ⟨_, h3⟩, rfl⟩⟩
  | exit id => obtain ⟨h3, hX⟩ := hp; exact ⟨_, _, run_endRound (some (.exit id)) h3, .inr ⟨rfl, .exit id, W3, hX, ⟨_, h3⟩, rfl⟩⟩
  | goto t => obtain ⟨h3, hX⟩ := hp; exact ⟨_, _, run_endRound (some (.goto t)) h3, .inr ⟨rfl, .goto t, W3, hX, ⟨_, h3⟩, rfl⟩⟩
  | panic ch => exact hp.elim
  | outgrown => exact hp.elim

/-- A turn of a block that lies at or beyond n₀. -/
theorem below_putObj {n₀ l : Nat} {w W : World} {o o' : Obj} (h : Below n₀ w W) (_ : W.heap[l]? = some o) (hn : n₀ ≤ l) (hw : n₀ ≤ w.heap.size) : Below n₀ w (W.putObj l o') :=
  h.grown (grownBy_putObj' W l o') (Nat.le_trans hw h.size) (fun k e => by cases e; exact hn)

theorem cell_putObj {l : Nat} {W : World} {o : Obj} {a : Addr} (h : a.block ≠ l) : (W.putObj l o).cell? a = W.cell? a := by
  unfold World.cell?; rw [World.putObj_heap_other h]
theorem frozen_putObj {l : Nat} {W : World} {o : Obj} {a : Addr} (h : a.block ≠ l) : (W.putObj l o).frozen? a = W.frozen? a := by
  unfold World.frozen?; rw [World.putObj_heap_other h]

end Go.Proofs.Ytchmknacofaepaa.RF
