import Derived.Test.YtchmknacofaepaaJw
namespace Go.Proofs.Ytchmknacofaepaa.JW
open Go.RowKit Go.Shelf Go.Proofs.Ytchmknacofaepaa.JF Go.Proofs.Ytchmknacofaepaa.RF
attribute [local go_sem] Oper.semAt_some

theorem heap_setCell_ne {W : World} {a : Addr} {v : Value} {k : Nat} {o : Obj} (h : W.heap[k]? = some o) (hne : k ≠ a.block) : (W.setCell a v).heap[k]? = some o :=
  (Below.heap_setCell W a v k hne).trans h
theorem heap_putObj_ne {W : World} {l : Nat} {o' : Obj} {k : Nat} {o : Obj} (h : W.heap[k]? = some o) (hne : k ≠ l) : (W.putObj l o').heap[k]? = some o :=
  (World.putObj_heap_other hne).trans h
theorem boxed_put {W : World} {B l : Nat} {t : TypeId} {v : Value} {o' : Obj} (h : Boxed W B t v) (hne : B ≠ l) : Boxed (W.putObj l o') B t v := heap_putObj_ne h hne
theorem boxed_laid {w : World} {B : Nat} {t : TypeId} {v : Value} (h : Boxed w B t v) (rc : Loop) : Boxed (laidLoop w rc) B t v := (h.alloc _).alloc _

/-- The last place that has come. -/
def lastI (pre : List Int) : Int := pre.getLast?.getD (-1)
theorem lastI_snoc (pre : List Int) (x : Int) : lastI (pre ++ [x]) = x := by simp [lastI]

set_option maxRecDepth 100000 in
set_option maxHeartbeats 2000000 in
theorem jump_in (F : Fence) (n : Nat) (hf : F.fn 10) (hf1 : F.fn 33) (hf2 : F.fn 47) (hro : F.round = none) (hn : 3 ≤ n) (h b : Int) (h0 : 0 ≤ h) (h1 : h ≤ 18446744073709551615) (hb0 : -9223372036854775808 ≤ b) (hb1 : b ≤ 9223372036854775807) (w : World) :
    CallsIn F n Try.prog 10 #[.int .u64 h, .int .i64 b] w fun e w' => e = .returned (.int .i64 (jumpV h b)) ∧ Below w.heap.size w w' := by
  have hn1 : 1 ≤ n := by omega
  refine callsIn_of_wp_marks Try.func10 rfl hf ?_ hro
  simp only [Try.ntmps10, List.size_toArray, List.length_cons, List.length_nil, Nat.reduceAdd, Nat.reduceSub, Array.replicate_succ, Array.replicate_zero, List.push_toArray, List.append_toArray, List.nil_append, List.cons_append]
  gi_wp2_with (gi_at_call 33; refine (way_in F (n - 1) hf1 hro _ _ _).mono ?_; rintro e w' ⟨rfl, rfl⟩)
  have hL0 : Boxed (((w.alloc (.cells #[.int .i64 (-1)] 3)).alloc (.cells #[.int .u64 h] 22)).alloc (.cells #[.int .i64 b] 3)) w.heap.size 3 (.int .i64 (-1)) := ((Boxed.new w _ _).alloc _).alloc _
  have hH0 := (Boxed.new (w.alloc (.cells #[.int .i64 (-1)] 3)) 22 (.int .u64 h)).alloc (.cells #[.int .i64 b] 3)
  have hB0 := Boxed.new ((w.alloc (.cells #[.int .i64 (-1)] 3)).alloc (.cells #[.int .u64 h] 22)) 3 (.int .i64 b)
  have hBel : Below w.heap.size w (((w.alloc (.cells #[.int .i64 (-1)] 3)).alloc (.cells #[.int .u64 h] 22)).alloc (.cells #[.int .i64 b] 3)) := (((Below.refl _ w).alloc (Nat.le_refl _) _).alloc (by simp) _).alloc (by simp; omega) _
  obtain ⟨W0, hW0⟩ : ∃ W0, ((w.alloc (.cells #[.int .i64 (-1)] 3)).alloc (.cells #[.int .u64 h] 22)).alloc (.cells #[.int .i64 b] 3) = W0 := ⟨_, rfl⟩
  have hsz : w.heap.size + 3 ≤ W0.heap.size := by rw [← hW0]; simp
  rw [hW0] at hL0 hH0 hB0 hBel
  rw [World.size_alloc] at hH0
  rw [World.size_alloc, World.size_alloc] at hB0
  simp only [hW0]
  clear hW0
  refine range_stmt hro hn1 (gf := 47) (lb := #[.pointer (some ⟨w.heap.size + 1 + 1, 0, none⟩), .pointer (some ⟨w.heap.size + 1, 0, none⟩)]) rfl hf2 (enters_of Try.func47 (by kernel_rfl) rfl)
    (fun W => Boxed W w.heap.size 3 (.int .i64 (jumpV h b)) ∧ W.heap[W0.heap.size]? = some (.deferred (some [])) ∧ Below w.heap.size w W) (fun _ _ => False) ?call ?done (fun _ _ _ hx => hx.elim)
  case call =>
    intro fn hfn
    refine (way1_in F (n - 1) hf2 hro (by omega) (W0.heap.size + 1) (w.heap.size + 1) (w.heap.size + 2) (by omega) h b h0 h1 hb0 hb1
      (fun pre W => W.heap[W0.heap.size + 1]? = some (.loop (lrec fn _ _ _ _ W0.heap.size)) ∧ W.heap[W0.heap.size]? = some (.deferred (some [])) ∧ Boxed W w.heap.size 3 (.int .i64 (lastI pre)) ∧ Below w.heap.size w W) (fun _ _ => False) ?hJ ?hY _ ⟨boxed_laid hH0 _, boxed_laid hB0 _⟩ ⟨laidLoop_rec _ _, laidLoop_def _ _, boxed_laid hL0 _, hBel.trans ((laidLoop_below _ _).mono (by omega))⟩).mono ?_
    case hJ =>
      rintro pre W v ⟨j1, j2, j3, j4⟩
      exact ⟨heap_setCell_ne j1 (by show _ ≠ w.heap.size + 1; omega), heap_setCell_ne j2 (by show _ ≠ w.heap.size + 1; omega), j3.other (by omega) _, j4.setCell (p := ⟨w.heap.size + 1, 0, none⟩) (by simp) _⟩
    case hY =>
      rintro pre x W h' ⟨j1, j2, j3, j4⟩ hBx hpre
      refine (yield_round (a₁ := { tmps := #[.int .u64 h, .int .i64 b, undef, undef, .int .i64 0, .pointer (some ⟨w.heap.size, 0, none⟩), .int .i64 x, .int .u64 h, .int .i64 b, .func (.func 47) #[] #[.pointer (some ⟨w.heap.size + 1 + 1, 0, none⟩), .pointer (some ⟨w.heap.size + 1, 0, none⟩)], .int .i64 x, undef, undef], defers := [] })
        (G := fun V => V.heap[W0.heap.size]? = some (.deferred (some [])) ∧ Boxed V w.heap.size 3 (.int .i64 x) ∧ Below w.heap.size w V ∧ Boxes (w.heap.size + 1) (w.heap.size + 2) h' b V) (X := fun _ _ => False) hfn j1 rfl ?_ ?_).mono ?_
      · intro K hK
        gi_wp2
        exact hK
      · intro W1 o hW1 hl1
        have b1 : Boxed W1 w.heap.size 3 (.int .i64 (lastI pre)) := by rw [hW1]; exact boxed_put j3 (by omega)
        have b2 : W1.heap[W0.heap.size]? = some (.deferred (some [])) := by rw [hW1]; exact heap_putObj_ne j2 (by omega)
        have b3 : Boxes (w.heap.size + 1) (w.heap.size + 2) h' b W1 := by rw [hW1]; exact ⟨boxed_put hBx.1 (by omega), boxed_put hBx.2 (by omega)⟩
        have b4 : Below w.heap.size w W1 := by rw [hW1]; exact below_putObj j4 j1 (by omega) (Nat.le_refl _)
        have c1 := b1.cell
        have c2 := b1.frozen
        clear hW1
        gi_wp2
        refine ⟨heap_setCell_ne hl1 (by show _ ≠ w.heap.size; omega), heap_setCell_ne b2 (by show _ ≠ w.heap.size; omega), b1.set _, b4.setCell (p := ⟨w.heap.size, 0, none⟩) (Nat.le_refl _) _, b3.1.other (by omega) _, b3.2.other (by omega) _⟩
      · rintro e W' (⟨rfl, V, ⟨g1, g2, g3, g4⟩, ⟨r, hr⟩, rfl⟩ | ⟨rfl, c, V, hx, _⟩)
        · refine .inl ⟨rfl, ⟨World.putObj_heap_same (Array.getElem?_eq_some_iff.1 hr).1, heap_putObj_ne g1 (by omega), ?_, below_putObj g3 hr (by omega) (Nat.le_refl _)⟩, boxed_put g4.1 (by omega), boxed_put g4.2 (by omega)⟩
          rw [lastI_snoc]; exact boxed_put g2 (by omega)
        · exact hx.elim
    · rintro e W ⟨hv, ⟨j1, j2, j3, j4⟩ | ⟨_, _, hx⟩⟩
      · exact ⟨hv, .inl ⟨j1, j3, j2, j4⟩⟩
      · exact hx.elim
  case done =>
    rintro W o ⟨d1, d2, d3⟩ ⟨r, hr⟩
    have e1 : Boxed (W.putObj (W0.heap.size + 1) o) w.heap.size 3 (.int .i64 (jumpV h b)) := boxed_put d1 (by omega)
    have e2 : (W.putObj (W0.heap.size + 1) o).heap[W0.heap.size]? = some (.deferred (some [])) := heap_putObj_ne d2 (by omega)
    have e3 : Below w.heap.size w (W.putObj (W0.heap.size + 1) o) := below_putObj d3 hr (by omega) (Nat.le_refl _)
    generalize W.putObj (W0.heap.size + 1) o = W1 at e1 e2 e3 ⊢
    have c1 := e1.cell
    clear d1 d2 d3 hr
    gi_wp2
    refine ⟨by simp, .inl ⟨_, _, rfl, run_takeDeferred e2, ?_⟩⟩
    exact ⟨_, results_tmp rfl _ _ _, rfl, below_putObj e3 e2 (by omega) (Nat.le_refl _)⟩

end Go.Proofs.Ytchmknacofaepaa.JW
