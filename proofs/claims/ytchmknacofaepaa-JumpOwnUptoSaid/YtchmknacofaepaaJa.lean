import Derived.Test.YtchmknacofaepaaJj
import Derived.RangeFuncBox
import Derived.Laws.OwnMore
namespace Go.Proofs.Ytchmknacofaepaa.JW
open Go.RowKit Go.Shelf Go.Proofs.Ytchmknacofaepaa.JF Go.Proofs.Ytchmknacofaepaa.RF
attribute [local go_sem] Oper.semAt_some

theorem infoInt : (Try.prog.info? 3).map (fun i => (i.zero, i.size, i.bytes)) = some (some (.int .i64 0), 1, 8) := by kernel_rfl

set_option maxRecDepth 100000 in
set_option maxHeartbeats 2000000 in
theorem appendSeq_in (F : Fence) (n : Nat) (hf : F.fn 48) (hf2 : F.fn 47) (hro : F.round = none) (hn : 3 ≤ n) (hb bb n₀ : Nat) (h b : Int) (h0 : 0 ≤ h) (h1 : h ≤ 18446744073709551615) (hb0 : -9223372036854775808 ≤ b) (hb1 : b ≤ 9223372036854775807) (w : World)
    (hlt : hb < w.heap.size) (blt : bb < w.heap.size) (hn₀ : n₀ ≤ hb) (hne : hb ≠ bb) (hBx : Boxes hb bb h b w) :
    CallsIn F n Try.prog 48 #[.slice none 0 0, .func (.func 47) #[] #[.pointer (some ⟨bb, 0, none⟩), .pointer (some ⟨hb, 0, none⟩)]] w fun e w' =>
      ∃ v, e = .returned v ∧ w'.ownsRow w.heap.size 3 1 v (wayV h b).length ((wayV h b).map (Value.int .i64)) ∧ Below n₀ w w' := by
  have hn1 : 1 ≤ n := by omega
  obtain ⟨i0, hi, hz0, hz1, hz2⟩ := info_parts infoInt
  refine callsIn_of_wp_marks Try.func48 rfl hf ?_ hro
  simp only [Try.ntmps48, List.size_toArray, List.length_cons, List.length_nil, Nat.reduceAdd, Nat.reduceSub, Array.replicate_succ, Array.replicate_zero, List.push_toArray, List.append_toArray, List.nil_append, List.cons_append]
  gi_wp2
  have hS0 := Boxed.new w 25 (.slice none 0 0)
  have hB0 : Boxes hb bb h b (w.alloc (.cells #[.slice none 0 0] 25)) := ⟨hBx.1.alloc _, hBx.2.alloc _⟩
  have hBel : Below n₀ w (w.alloc (.cells #[.slice none 0 0] 25)) := (Below.refl _ w).alloc (by omega) _
  obtain ⟨W0, hW0⟩ : ∃ W0, w.alloc (.cells #[.slice none 0 0] 25) = W0 := ⟨_, rfl⟩
  have hsz : w.heap.size + 1 ≤ W0.heap.size := by rw [← hW0]; simp
  rw [hW0] at hS0 hB0 hBel
  simp only [hW0]
  clear hW0
  refine range_stmt hro hn1 (gf := 47) (lb := #[.pointer (some ⟨bb, 0, none⟩), .pointer (some ⟨hb, 0, none⟩)]) rfl hf2 (enters_of Try.func47 (by kernel_rfl) rfl)
    (fun W => ∃ v, Boxed W w.heap.size 25 v ∧ W.ownsRow w.heap.size 3 1 v (wayV h b).length ((wayV h b).map (Value.int .i64)) ∧ W.heap[W0.heap.size]? = some (.deferred (some [])) ∧ Below n₀ w W) (fun _ _ => False) ?call ?done (fun _ _ _ hx => hx.elim)
  case call =>
    intro fn hfn
    refine (way1_in F (n - 1) hf2 hro (by omega) (W0.heap.size + 1) hb bb hne h b h0 h1 hb0 hb1
      (fun pre W => W.heap[W0.heap.size + 1]? = some (.loop (lrec fn _ _ _ _ W0.heap.size)) ∧ W.heap[W0.heap.size]? = some (.deferred (some [])) ∧ (∃ v, Boxed W w.heap.size 25 v ∧ W.ownsRow w.heap.size 3 1 v pre.length (pre.map (Value.int .i64))) ∧ Below n₀ w W) (fun _ _ => False) ?hJ ?hY _ ⟨boxed_laid hB0.1 _, boxed_laid hB0.2 _⟩
      ⟨laidLoop_rec _ _, laidLoop_def _ _, ⟨_, boxed_laid hS0 _, World.ownsRow_nil _ _ _ _⟩, hBel.trans ((laidLoop_below _ _).mono (by omega))⟩).mono ?_
    case hJ =>
      rintro pre W v ⟨j1, j2, ⟨v', j3, j3'⟩, j4⟩
      refine ⟨heap_setCell_ne j1 (by show _ ≠ hb; omega), heap_setCell_ne j2 (by show _ ≠ hb; omega), ⟨v', j3.other (by omega) _, j3'.kept (grownBy_setCell' W hb v) (.inr fun e => ?_)⟩, j4.setCell (p := ⟨hb, 0, none⟩) hn₀ _⟩
      have := (j3'.lt hb e).1
      omega
    case hY =>
      rintro pre x W h' ⟨j1, j2, ⟨v', j3, j3'⟩, j4⟩ hBx' hpre
      refine (yield_round (a₁ := { tmps := #[.slice none 0 0, .func (.func 47) #[] #[.pointer (some ⟨bb, 0, none⟩), .pointer (some ⟨hb, 0, none⟩)], .pointer (some ⟨w.heap.size, 0, none⟩), undef, .slice none 0 0, .int .i64 x, .func (.func 47) #[] #[.pointer (some ⟨bb, 0, none⟩), .pointer (some ⟨hb, 0, none⟩)], .int .i64 x, undef, undef, undef, undef, undef], defers := [] })
        (G := fun V => V.heap[W0.heap.size]? = some (.deferred (some [])) ∧ (∃ v, Boxed V w.heap.size 25 v ∧ V.ownsRow w.heap.size 3 1 v (pre ++ [x]).length ((pre ++ [x]).map (Value.int .i64))) ∧ Below n₀ w V ∧ Boxes hb bb h' b V) (X := fun _ _ => False) hfn j1 rfl ?_ ?_).mono ?_
      · intro K hK
        gi_wp2
        exact hK
      · intro W1 o hW1 hl1
        have b1 : Boxed W1 w.heap.size 25 v' := by rw [hW1]; exact boxed_put j3 (by omega)
        have b1' : W1.ownsRow w.heap.size 3 1 v' pre.length (pre.map (Value.int .i64)) := by rw [hW1]; exact ownsRow_putObj j3' _ j1 rfl
        have b2 : W1.heap[W0.heap.size]? = some (.deferred (some [])) := by rw [hW1]; exact heap_putObj_ne j2 (by omega)
        have b3 : Boxes hb bb h' b W1 := by rw [hW1]; exact ⟨boxed_put hBx'.1 (by omega), boxed_put hBx'.2 (by omega)⟩
        have b4 : Below n₀ w W1 := by rw [hW1]; exact below_putObj j4 j1 (by omega) (by omega)
        have hlen : pre.length + 1 ≤ 1048576 := by
          have h2 := hpre.length_le
          have h3 := wayV_length h b
          simp only [List.length_append, List.length_cons, List.length_nil] at h2
          omega
        have hwsz : w.heap.size ≤ W1.heap.size := b4.size
        have c1 := b1.cell
        clear hW1 j1 j2 j3 j3' j4 hBx' hpre
        gi_wp2_with (gi_at_builtin; refine wpListIn_append_own _ rfl _ _ 25 rfl w.heap.size 3 i0 (.int .i64 0) 1 8 Try.underlying25 hi hz0 hz1 hz2 rfl (by decide) _ _ _ rfl (b1'.alloc _) ⟨W1.heap.size, 0, none⟩ 1 1 [.int .i64 x] rfl rfl (cell_one_new _ _ _) (by simp [Value.oneCell']) (by unfold maxLen; omega) (by omega) (by simp; omega) ?_; intro v2 w2 hown' hgrow _; obtain ⟨g', cap', rfl⟩ := ownsRow_succ hown'; obtain ⟨hv1, hv2, hr2, hk2, hb2⟩ := b1.appended (n₀ := w.heap.size) (by decide) b1' hwsz (Nat.le_refl _) hown' hgrow; have hc1 := hv1.cell; have hf1 := hv1.frozen)
        have u1 := hk2.same _ _ hl1 rfl
        have u2 := hk2.same _ _ b2 rfl
        exact ⟨u1, u2, ⟨_, hv2, by simpa using hr2⟩, b4.trans (hb2.mono (by omega)), (hb2.block hb hlt).trans b3.1, (hb2.block bb blt).trans b3.2⟩
      · rintro e W' (⟨rfl, V, ⟨g1, ⟨v2, g2, g2'⟩, g3, g4⟩, ⟨r, hr⟩, rfl⟩ | ⟨rfl, c, V, hx, _⟩)
        · exact .inl ⟨rfl, ⟨World.putObj_heap_same (Array.getElem?_eq_some_iff.1 hr).1, heap_putObj_ne g1 (by omega), ⟨v2, boxed_put g2 (by omega), ownsRow_putObj g2' _ hr rfl⟩, below_putObj g3 hr (by omega) (by omega)⟩, boxed_put g4.1 (by omega), boxed_put g4.2 (by omega)⟩
        · exact hx.elim
    · rintro e W ⟨hv, ⟨j1, j2, ⟨v', j3, j3'⟩, j4⟩ | ⟨_, _, hx⟩⟩
      · exact ⟨hv, .inl ⟨j1, v', j3, j3', j2, j4⟩⟩
      · exact hx.elim
  case done =>
    rintro W o ⟨v', d1, d1', d2, d3⟩ ⟨r, hr⟩
    have e1 : Boxed (W.putObj (W0.heap.size + 1) o) w.heap.size 25 v' := boxed_put d1 (by omega)
    have e1' := ownsRow_putObj d1' o hr rfl
    have e2 : (W.putObj (W0.heap.size + 1) o).heap[W0.heap.size]? = some (.deferred (some [])) := heap_putObj_ne d2 (by omega)
    have e3 : Below n₀ w (W.putObj (W0.heap.size + 1) o) := below_putObj d3 hr (by omega) (by omega)
    generalize W.putObj (W0.heap.size + 1) o = W1 at e1 e1' e2 e3 ⊢
    have c1 := e1.cell
    clear d1 d2 d3 hr
    gi_wp2
    refine ⟨by simp, .inl ⟨_, _, rfl, run_takeDeferred e2, ?_⟩⟩
    exact ⟨_, results_tmp rfl _ _ _, _, rfl, ownsRow_putObj e1' _ e2 rfl, below_putObj e3 e2 (by omega) (by omega)⟩

set_option maxRecDepth 100000 in
set_option maxHeartbeats 1000000 in
theorem collect_in (F : Fence) (n : Nat) (hf : F.fn 34) (hf1 : F.fn 48) (hf2 : F.fn 47) (hro : F.round = none) (hn : 4 ≤ n) (hb bb n₀ : Nat) (h b : Int) (h0 : 0 ≤ h) (h1 : h ≤ 18446744073709551615) (hb0 : -9223372036854775808 ≤ b) (hb1 : b ≤ 9223372036854775807) (w : World)
    (hlt : hb < w.heap.size) (blt : bb < w.heap.size) (hn₀ : n₀ ≤ hb) (hne : hb ≠ bb) (hBx : Boxes hb bb h b w) :
    CallsIn F n Try.prog 34 #[.func (.func 47) #[] #[.pointer (some ⟨bb, 0, none⟩), .pointer (some ⟨hb, 0, none⟩)]] w fun e w' =>
      ∃ v, e = .returned v ∧ w'.ownsRow w.heap.size 3 1 v (wayV h b).length ((wayV h b).map (Value.int .i64)) ∧ Below n₀ w w' := by
  have hn1 : 1 ≤ n := by omega
  refine callsIn_of_wp Try.func34 rfl hf ?_ hro
  simp only [Try.ntmps34, List.size_toArray, List.length_cons, List.length_nil, Nat.reduceAdd, Nat.reduceSub, Array.replicate_succ, Array.replicate_zero, List.push_toArray, List.append_toArray, List.nil_append, List.cons_append]
  gi_wp2_with (gi_at_call 48; refine (appendSeq_in F (n - 1) hf1 hf2 hro (by omega) hb bb n₀ h b h0 h1 hb0 hb1 _ hlt blt hn₀ hne hBx).mono ?_; rintro e w' ⟨v, rfl, hown, hbel⟩)
  go_ret
  exact ⟨v, rfl, hown, hbel⟩

set_option maxRecDepth 100000 in
set_option maxHeartbeats 1000000 in
theorem Way_in (F : Fence) (n : Nat) (hf : F.fn 13) (hfw : F.fn 33) (hf0 : F.fn 34) (hf1 : F.fn 48) (hf2 : F.fn 47) (hro : F.round = none) (hn : 5 ≤ n) (h b : Int) (h0 : 0 ≤ h) (h1 : h ≤ 18446744073709551615) (hb0 : -9223372036854775808 ≤ b) (hb1 : b ≤ 9223372036854775807) (w : World) :
    CallsIn F n Try.prog 13 #[.int .u64 h, .int .i64 b] w fun e w' =>
      ∃ v, e = .returned v ∧ w'.ownsRow w.heap.size 3 1 v (wayV h b).length ((wayV h b).map (Value.int .i64)) ∧ Below w.heap.size w w' := by
  have hn1 : 1 ≤ n := by omega
  refine callsIn_of_wp Try.func13 rfl hf ?_ hro
  simp only [Try.ntmps13, List.size_toArray, List.length_cons, List.length_nil, Nat.reduceAdd, Nat.reduceSub, Array.replicate_succ, Array.replicate_zero, List.push_toArray, List.append_toArray, List.nil_append, List.cons_append]
  have hH0 := (Boxed.new w 22 (.int .u64 h)).alloc (.cells #[.int .i64 b] 3)
  have hB0 := Boxed.new (w.alloc (.cells #[.int .u64 h] 22)) 3 (.int .i64 b)
  rw [World.size_alloc] at hB0
  have hBx : Boxes w.heap.size (w.heap.size + 1) h b ((w.alloc (.cells #[.int .u64 h] 22)).alloc (.cells #[.int .i64 b] 3)) := ⟨hH0, hB0⟩
  have hBel : Below w.heap.size w ((w.alloc (.cells #[.int .u64 h] 22)).alloc (.cells #[.int .i64 b] 3)) := ((Below.refl _ w).alloc (Nat.le_refl _) _).alloc (by simp) _
  clear hH0 hB0
  gi_wp2_with (first | (gi_at_call 33; refine (way_in F (n - 1) hfw hro _ _ _).mono ?_; rintro e w' ⟨rfl, rfl⟩) | (gi_at_call 34; refine (collect_in F (n - 1) hf0 hf1 hf2 hro (by omega) w.heap.size (w.heap.size + 1) w.heap.size h b h0 h1 hb0 hb1 _ (by simp; omega) (by simp) (Nat.le_refl _) (by omega) hBx).mono ?_; rintro e w' ⟨v, rfl, hown, hbel⟩))
  go_ret
  refine ⟨v, rfl, ?_, hBel.trans hbel⟩
  obtain ⟨o1, o2⟩ := hown
  refine ⟨o1, ?_⟩
  rcases o2 with o2 | ⟨g, cap, cur, e, hg, r⟩
  · exact .inl o2
  · exact .inr ⟨g, cap, cur, e, by simp at hg; omega, r⟩

end Go.Proofs.Ytchmknacofaepaa.JW
