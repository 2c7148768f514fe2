import Derived.Test.YtohljkjaggcapaaRt
namespace Go.Proofs.Ytohljkjaggcapaa.RT
open Go.RowKit Go.Proofs.YtohljkjaggcapaaW.PrintWords Go.Proofs.YtohljkjaggcapaaW.PrintLast Go.Proofs.Ytohljkjaggcapaa.PJ Go.Proofs.Ytohljkjaggcapaa.JF Go.Proofs.Ytohljkjaggcapaa.JQ Go.Proofs.Ytohljkjaggcapaa.MV
set_option linter.unusedVariables false
set_option linter.unusedSimpArgs false
variable {w : World} {F : Nat → Prop} {b n : Nat} {S : RS} {m1 m2 : Nat} {T : Int → Option Value}

theorem ints_ev (l : List Int) (hl : l.length ≤ 9223372036854775807) : Ev (fun k => haulagelaw23_ints.f k l l) true := by
  have loop : ∀ (d : Nat) (i : Int), 0 ≤ i → (l.length : Int) - i ≤ d → Ev (fun k => haulagelaw23_ints.l0 k l l i) true := by
    intro d
    induction d with
    | zero =>
      intro i i0 hd
      refine ⟨1, fun k hk => ?_⟩
      obtain ⟨k, rfl⟩ := succ_of (show 0 < k by omega)
      simp only [haulagelaw23_ints.l0]
      rw [if_neg (by omega)]
    | succ d ih =>
      intro i i0 hd
      by_cases c : i < (l.length : Int)
      · refine Ev.step (f := fun k => haulagelaw23_ints.l0 k l l (i + 1)) (fun k => ?_) (ih (i + 1) (by omega) (by omega))
        simp only [haulagelaw23_ints.l0]
        rw [if_pos c, if_pos i0, if_pos c, if_pos trivial, w64_id (by omega) (by omega)]
      · refine ⟨1, fun k hk => ?_⟩
        obtain ⟨k, rfl⟩ := succ_of (show 0 < k by omega)
        simp only [haulagelaw23_ints.l0]
        rw [if_neg c]
  unfold haulagelaw23_ints.f
  simp only [if_true]
  exact loop l.length 0 (by omega) (by omega)

theorem ints_c {A B : Option Addr} {c d : Nat} {xs : List Int} (h1 : Kd.C (Kd.int .i64) w A xs.length xs) (c1 : xs.length ≤ c) (h2 : Kd.C (Kd.int .i64) w B xs.length xs) (c2 : xs.length ≤ d) (hl : xs.length ≤ 140737488355000) :
    Calls Try.prog 15 #[.slice A xs.length c, .slice B xs.length d] w fun e w' => e = .returned (.bool true) ∧ Drawn0 w w' := by
  obtain ⟨K, hK⟩ := ints_ev xs (by omega)
  exact haulagelaw23_ints.calls K A c xs B d xs _ w h1 c1 h2 c2 (hK K (Nat.le_refl _))

theorem num_c (a : Int) (w : World) : Calls Try.prog 11 #[.int .i64 a] w fun e w' => e = .returned (.int .i64 a) ∧ Drawn0 w w' := haulagelaw23_num.calls a a w rfl

theorem lit1_c (w : World) (y : Int) : Kd.C (Kd.int .i64) (w.alloc (.cells #[.int .i64 y] 3 (0, 0))) (some ⟨w.heap.size, 0, none⟩) [y].length [y] :=
  Kd.C_of_reads (d := (0 : Int)) (h1 := fun _ => rfl) ⟨rfl, by simp [maxLen], fun _ => ⟨_, rfl, fun j hj => by
    have j0 : j = 0 := by simpa using hj
    subst j0
    rw [Addr.add_lit, cells_at (MapKept.heap_alloc w (.cells #[.int .i64 y] 3 (0, 0))).1]; rfl⟩⟩

theorem Rep.mono (h : Rep w F b n S m1 m2 T) {F' : Nat → Prop} (hF : ∀ k, F k → F' k) : Rep w F' b n S m1 m2 T :=
  ⟨h.blk, hF _ h.fb, hF _ h.f1, hF _ h.f2, h.ne, h.vm1, h.vm2, fun k => (h.row k).kept hF (fun _ _ => rfl), h.apart, h.s0, h.s1, h.h0, h.h1, h.short, h.whwf⟩

theorem below_turn {B : Nat} {w1 w2 : World} (h : Below B w w1) (t : Turn F w1 w2) (hF : ∀ k, F k → B ≤ k) (hB : B ≤ w.heap.size) : Below B w w2 :=
  ⟨t.os.trans h.os, t.tape.trans h.tape, t.output.trans h.output, Nat.le_trans h.size t.size, fun k hk => (t.block k (by have := h.size; omega) (fun f => by have := hF k f; omega)).trans (h.block k hk)⟩
theorem Turn.any {F : Nat → Prop} {w w' : World} (h : Below w.heap.size w w') : Turn F w w' := Turn.of_below h

def K1 : RS := (RS.new 3 2).fine 0 2
def K2 : RS := K1.hints1.hint 0 1
theorem k1_is : (RS.new 3 2).is 0 2 = true := by decide
theorem k2_is : K1.is 0 2 = true := by decide
theorem k2_at : K1.where_ 0 = 2 := by decide
theorem k3_is : K1.hints1.is 0 1 = true := by decide
theorem k3_at : K1.hints1.where_ 0 ≠ 1 := by decide
theorem k4_at : K2.where_ 0 = 1 := by decide
theorem k4_tr : K2.tr 0 = [2] := by decide

set_option maxRecDepth 100000 in
set_option maxHeartbeats 2000000 in
theorem known_walk (S0 S3 S4 S5 : RS) (h0 : RS.new 3 2 = S0) (h0is : S0.is 0 2 = true) (h3 : S0.fine 0 2 = S3) (h3is : S3.is 0 2 = true) (h3at : S3.where_ 0 = 2) (h4 : S3.hints1 = S4) (h4is : S4.is 0 1 = true) (h4at : S4.where_ 0 ≠ 1) (h5 : S4.hint 0 1 = S5) (h5at : S5.where_ 0 = 1) (h5tr : S5.tr 0 = [2]) (w : World) :
    Calls Try.prog 9 #[] w fun e w' => e = .returned (.bool true) ∧ Below w.heap.size w w' := by
  have wf0 : (Lit.int .i64 0).wf = true := by decide
  have H0 := Lib.hid h0
  have H3 := Lib.hid h3
  have H4 := Lib.hid h4
  have H5 := Lib.hid h5
  have HA := Lib.hid h5at
  have HT := Lib.hid h5tr
  clear h0 h3 h4 h5 h5at h5tr
  go_enter Try.func9, Try.ntmps9
  go_wp2_with (go_at_call 10; refine (new_good 3 2 (by decide) (by decide) (by decide) (by decide) _).mono ?_; rintro e w1 ⟨b, m1, m2, rfl, R1, B1⟩; rw [H0.out] at R1)
  have R1' := Lib.hid R1
  clear R1
  go_wp2_with (go_at_call 11; refine (num_c _ _).mono ?_; rintro e w2 ⟨rfl, D2⟩)
  have R2 := Lib.hid (R1'.out.drawn D2.below.block)
  go_wp2_with (go_at_call 12; refine (fine_yes R2.out 0 2 wf0 h0is (by omega)).mono ?_; rintro e w3 ⟨rfl, R3, T3⟩; rw [H3.out] at R3)
  have R3' := Lib.hid R3
  clear R3
  go_wp2_with (fail)
  refine (hint_same R3'.out 0 2 wf0 h3is h3at).mono ?_
  rintro e w4 ⟨rfl, R4, T4⟩
  rw [H4.out] at R4
  have R4' := Lib.hid R4
  clear R4
  go_wp2_with (fail)
  refine (hint_yes R4'.out 0 1 wf0 h4is h4at (by omega)).mono ?_
  rintro e w5 ⟨rfl, ⟨T5, R5⟩, Tu5⟩
  rw [H5.out] at R5
  have R5' := Lib.hid R5
  clear R5
  go_wp2_with (fail)
  refine (where_calls R5'.out 0 wf0).mono ?_
  rintro e w6 ⟨rfl, B6⟩
  rw [HA.out]
  have R6 := Lib.hid (R5'.out.drawn B6.block)
  go_wp2_with (fail)
  have TRW : Calls Try.prog 16 #[.pointer (some ⟨b, 0, none⟩), .int .i64 0] w6 fun e w' => ∃ A' c', e = .returned (.slice A' [(2 : Int)].length c') ∧ Kd.R (Kd.int .i64) 3 w' w6.heap.size (fun _ => True) (.slice A' [(2 : Int)].length c') [2] ∧ Below w6.heap.size w6 w' := by
    have q := trail_calls R6.out 0 wf0
    rw [HT.out] at q; exact q
  refine TRW.mono ?_
  rintro e w7 ⟨A7, c7, rfl, R7, B7⟩
  clear TRW
  go_wp2_with (fail)
  have hal := Lib.hid (World.grownBy_alloc w7 (.cells #[.int .i64 2] 3 (0, 0)) none)
  refine (ints_c (xs := [(2 : Int)]) (Kd.C_below (Kd.R_reads' R7).2.2 ⟨hal.out.os, hal.out.tape, hal.out.output, hal.out.size, fun k hk => hal.out.block k hk (by simp)⟩) (Kd.R_reads' R7).2.1 (lit1_c w7 2) (by simp) (by simp)).mono ?_
  rintro e w8 ⟨rfl, D8⟩
  go_wp2_with (fail)
  go_ret
  refine ⟨rfl, ?_⟩
  have f : ∀ k, (fun k => w.heap.size ≤ k) k → w.heap.size ≤ k := fun k h => h
  have x2 := below_step B1 D2.below
  have x3 := below_turn x2 T3 f (Nat.le_refl _)
  have x4 := below_turn x3 T4 f (Nat.le_refl _)
  have x5 := below_turn x4 Tu5 f (Nat.le_refl _)
  have x7 := below_step (below_step x5 B6) B7
  exact below_step (x7.alloc x7.size _) D8.below

theorem known_calls (w : World) : Calls Try.prog 9 #[] w fun e w' => e = .returned (.bool true) ∧ Below w.heap.size w w' :=
  known_walk _ _ _ _ rfl k1_is rfl k2_is k2_at rfl k3_is k3_at rfl k4_at k4_tr w

end Go.Proofs.Ytohljkjaggcapaa.RT
