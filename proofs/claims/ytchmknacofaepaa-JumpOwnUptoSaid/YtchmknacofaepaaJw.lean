import Derived.Test.YtchmknacofaepaaRf
import Derived.Test.YtchmknacofaepaaJv
import Derived.Laws.FloatArith
import Derived.RangeFuncBound
import Derived.RangeFuncCalls
import Derived.Shelf.Abstract
import Derived.Shelf.RegionOpen
import Derived.WalkKit
import Derived.OwnWalkIn
import Derived.TacticsInMore
import Derived.LoopNIn
import Derived.LoopIn
import Derived.Maps.AppendAt
import Derived.Outline
import Derived.Lib.Hide
import Derived.KernelRfl
import Derived.Test.YtchmknacofaepaaProg
namespace Go.Proofs.Ytchmknacofaepaa.JW
open Go.RowKit Go.Shelf Go.Proofs.Ytchmknacofaepaa.JF Go.Proofs.Ytchmknacofaepaa.RF
attribute [local go_sem] Oper.semAt_some

set_option maxHeartbeats 1000000 in
/-- 'way': both parameters are boxed; the function value captures the boxes. -/
theorem way_in (F : Fence) (n : Nat) (hf : F.fn 33) (hro : F.round = none) (h b : Int) (w : World) :
    CallsIn F n Try.prog 33 #[.int .u64 h, .int .i64 b] w fun e w' =>
      e = .returned (.func (.func 47) #[] #[.pointer (some ⟨w.heap.size + 1, 0, none⟩), .pointer (some ⟨w.heap.size, 0, none⟩)]) ∧
      w' = (w.alloc (.cells #[.int .u64 h] 22)).alloc (.cells #[.int .i64 b] 3) := by
  refine callsIn_of_wp Try.func33 rfl hf ?_ hro
  simp only [Try.ntmps33, List.size_toArray, List.length_cons, List.length_nil, Nat.reduceAdd, Nat.reduceSub, Array.replicate_succ, Array.replicate_zero, List.push_toArray, List.append_toArray, List.nil_append, List.cons_append]
  gi_wp2
  go_ret
  exact ⟨rfl, by simp⟩

/-- All that the walk wants of a leap, under names. -/
theorem leap_at {h a : Int} (a0 : 0 ≤ a) (a1 : a < 1048576) :
    ∃ (h2 d : Int) (r p : Nat) (a2 : Int), IntKind.u64.wrap (IntKind.u64.wrap (h * 2862933555777941757) + 1) = h2 ∧ IntKind.u64.wrap (h2 / 8589934592 + 1) = d ∧
      floatBits .quo .f64 4746794007248502784 (floatOfInt .f64 d) = some r ∧ floatBits .mul .f64 (floatOfInt .f64 (a + 1)) r = some p ∧ floatToIntVal .f64 p .i64 = some a2 ∧
      (nh h = h2 ∧ na h2 a = a2) ∧ (0 ≤ h2 ∧ h2 ≤ 18446744073709551615) ∧ a + 1 ≤ a2 ∧ a2 ≤ 9007199254740992 := by
  obtain ⟨n0, n1⟩ := nh_bd h
  obtain ⟨r, p, k1, k2, k3⟩ := leap_words n0 n1 a0 a1
  obtain ⟨b0, b1⟩ := na_bd n0 n1 a0 a1
  refine ⟨nh h, dv (nh h), r, p, na (nh h) a, rfl, ?_, k1, k2, k3, ⟨rfl, rfl⟩, ⟨n0, n1⟩, b0, b1⟩
  rw [IntKind.wrap_u64]; unfold dv; omega

/-- The boxes of the hash and of the number of buckets. -/
def Boxes (hb bb : Nat) (h b : Int) (W : World) : Prop :=
  Boxed W hb 22 (.int .u64 h) ∧ Boxed W bb 3 (.int .i64 b)

set_option maxRecDepth 100000 in
set_option maxHeartbeats 2000000 in
/-- 'way''s closure: the way's places one after another, till a round says 'no more'. -/
theorem way1_in (F : Fence) (n : Nat) (hf : F.fn 47) (hro : F.round = none) (hn : 1 ≤ n) (l hb bb : Nat) (hne : hb ≠ bb) (h b : Int) (h0 : 0 ≤ h) (h1 : h ≤ 18446744073709551615) (hb0 : -9223372036854775808 ≤ b) (hb1 : b ≤ 9223372036854775807)
    (J Jx : List Int → World → Prop)
    (hJ : ∀ pre W v, J pre W → J pre (W.setCell ⟨hb, 0, none⟩ v))
    (hY : ∀ pre x W h', J pre W → Boxes hb bb h' b W → pre ++ [x] <+: wayV h b → YieldAt F (n - 1) Try.prog l #[.int .i64 x] W fun e W' =>
      (e = .returned (.bool true) ∧ J (pre ++ [x]) W' ∧ Boxes hb bb h' b W') ∨ (e = .returned (.bool false) ∧ Jx (pre ++ [x]) W'))
    (W : World) (hB : Boxes hb bb h b W) (hJ0 : J [] W) :
    CallsIn F n Try.prog 47 #[.func (.yield l) #[] #[], .pointer (some ⟨bb, 0, none⟩), .pointer (some ⟨hb, 0, none⟩)] W fun e W' => (∃ v, e = .returned v) ∧
      (J (wayV h b) W' ∨ (∃ pre, pre <+: wayV h b ∧ Jx pre W')) := by
  refine callsIn_of_wp Try.func47 rfl hf ?_ hro
  simp only [Try.ntmps47, List.size_toArray, List.length_cons, List.length_nil, Nat.reduceAdd, Nat.reduceSub, Array.replicate_succ, Array.replicate_zero, List.push_toArray, List.append_toArray, List.nil_append, List.cons_append]
  have hbc := hB.2.cell
  by_cases c1 : b < 1
  · have e0 : Hid (wayV h b = []) := Lib.hid (by unfold wayV; rw [if_pos (.inl c1)])
    gi_wp2
    refine bodyPost_ret (results_none rfl _ _ _) rfl ?_
    exact ⟨⟨_, rfl⟩, .inl (by rw [e0.out]; exact hJ0)⟩
  · by_cases c2 : 1048576 < b
    · have e0 : Hid (wayV h b = []) := Lib.hid (by unfold wayV; rw [if_pos (.inr c2)])
      gi_wp2
      refine bodyPost_ret (results_none rfl _ _ _) rfl ?_
      exact ⟨⟨_, rfl⟩, .inl (by rw [e0.out]; exact hJ0)⟩
    · have e0 : Hid (wayV h b = wayL b.toNat h 0 b) := Lib.hid (by unfold wayV; rw [if_neg (by omega)])
      gi_wp2
      gi_loopw [4] (fun v wr => ∃ (pre : List Int) (a h' : Int) (k : Nat), v = .int .i64 a ∧ 0 ≤ a ∧ a ≤ 9007199254740992 ∧ 0 ≤ h' ∧ h' ≤ 18446744073709551615 ∧ b - a ≤ k ∧ wayV h b = pre ++ wayL k h' a b ∧ Boxes hb bb h' b wr ∧ J pre wr)
        (fun v _ => (b - intOf v).toNat)
      case atStart => exact ⟨[], 0, h, b.toNat, rfl, Int.le_refl _, by omega, h0, h1, by omega, by rw [e0.out]; rfl, hB, hJ0⟩
      case round =>
        clear e0 hbc
        obtain ⟨pre, a, h', k, rfl, a0, a1, g0, g1, hk, he, hBx, hJs⟩ := hrel
        have hbc := hBx.2.cell
        by_cases c3 : a < b
        · obtain ⟨k, rfl⟩ : ∃ m, k = m + 1 := ⟨k - 1, by omega⟩
          rw [wayL_step c3] at he
          obtain ⟨fn, tmps, assign, body, hy, hR⟩ := hY pre a wr h' hJs hBx ⟨_, by rw [he, List.append_assoc]; rfl⟩
          have HE : Hid (wayV h b = pre ++ a :: wayL k (nh h') (na (nh h') a) b) := Lib.hid he
          clear he
          gi_wp2
          refine hR.mono ?_
          clear hR hbc
          rintro e W3 (⟨rfl, hJ3, hB3⟩ | ⟨rfl, hJx3⟩)
          · have hc := hB3.1.cell
            have hfz := hB3.1.frozen
            obtain ⟨h2, d, r, p, a2, e1, e2, k1, k2, k3, f1, f2, f3, f4⟩ := leap_at (h := h') a0 (by omega : a < 1048576)
            have q1 : ∀ W, (binOp .quo 69 (.float .f64 4746794007248502784) (.float .f64 (floatOfInt .f64 d))).run Try.prog W = .ok (.float .f64 r) W := fun W => run_float_arith W .quo _ .f64 _ _ _ k1
            have q2 : ∀ W, (binOp .mul 69 (.float .f64 (floatOfInt .f64 (a + 1))) (.float .f64 r)).run Try.prog W = .ok (.float .f64 p) W := fun W => run_float_arith W .mul _ .f64 _ _ _ k2
            have q3 : ∀ W, (convert 69 3 (.float .f64 p)).run Try.prog W = .ok (.int .i64 a2) W := fun W => run_convert_float_int W _ _ .f64 .i64 p a2 (by rw [Try.underlying69]; rfl) Try.underlying3 k3
            have F1 := Lib.hid f1
            have F2 := Lib.hid f2
            clear f1 f2 k1 k2 k3
            gi_wp2
            go_roundw
            case rel =>
              obtain ⟨u1, u2⟩ := F1.out
              have hnb := nh_bd h'
              exact ⟨pre ++ [a], a2, h2, k, rfl, by omega, f4, by omega, by omega, by omega, by rw [HE.out, List.append_assoc, u1, u2]; rfl, ⟨hB3.1.set _, hB3.2.other (Ne.symm hne) _⟩, hJ _ _ _ hJ3⟩
            case measure => simp [intOf]; omega
          · gi_wp2
            refine bodyPost_ret (results_none rfl _ _ _) rfl ?_
            exact ⟨⟨_, rfl⟩, .inr ⟨pre ++ [a], ⟨_, by rw [HE.out, List.append_assoc]; rfl⟩, hJx3⟩⟩
        · rw [wayL_done (by omega), List.append_nil] at he
          have HE : Hid (wayV h b = pre) := Lib.hid he
          clear he
          gi_wp2
          go_end0
          exact ⟨⟨_, rfl⟩, .inl (by rw [HE.out]; exact hJs)⟩

end Go.Proofs.Ytchmknacofaepaa.JW
