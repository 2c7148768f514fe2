import Derived.Test.YtchmknacofaepaaPJx2
import Derived.Test.YtchmknacofaepaaJh
import Derived.Outline
import Derived.Lib.Hide
namespace Go.Proofs.Ytchmknacofaepaa.KJ
open Go.RowKit Go.Proofs.YtchmknacofaepaaW.PrintWords Go.Proofs.YtchmknacofaepaaW.PrintLast Go.Proofs.YtchmknacofaepaaW.PrintMore Go.Proofs.Ytchmknacofaepaa.PJ Go.Proofs.Ytchmknacofaepaa.JF Go.Proofs.Ytchmknacofaepaa.JQ
set_option linter.unusedVariables false
set_option linter.unusedSimpArgs false

/-- A cut behind the length, within the capacity. -/
theorem cut_beyond {P : Program} (t e : TypeId) (kh : IntKind) {i : TypeInfo} (ht : P.underlying t = some (.slice e)) (hi : P.info? e = some i) (A : Option Addr) (n c : Nat) (j : Int) (h0 : 0 ≤ j) (hm : j ≤ c) :
    ∀ W : World, (Instr.slice t (.slice A n c) none (some (.int kh j)) none).run P W = .ok (.slice A j.toNat c) W := by
  intro W
  have hel : P.elem t = e := by simp [Program.elem, ht]
  have hu : P.underlying t = some (.slice (P.elem t)) := by rw [hel]; exact ht
  have ha : (A.map fun x => x.add 0) = A := by cases A <;> simp [Addr.add]
  rw [run_slice_h W t A n c hu kh j h0 (by omega), hel]
  simp [sizeOf, typeInfo, hi, sliced, Result.andThen, ha]

set_option maxHeartbeats 2000000 in
set_option maxRecDepth 100000 in
theorem kept_true (g cap : Nat) (ys : List Int) (A1 : Option Addr) (c1 base : Nat) (ok : Nat → Prop) (w : World) (HO : Kd.R (Kd.int .u8) 5 w base ok (.slice (some ⟨g, 0, none⟩) (ys ++ [201, 202, 203]).length cap) (ys ++ [201, 202, 203]))
    (HR : Kd.C (Kd.int .u8) w A1 ys.length ys) (hlen : ys.length ≤ 140737488355000) :
    Calls Try.prog 20 #[.slice (some ⟨g, 0, none⟩) ys.length cap, .slice A1 ys.length c1] w fun e w' => e = .returned (.bool true) ∧ Drawn0 w w' := by
  have hl : (ys ++ [201, 202, 203]).length = ys.length + 3 := by simp
  have hcap := (Kd.R_reads' HO).2.1
  rw [hl] at hcap
  obtain ⟨i0, hi0, _, _, _⟩ := info_parts info5
  have hcut := cut_beyond (P := Try.prog) 28 5 .i64 Try.underlying28 hi0 (some ⟨g, 0, none⟩) ys.length cap ((ys.length : Int) + 3) (by omega) (by omega)
  have hn3 : ((ys.length : Int) + 3).toNat = ys.length + 3 := by omega
  rw [hn3] at hcut
  have HO' := Lib.hid HO
  have HR' := Lib.hid HR
  have HL := Lib.hid hl
  clear HO HR hl hi0 hn3
  go_enter Try.func20, Try.ntmps20
  go_wp2
  go_loopw [7] (fun v wr => ∃ i : Int, v = .int .i64 i ∧ 0 ≤ i ∧ i ≤ ys.length ∧ Drawn0 w wr) (fun v _ => (ys.length - intOf v).toNat)
  case atStart => exact ⟨0, rfl, by omega, by omega, Drawn0.refl _⟩
  case round =>
    obtain ⟨i, rfl, i0, i1, ⟨m1, rfl⟩⟩ := hrel
    by_cases c : i < (ys.length : Int)
    · obtain ⟨ad, ea, hx⟩ := Kd.at_int HR'.out i i0 c
      cases ea
      obtain ⟨hy, _⟩ := Kd.R_celln (0 : Int) HO'.out i i0 (by rw [HL.out]; omega)
      have hrd : rdOf (0 : Int) (ys ++ [201, 202, 203]) i = rd ys i := by
        unfold rdOf rd; rw [List.getD_eq_getElem?_getD, List.getD_eq_getElem?_getD, List.getElem?_append_left (by omega)]
      rw [hrd] at hy
      have hb0 : ((rd ys i) == (rd ys i)) = true := by simp
      have hb1 : ((rd ys i) != (rd ys i)) = false := by simp
      have cb : decide (i < (ys.length : Int)) = true := decide_eq_true c
      have p0 := eq_true i0
      clear hrd
      go_wp2
      repeat (go_quiet (fail); try go_wp2)
      go_roundw
      case rel => exact ⟨i + 1, rfl, by omega, by omega, by repeat (first | exact Drawn0.refl _ | apply Drawn0.step)⟩
      case measure => simp [intOf]; omega
    · have ei : i = ys.length := by omega
      subst ei
      obtain ⟨h1, _⟩ := Kd.R_celln (0 : Int) HO'.out (ys.length : Int) (by omega) (by rw [HL.out]; omega)
      obtain ⟨h2, _⟩ := Kd.R_celln (0 : Int) HO'.out ((ys.length : Int) + 1) (by omega) (by rw [HL.out]; omega)
      obtain ⟨h3, _⟩ := Kd.R_celln (0 : Int) HO'.out ((ys.length : Int) + 2) (by omega) (by rw [HL.out]; omega)
      have e1 : rdOf (0 : Int) (ys ++ [201, 202, 203]) (ys.length : Int) = 201 := by unfold rdOf; simp
      have e2 : rdOf (0 : Int) (ys ++ [201, 202, 203]) ((ys.length : Int) + 1) = 202 := by unfold rdOf; rw [show ((ys.length : Int) + 1).toNat = ys.length + 1 by omega]; simp
      have e3 : rdOf (0 : Int) (ys ++ [201, 202, 203]) ((ys.length : Int) + 2) = 203 := by unfold rdOf; rw [show ((ys.length : Int) + 2).toNat = ys.length + 2 by omega]; simp
      have t1 : ((ys.length : Int) + 1).toNat = ys.length + 1 := by omega
      have t2 : ((ys.length : Int) + 2).toNat = ys.length + 2 := by omega
      rw [e1, Int.toNat_natCast] at h1
      rw [e2, t1] at h2
      rw [e3, t2] at h3
      clear e1 e2 e3 i0 i1 c
      go_wp2
      repeat (go_quiet (fail); try go_wp2)
      go_ret
      exact ⟨rfl, by repeat (first | exact Drawn0.refl _ | apply Drawn0.step)⟩

/-! ### the callees, under the values that they tell -/
section
variable {A : Option Addr} {c : Nat} {xs : List Int} {w : World}
theorem hash_l {base : Nat} {ok : Nat → Prop} (h : Kd.R (Kd.int .u8) 5 w base ok (.slice A xs.length c) xs) (hl : xs.length ≤ 140737488355000) :
    Calls Try.prog 16 #[.slice A xs.length c] w fun e w' => e = .returned (.int .u64 (fnvV [xs])) ∧ Below w.heap.size w w' := by
  obtain ⟨K, hK⟩ := Hash_ev xs (by omega)
  exact jump_Hash.calls K (fun k => ok k) A c xs _ w (Kd.R_V h) (hK K (Nat.le_refl _))
theorem hash_c (h : Kd.C (Kd.int .u8) w A xs.length xs) (hc : xs.length ≤ c) (hl : xs.length ≤ 140737488355000) :
    Calls Try.prog 17 #[.slice A xs.length c] w fun e w' => e = .returned (.int .u64 (fnvV [xs])) ∧ Below w.heap.size w w' := by
  obtain ⟨K, hK⟩ := refHash_ev xs (by omega)
  exact haulageref03_Hash.calls K (fun k => k < w.heap.size) A c xs _ w (Kd.V_mk hc (Kd.C_F (Kd.heap_int .u8) h)) (hK K (Nat.le_refl _))
theorem shard_c {b : Int} (h : Kd.C (Kd.int .u8) w A xs.length xs) (hc : xs.length ≤ c) (hl : xs.length ≤ 140737488355000) (b0 : -9223372036854775808 ≤ b) (b1 : b ≤ 9223372036854775807) :
    Calls Try.prog 18 #[.slice A xs.length c, .int .i64 b] w fun e w' => e = .returned (.int .i64 (jumpV (fnvV [xs]) b)) ∧ Below w.heap.size w w' := by
  obtain ⟨K, hK⟩ := Shard_ev xs b (by omega) b0 b1
  exact jump_Shard.calls K A c xs b _ w h hc (hK K (Nat.le_refl _))
theorem refshard_c {b : Int} (h : Kd.C (Kd.int .u8) w A xs.length xs) (hc : xs.length ≤ c) (hl : xs.length ≤ 140737488355000) :
    Calls Try.prog 19 #[.slice A xs.length c, .int .i64 b] w fun e w' => e = .returned (.int .i64 (jumpV (fnvV [xs]) b)) ∧ Below w.heap.size w w' := by
  obtain ⟨K, hK⟩ := refShard_ev xs b (by omega)
  exact haulageref03_Shard.calls K A c xs b _ w h hc (hK K (Nat.le_refl _))
theorem home_c {s b : Int} (b0 : -9223372036854775808 ≤ b) (b1 : b ≤ 9223372036854775807) :
    Calls Try.prog 21 #[.int .i64 s, .int .i64 b] w fun e w' => e = .returned (.int .i64 (homeV s b)) ∧ Below w.heap.size w w' := by
  obtain ⟨K, hK⟩ := Home_ev s b b0 b1
  exact jump_Home.calls K s b _ w (hK K (Nat.le_refl _))
theorem refhome_c {s b : Int} :
    Calls Try.prog 22 #[.int .i64 s, .int .i64 b] w fun e w' => e = .returned (.int .i64 (homeV s b)) ∧ Below w.heap.size w w' := by
  obtain ⟨K, hK⟩ := refHome_ev s b
  exact haulageref03_Home.calls K s b _ w (hK K (Nat.le_refl _))
end

/-- What has been written of the row turned round: the first i cells. -/
def turnTo (xs : List Int) (i : Nat) : List Int := (List.range xs.length).map fun j => if j < i then xs.getD (xs.length - 1 - j) 0 else xs.getD j 0
theorem turnTo_length (xs : List Int) (i : Nat) : (turnTo xs i).length = xs.length := by simp [turnTo]
theorem turnTo_zero (xs : List Int) : turnTo xs 0 = xs := by
  apply List.ext_getElem
  · simp [turnTo]
  · intro j h1 h2; simp [turnTo, List.getD_eq_getElem?_getD, h2]
theorem turnTo_set (xs : List Int) (i : Nat) (h : i < xs.length) : (turnTo xs i).set i (xs.getD (xs.length - 1 - i) 0) = turnTo xs (i + 1) := by
  apply List.ext_getElem
  · simp [turnTo]
  · intro j h1 h2
    simp only [turnTo, List.getElem_set, List.getElem_map, List.getElem_range]
    by_cases e : i = j
    · subst e; rw [if_pos rfl, if_pos (by omega)]
    · rw [if_neg e]
      by_cases c : j < i
      · rw [if_pos c, if_pos (by omega)]
      · rw [if_neg c, if_neg (by omega)]

set_option maxHeartbeats 4000000 in
set_option maxRecDepth 100000 in
theorem keys_walk (A : Option Addr) (c : Nat) (xs : List Int) (b s n : Int) (w : World) (HX : Kd.C (Kd.int .u8) w A xs.length xs) (hc : xs.length ≤ c) (hlen : xs.length ≤ 140737488351232)
    (b0 : -9223372036854775808 ≤ b) (b1 : b ≤ 9223372036854775807) (n0 : -9223372036854775808 ≤ n) (n1 : n ≤ 9223372036854775807) :
    Calls Try.prog 4 #[.slice A xs.length c, .int .i64 b, .int .i64 s, .int .i64 n] w fun e w' => e = .returned (.bool true) ∧ Below w.heap.size w w' := by
  have hlent : haulagelaw03_lent.f xs = some xs := by
    unfold haulagelaw03_lent.f
    simp only [Option.bind_some, List.nil_append, List.length_nil, List.length_append, List.length_cons]
    rw [if_pos (by omega), if_pos (by omega), if_pos (by omega), if_pos (by omega)]
    simp
  have hlen2 : xs.length ≤ 140737488355000 := by omega
  obtain ⟨i0, hi, hz0, hz1, hz2⟩ := info_parts info5
  have HLEN := Lib.hid hlent
  clear hlent
  go_enter Try.func4, Try.ntmps4
  go_wp2_with (go_at_call 15; refine (haulagelaw03_lent.spare A c xs xs _ HX hc HLEN.out).mono ?_; rintro e w1 ⟨A1, c1, rfl, L1, B1⟩)
  have X1 := Kd.C_below HX B1
  have T1 : Kd.R (Kd.int .u8) 5 w1 w.heap.size (fun _ => True) (.slice A1 xs.length c1) xs := by
    have h := Kd.R_take (m := xs.length) L1 (by simp)
    rwa [List.take_left] at h
  go_wp2_with (go_at_call 16; refine (hash_l T1 hlen2).mono ?_; rintro e w2 ⟨rfl, B2⟩)
  have X2 := Kd.C_below X1 B2
  have T2 := Kd.R_below T1 B2
  go_wp2_with (go_at_call 17; refine (hash_c X2 hc hlen2).mono ?_; rintro e w3 ⟨rfl, B3⟩)
  have X3 := Kd.C_below X2 B3
  have T3 := Kd.R_below T2 B3
  go_wp2_with (go_at_call 18; refine (shard_c (Kd.R_reads' T3).2.2 (Kd.R_reads' T3).2.1 hlen2 b0 b1).mono ?_; rintro e w4 ⟨rfl, B4⟩)
  have X4 := Kd.C_below X3 B4
  go_wp2_with (go_at_call 19; refine (refshard_c X4 hc hlen2).mono ?_; rintro e w5 ⟨rfl, B5⟩)
  have X5 := Kd.C_below X4 B5
  have L5 := Kd.R_below (Kd.R_below (Kd.R_below (Kd.R_below L1 B2) B3) B4) B5
  obtain ⟨g, cap, eA, _⟩ := Kd.R_form L5 (by simp)
  injection eA with e1 e2 e3
  subst e1
  subst e3
  clear e2
  go_wp2_with (go_at_call 20; refine (kept_true g c1 xs A c _ _ _ L5 X5 hlen2).mono ?_; rintro e w6 ⟨rfl, D6⟩)
  have B6 : Below w.heap.size w w6 := below_step (below_step (below_step (below_step (below_step B1 B2) B3) B4) B5) D6.below
  have L6 := Kd.R_below L5 D6.below
  clear B1 B2 B3 B4 B5 D6 L1 L5 X1 X2 X3 X4 X5 T1 T2 T3
  have HXH := Lib.hid HX
  clear HX HLEN
  go_loopw [10] (fun v wr => ∃ i : Nat, v = .int .i64 i ∧ i ≤ xs.length ∧ Kd.R (Kd.int .u8) 5 wr w.heap.size (fun _ => True) (.slice (some ⟨g, 0, none⟩) (xs.length + 3) c1) (turnTo xs i ++ [201, 202, 203]) ∧ Below w.heap.size w wr) (fun v _ => xs.length - (intOf v).toNat)
  case atStart => exact ⟨0, rfl, by omega, by rw [turnTo_zero]; simpa using L6, B6⟩
  case round =>
    clear L6 B6 w6
    obtain ⟨i, rfl, hin, HR, HBr⟩ := hrel
    by_cases ci : i < xs.length
    · obtain ⟨ad, ea, hx⟩ := Kd.at_int (Kd.C_below HXH.out HBr) ((xs.length : Int) - 1 - i) (by omega) (by omega)
      cases ea
      obtain ⟨hy, hfz⟩ := Kd.R_celln (0 : Int) HR (i : Int) (by omega) (by omega)
      obtain ⟨HP, _⟩ := Kd.R_putg HR (i : Int) (rd xs ((xs.length : Int) - 1 - i))
      have hp1 : decide ((i : Int) < (xs.length : Int)) = true := decide_eq_true (by omega)
      have hp2 : decide (i < xs.length) = true := decide_eq_true ci
      have hset : (turnTo xs i ++ [201, 202, 203]).set i (rd xs ((xs.length : Int) - 1 - i)) = turnTo xs (i + 1) ++ [201, 202, 203] := by
        rw [List.set_append_left _ _ (by rw [turnTo_length]; exact ci), ← turnTo_set xs i ci]
        unfold rd
        rw [show ((xs.length : Int) - 1 - i).toNat = xs.length - 1 - i by omega]
      have HSET := Lib.hid hset
      have HPH := Lib.hid HP
      have hgb : w.heap.size ≤ g := Kd.R_base HR g (by simp [Value.ownBlock])
      clear hset HP HR
      rw [Int.toNat_natCast] at hy hfz
      rw [show ((xs.length : Int) - 1 - i).toNat = xs.length - 1 - i by omega] at hx
      go_wp2
      go_roundw
      case rel =>
        refine ⟨i + 1, by go_num, by omega, ?_, ?_⟩
        · have h := HPH.out; rw [Int.toNat_natCast, HSET.out] at h; exact h
        · exact HBr.setCell (p := ⟨g, i, none⟩) hgb _
      case measure => simp [intOf]; omega
    · have ei : i = xs.length := by omega
      subst ei
      obtain ⟨zs, hzs⟩ : ∃ zs, turnTo xs xs.length = zs := ⟨_, rfl⟩
      have hzl : zs.length = xs.length := by rw [← hzs, turnTo_length]
      rw [hzs] at HR
      have ZL : Hid (zs.length = xs.length) := Lib.hid hzl
      have hlen3 : zs.length ≤ 140737488355000 := by omega
      have hcap := (Kd.R_reads' HR).2.1
      have TR : Kd.R (Kd.int .u8) 5 wr w.heap.size (fun _ => True) (.slice (some ⟨g, 0, none⟩) zs.length c1) zs := by
        have h := Kd.R_take (m := zs.length) HR (by simp)
        rwa [List.take_left] at h
      have TRH := Lib.hid TR
      have HRH := Lib.hid HR
      have HBH := Lib.hid HBr
      have cz : decide ((zs.length : Int) < (zs.length : Int)) = false := by simp
      rw [← hzl]
      clear hzs hzl TR HR ci hin
      go_wp2_with (first | ((with_reducible refine gate_dst (N := 51) rfl ?_); refine Kd.R_lit (Kd.int .u8) _ 5 ?hg (N := 51) ?hd (xs := ([] : List Int)) (inner := []) (ok := fun _ => True) (okp := fun _ => True) ?hr ?hp (fun _ hk => hk) trivial (Below.refl _ _) (Nat.le_refl _) (by simp) ?_; (case hd => rfl); (case hg => rfl); (case hr => first | (go_simp; done) | (go_simp; rfl)); (case hp => exact (Reps.none _ _)); intro v5 w5' ho5 hb5 hg5 hnew5; have HO5 := Lib.hid (Kd.R_lower ho5 (below_size HBr)); have HB5 := Lib.hid (below_step HBr hb5); have Hb5 := Lib.hid hb5; have hv5 := Lib.hid (Kd.R_base ho5); clear ho5 hb5 hg5 hnew5) | ((with_reducible refine gate_builtin (b := .append) (xs := #[.tmp 51, .tmp 52]) rfl ?_); at_builtin; refine Kd.R_append_rows (Kd.int .u8) (w0 := w) w.heap.size rfl (.tmp 51) (.tmp 52) 28 5 (.int .u8 0) 1 rfl Try.underlying28 info5 rfl (by decide) (by omega) v5 ([] : List Int) zs _ _ _ (fun _ => True) (fun _ => False) rfl rfl ?aO ?aR (fun _ _ h => h) (fun _ h => h.elim) ?aF ?aB ?aS ?aL ?_; (case aO => exact HO5.out); (case aR => exact Kd.C_below (Kd.R_reads' TRH.out).2.2 Hb5.out); (case aF => exact (fun _ _ => trivial)); (case aB => exact HB5.out); (case aS => exact below_size HB5.out); (case aL => simp; omega); intro v6 w6 ho6 hb6 hg6 hat6))
      have hgl : g < wr.heap.size := by obtain ⟨_, ho⟩ := Kd.R_own TRH.out; exact own_lt ho g (by simp [Value.ownBlock])
      have hne6 : ∀ k, v5.ownBlock = some k → some k ≠ (Value.slice (some ⟨g, 0, none⟩) zs.length c1).ownBlock := fun k hk e => by
        have h1 := hv5.out k hk
        simp [Value.ownBlock] at e
        omega
      have T6 := Kd.R_grown2 (Kd.R_below TRH.out Hb5.out) rfl hg6 hne6
      have L6 := Kd.R_grown2 (Kd.R_below HRH.out Hb5.out) rfl hg6 hne6
      obtain ⟨A6, c6, e6⟩ := Kd.R_slice ho6
      subst e6
      have Z6 : Kd.R (Kd.int .u8) 5 w6 w.heap.size (fun _ => True) (.slice A6 zs.length c6) zs := ho6
      have B6 : Below w.heap.size w w6 := hb6
      have nz : ([] ++ zs).length = zs.length := rfl
      clear hgl hne6 ho6 hb6 hg6 hat6 nz HBr HBH
      clear HO5 HB5 Hb5 hv5 TRH HRH
      go_wp2_with (go_at_call 16; refine (hash_l T6 hlen3).mono ?_; rintro e w7 ⟨rfl, B7⟩)
      have T7 := Kd.R_below T6 B7
      have Z7 := Kd.R_below Z6 B7
      go_wp2_with (go_at_call 17; refine (hash_c (Kd.R_reads' Z7).2.2 (Kd.R_reads' Z7).2.1 hlen3).mono ?_; rintro e w8 ⟨rfl, B8⟩)
      have T8 := Kd.R_below T7 B8
      have Z8 := Kd.R_below Z7 B8
      go_wp2_with (go_at_call 18; refine (shard_c (Kd.R_reads' T8).2.2 (Kd.R_reads' T8).2.1 hlen3 b0 b1).mono ?_; rintro e w9 ⟨rfl, B9⟩)
      have Z9 := Kd.R_below Z8 B9
      go_wp2_with (go_at_call 19; refine (refshard_c (Kd.R_reads' Z9).2.2 (Kd.R_reads' Z9).2.1 hlen3).mono ?_; rintro e w10 ⟨rfl, B10⟩)
      have Z10 := Kd.R_below Z9 B10
      have L10 := Kd.R_below (Kd.R_below (Kd.R_below (Kd.R_below L6 B7) B8) B9) B10
      have L10' : Kd.R (Kd.int .u8) 5 w10 w.heap.size (fun _ => True) (.slice (some ⟨g, 0, none⟩) (zs ++ [201, 202, 203]).length c1) (zs ++ [201, 202, 203]) := by
        have e : (zs ++ [201, 202, 203]).length = xs.length + 3 := by rw [List.length_append, ZL.out]; rfl
        rw [e]; exact L10
      clear T6 T7 T8 Z6 Z7 Z8 Z9 L6 L10
      go_wp2_with (go_at_call 20; refine (kept_true g c1 zs A6 c6 _ _ _ L10' (Kd.R_reads' Z10).2.2 hlen3).mono ?_; rintro e w11 ⟨rfl, D11⟩)
      go_wp2_with (go_at_call 21; refine (home_c n0 n1).mono ?_; rintro e w12 ⟨rfl, B12⟩)
      go_wp2_with (go_at_call 22; refine refhome_c.mono ?_; rintro e w13 ⟨rfl, B13⟩)
      go_ret
      exact ⟨rfl, below_step (below_step (below_step (below_step (below_step (below_step (below_step B6 B7) B8) B9) B10) D11.below) B12) B13⟩

end Go.Proofs.Ytchmknacofaepaa.KJ
