import Derived.Test.YtchmknacofaepaaKj
import Derived.Test.YtchmknacofaepaaJr
import Derived.Test.YtchmknacofaepaaPJx4
import Derived.Outline
import Derived.Lib.Hide
namespace Go.Proofs.Ytchmknacofaepaa.KJ
open Go.RowKit Go.Proofs.YtchmknacofaepaaW.PrintWords Go.Proofs.YtchmknacofaepaaW.PrintLast Go.Proofs.YtchmknacofaepaaW.PrintMore Go.Proofs.Ytchmknacofaepaa.PJ Go.Proofs.Ytchmknacofaepaa.JF Go.Proofs.Ytchmknacofaepaa.JQ
set_option linter.unusedVariables false
set_option linter.unusedSimpArgs false

theorem same_c {A B : Option Addr} {c d : Nat} {xs : List Int} {w : World} (h1 : Kd.C (Kd.int .i64) w A xs.length xs) (c1 : xs.length ≤ c) (h2 : Kd.C (Kd.int .i64) w B xs.length xs) (c2 : xs.length ≤ d) (hl : xs.length ≤ 140737488355000) :
    Calls Try.prog 12 #[.slice A xs.length c, .slice B xs.length d] w fun e w' => e = .returned (.bool true) ∧ Drawn0 w w' := by
  obtain ⟨K, hK⟩ := same_Ev xs (by omega)
  exact haulagelaw03_same.calls K A c xs B d xs _ w h1 c1 h2 c2 (hK K (Nat.le_refl _))

set_option maxHeartbeats 2000000 in
set_option maxRecDepth 100000 in
theorem keptInts_true (g cap : Nat) (ys : List Int) (A1 : Option Addr) (c1 base : Nat) (ok : Nat → Prop) (w : World) (HO : Kd.R (Kd.int .i64) 3 w base ok (.slice (some ⟨g, 0, none⟩) (ys ++ [-201, -202]).length cap) (ys ++ [-201, -202]))
    (HR : Kd.C (Kd.int .i64) w A1 ys.length ys) (hc1 : ys.length ≤ c1) (hlen : ys.length ≤ 140737488355000) :
    Calls Try.prog 28 #[.slice (some ⟨g, 0, none⟩) ys.length cap, .slice A1 ys.length c1] w fun e w' => e = .returned (.bool true) ∧ Drawn0 w w' := by
  have hl : (ys ++ [-201, -202]).length = ys.length + 2 := by simp
  have hcap := (Kd.R_reads' HO).2.1
  rw [hl] at hcap
  obtain ⟨i0, hi0, _, _, _⟩ := info_parts info3
  have hcut := cut_beyond (P := Try.prog) 25 3 .i64 Try.underlying25 hi0 (some ⟨g, 0, none⟩) ys.length cap ((ys.length : Int) + 2) (by omega) (by omega)
  have hn3 : ((ys.length : Int) + 2).toNat = ys.length + 2 := by omega
  rw [hn3] at hcut
  have HT : Kd.R (Kd.int .i64) 3 w base ok (.slice (some ⟨g, 0, none⟩) ys.length cap) ys := by
    have h := Kd.R_take (m := ys.length) HO (by simp)
    rwa [List.take_left] at h
  have HO' := Lib.hid HO
  have HT' := Lib.hid HT
  have HR' := Lib.hid HR
  have HL := Lib.hid hl
  obtain ⟨h2, _⟩ := Kd.R_celln (0 : Int) HO'.out (ys.length : Int) (by omega) (by rw [HL.out]; omega)
  obtain ⟨h3, _⟩ := Kd.R_celln (0 : Int) HO'.out ((ys.length : Int) + 1) (by omega) (by rw [HL.out]; omega)
  have e2 : rdOf (0 : Int) (ys ++ [-201, -202]) (ys.length : Int) = -201 := by unfold rdOf; simp
  have e3 : rdOf (0 : Int) (ys ++ [-201, -202]) ((ys.length : Int) + 1) = -202 := by unfold rdOf; rw [show ((ys.length : Int) + 1).toNat = ys.length + 1 by omega]; simp
  have t1 : ((ys.length : Int) + 1).toNat = ys.length + 1 := by omega
  rw [e2, Int.toNat_natCast] at h2
  rw [e3, t1] at h3
  clear e2 e3
  clear HO HR HT hl hi0 hn3
  go_enter Try.func28, Try.ntmps28
  go_wp2_with (go_at_call 12; refine (same_c (Kd.R_reads' HT'.out).2.2 (Kd.R_reads' HT'.out).2.1 HR'.out hc1 hlen).mono ?_; rintro e w1 ⟨rfl, m1, rfl⟩)
  repeat (go_quiet (fail); try go_wp2)
  go_ret
  exact ⟨rfl, by repeat (first | exact Drawn0.refl _ | apply Drawn0.step)⟩

/-! ### the callees, under the values that they tell -/
section
variable {h : Int} {A : Option Addr} {c : Nat} {xs : List Int} {w : World}
theorem score_c {s v : Int} : Calls Try.prog 23 #[.int .u64 h, .int .i64 s, .int .i64 v] w fun e w' => e = .returned (.int .u64 (scoreV h s v)) ∧ Below w.heap.size w w' := by
  obtain ⟨K, hK⟩ := Score_ev h s v
  exact jump_Score.calls K h s v _ w (hK K (Nat.le_refl _))
theorem refscore_c {s v : Int} (h0 : 0 ≤ h) (h1 : h ≤ 18446744073709551615) : Calls Try.prog 24 #[.int .u64 h, .int .i64 s, .int .i64 v] w fun e w' => e = .returned (.int .u64 (scoreV h s v)) ∧ Below w.heap.size w w' := by
  obtain ⟨K, hK⟩ := refScore_ev h s v h0 h1
  exact haulageref03_Score.calls K h s v _ w (hK K (Nat.le_refl _))
theorem rank_c (hx : Kd.C (Kd.int .i64) w A xs.length xs) (hc : xs.length ≤ c) : Calls Try.prog 26 #[.int .u64 h, .slice A xs.length c] w fun e w' => ∃ (B : Option Addr) (d : Nat), e = .returned (.slice B (rankV h xs).length d) ∧ Kd.R (Kd.int .i64) 3 w' w.heap.size (fun _ => True) (.slice B (rankV h xs).length d) (rankV h xs) ∧ Below w.heap.size w w' := by
  obtain ⟨K, hK⟩ := Rank_ev h xs
  refine (RK.jump_Rank.calls K h A c xs _ w hx hc (hK K (Nat.le_refl _))).mono ?_
  rintro e w' ⟨v, rfl, hr, hb⟩
  obtain ⟨B, d, rfl⟩ := Kd.R_slice hr
  exact ⟨B, d, rfl, hr, hb⟩
theorem refrank_c (h0 : 0 ≤ h) (h1 : h ≤ 18446744073709551615) (hx : Kd.C (Kd.int .i64) w A xs.length xs) (hc : xs.length ≤ c) : Calls Try.prog 27 #[.int .u64 h, .slice A xs.length c] w fun e w' => ∃ (B : Option Addr) (d : Nat), e = .returned (.slice B (rankV h xs).length d) ∧ Kd.R (Kd.int .i64) 3 w' w.heap.size (fun _ => True) (.slice B (rankV h xs).length d) (rankV h xs) ∧ Below w.heap.size w w' := by
  obtain ⟨K, hK⟩ := refRank_ev h xs h0 h1
  refine (haulageref03_Rank.calls K h A c xs _ w hx hc (hK K (Nat.le_refl _))).mono ?_
  rintro e w' ⟨v, rfl, hr, hb⟩
  obtain ⟨B, d, rfl⟩ := Kd.R_slice hr
  exact ⟨B, d, rfl, hr, hb⟩
end
theorem rankV_len (h : Int) (xs : List Int) : (rankV h xs).length ≤ 65536 := by
  unfold rankV
  split
  · simp
  · rw [List.length_map, (sortV_perm _).length_eq]; have := rankRow_len h xs 0; omega

set_option maxHeartbeats 4000000 in
set_option maxRecDepth 100000 in
theorem ranks_walk (h s v : Int) (A : Option Addr) (c : Nat) (xs : List Int) (w : World) (HX : Kd.C (Kd.int .i64) w A xs.length xs) (hc : xs.length ≤ c) (hlen : xs.length ≤ 17592186043904)
    (h0 : 0 ≤ h) (h1 : h ≤ 18446744073709551615) :
    Calls Try.prog 5 #[.int .u64 h, .int .i64 s, .int .i64 v, .slice A xs.length c] w fun e w' => e = .returned (.bool true) ∧ Below w.heap.size w w' := by
  have hlent : haulagelaw03_lentInts.f xs = some xs := by
    unfold haulagelaw03_lentInts.f
    simp only [Option.bind_some, List.nil_append, List.length_nil, List.length_append, List.length_cons]
    rw [if_pos (by omega), if_pos (by omega), if_pos (by omega), if_pos (by omega)]
    simp
  have hlen2 : xs.length ≤ 140737488355000 := by omega
  have hrl := rankV_len h xs
  obtain ⟨i0, hi, hz0, hz1, hz2⟩ := info_parts info3
  have HLEN := Lib.hid hlent
  clear hlent
  go_enter Try.func5, Try.ntmps5
  go_wp2_with (go_at_call 23; refine score_c.mono ?_; rintro e wa ⟨rfl, Ba⟩)
  go_wp2_with (go_at_call 24; refine (refscore_c h0 h1).mono ?_; rintro e wb ⟨rfl, Bb⟩)
  have Xb := Kd.C_below (Kd.C_below HX Ba) Bb
  have Bab := below_step Ba Bb
  go_wp2_with (go_at_call 25; refine (haulagelaw03_lentInts.spare A c xs xs _ Xb hc HLEN.out).mono ?_; rintro e w1 ⟨A1, c1, rfl, L1, B1⟩)
  have X1 := Kd.C_below Xb B1
  have L1w := Kd.R_lower L1 (below_size Bab)
  have B1w := below_step Bab B1
  clear L1 B1 Bab Ba Bb Xb
  have T1 : Kd.R (Kd.int .i64) 3 w1 w.heap.size (fun _ => True) (.slice A1 xs.length c1) xs := by
    have h := Kd.R_take (m := xs.length) L1w (by simp)
    rwa [List.take_left] at h
  go_wp2_with (go_at_call 26; refine (rank_c (Kd.R_reads' T1).2.2 (Kd.R_reads' T1).2.1).mono ?_; rintro e w2 ⟨P2, d2, rfl, R2, B2⟩)
  have X2 := Kd.C_below X1 B2
  have T2 := Kd.R_below T1 B2
  go_wp2_with (go_at_call 27; refine (refrank_c h0 h1 X2 hc).mono ?_; rintro e w3 ⟨P3, d3, rfl, R3, B3⟩)
  have X3 := Kd.C_below X2 B3
  have R2' := Kd.R_below R2 B3
  go_wp2_with (go_at_call 12; refine (same_c (Kd.R_reads' R2').2.2 (Kd.R_reads' R2').2.1 (Kd.R_reads' R3).2.2 (Kd.R_reads' R3).2.1 (by omega)).mono ?_; rintro e w4 ⟨rfl, D4⟩)
  have X4 := Kd.C_below X3 D4.below
  have L4 := Kd.R_below (Kd.R_below (Kd.R_below L1w B2) B3) D4.below
  obtain ⟨g, cap, eA, _⟩ := Kd.R_form L4 (by simp)
  injection eA with e1 e2 e3
  subst e1
  subst e3
  clear e2
  go_wp2_with (go_at_call 28; refine (keptInts_true g c1 xs A c _ _ _ L4 X4 hc hlen2).mono ?_; rintro e w6 ⟨rfl, D6⟩)
  have B6 : Below w.heap.size w w6 := below_step (below_step (below_step (below_step B1w B2) B3) D4.below) D6.below
  have L6 := Kd.R_below L4 D6.below
  clear B1w B2 B3 D4 D6 L1w L4 X1 X2 X3 X4 T1 T2 R2 R2' R3 hrl
  have HXH := Lib.hid HX
  clear HX HLEN
  go_loopw [10] (fun v wr => ∃ i : Nat, v = .int .i64 i ∧ i ≤ xs.length ∧ Kd.R (Kd.int .i64) 3 wr w.heap.size (fun _ => True) (.slice (some ⟨g, 0, none⟩) (xs.length + 2) c1) (turnTo xs i ++ [-201, -202]) ∧ Below w.heap.size w wr) (fun v _ => xs.length - (intOf v).toNat)
  case atStart => exact ⟨0, rfl, by omega, by rw [turnTo_zero]; simpa using L6, B6⟩
  case round =>
    clear L6 B6 w6
    obtain ⟨i, rfl, hin, HR, HBr⟩ := hrel
    by_cases ci : i < xs.length
    · obtain ⟨ad, ea, hx⟩ := Kd.at_int (Kd.C_below HXH.out HBr) ((xs.length : Int) - 1 - i) (by omega) (by omega)
      cases ea
      obtain ⟨hy, hfz⟩ := Kd.R_celln (0 : Int) HR (i : Int) (by omega) (by omega)
      obtain ⟨HP, _⟩ := Kd.R_putg HR (i : Int) (rd xs ((xs.length : Int) - 1 - i))
      have hp1 : decide ((i : Int) < (xs.length : Int)) = true := decide_eq_true (by omega)
      have hp2 : decide (i < xs.length) = true := decide_eq_true ci
      have hset : (turnTo xs i ++ [-201, -202]).set i (rd xs ((xs.length : Int) - 1 - i)) = turnTo xs (i + 1) ++ [-201, -202] := by
        rw [List.set_append_left _ _ (by rw [turnTo_length]; exact ci), ← turnTo_set xs i ci]
        unfold rd
        rw [show ((xs.length : Int) - 1 - i).toNat = xs.length - 1 - i by omega]
      have HSET := Lib.hid hset
      have HPH := Lib.hid HP
      have hgb : w.heap.size ≤ g := Kd.R_base HR g (by simp [Value.ownBlock])
      clear hset HP HR
      rw [Int.toNat_natCast] at hy hfz
      rw [show ((xs.length : Int) - 1 - i).toNat = xs.length - 1 - i by omega] at hx
      go_wp2
      go_roundw
      case rel =>
        refine ⟨i + 1, by go_num, by omega, ?_, ?_⟩
        · have h := HPH.out; rw [Int.toNat_natCast, HSET.out] at h; exact h
        · exact HBr.setCell (p := ⟨g, i, none⟩) hgb _
      case measure => simp [intOf]; omega
    · have ei : i = xs.length := by omega
      subst ei
      obtain ⟨zs, hzs⟩ : ∃ zs, turnTo xs xs.length = zs := ⟨_, rfl⟩
      have hzl : zs.length = xs.length := by rw [← hzs, turnTo_length]
      rw [hzs] at HR
      have ZL : Hid (zs.length = xs.length) := Lib.hid hzl
      have hlen3 : zs.length ≤ 17592186043904 := by omega
      have hlen4 : zs.length ≤ 140737488355000 := by omega
      have hrl := rankV_len h zs
      have TR : Kd.R (Kd.int .i64) 3 wr w.heap.size (fun _ => True) (.slice (some ⟨g, 0, none⟩) zs.length c1) zs := by
        have h := Kd.R_take (m := zs.length) HR (by simp)
        rwa [List.take_left] at h
      have TRH := Lib.hid TR
      have HRH := Lib.hid HR
      have HBH := Lib.hid HBr
      have cz : decide ((zs.length : Int) < (zs.length : Int)) = false := by simp
      rw [← hzl]
      clear hzs hzl TR HR ci hin
      go_wp2_with (first | ((with_reducible refine gate_dst (N := 54) rfl ?_); refine Kd.R_lit (Kd.int .i64) _ 3 ?hg (N := 54) ?hd (xs := ([] : List Int)) (inner := []) (ok := fun _ => True) (okp := fun _ => True) ?hr ?hp (fun _ hk => hk) trivial (Below.refl _ _) (Nat.le_refl _) (by simp) ?_; (case hd => rfl); (case hg => rfl); (case hr => first | (go_simp; done) | (go_simp; rfl)); (case hp => exact (Reps.none _ _)); intro v5 w5' ho5 hb5 hg5 hnew5; have HO5 := Lib.hid (Kd.R_lower ho5 (below_size HBr)); have HB5 := Lib.hid (below_step HBr hb5); have Hb5 := Lib.hid hb5; have hv5 := Lib.hid (Kd.R_base ho5); clear ho5 hb5 hg5 hnew5) | ((with_reducible refine gate_builtin (b := .append) (xs := #[.tmp 54, .tmp 55]) rfl ?_); at_builtin; refine Kd.R_append_rows (Kd.int .i64) (w0 := w) w.heap.size rfl (.tmp 54) (.tmp 55) 25 3 (.int .i64 0) 8 rfl Try.underlying25 info3 rfl (by decide) (by omega) v5 ([] : List Int) zs _ _ _ (fun _ => True) (fun _ => False) rfl rfl ?aO ?aR (fun _ _ h => h) (fun _ h => h.elim) ?aF ?aB ?aS ?aL ?_; (case aO => exact HO5.out); (case aR => exact Kd.C_below (Kd.R_reads' TRH.out).2.2 Hb5.out); (case aF => exact (fun _ _ => trivial)); (case aB => exact HB5.out); (case aS => exact below_size HB5.out); (case aL => simp; omega); intro v6 w6 ho6 hb6 hg6 hat6))
      have hgl : g < wr.heap.size := by obtain ⟨_, ho⟩ := Kd.R_own TRH.out; exact own_lt ho g (by simp [Value.ownBlock])
      have hne6 : ∀ k, v5.ownBlock = some k → some k ≠ (Value.slice (some ⟨g, 0, none⟩) zs.length c1).ownBlock := fun k hk e => by
        have h1 := hv5.out k hk
        simp [Value.ownBlock] at e
        omega
      have T6 := Kd.R_grown2 (Kd.R_below TRH.out Hb5.out) rfl hg6 hne6
      have L6 := Kd.R_grown2 (Kd.R_below HRH.out Hb5.out) rfl hg6 hne6
      obtain ⟨A6, c6, e6⟩ := Kd.R_slice ho6
      subst e6
      have Z6 : Kd.R (Kd.int .i64) 3 w6 w.heap.size (fun _ => True) (.slice A6 zs.length c6) zs := ho6
      have B6 : Below w.heap.size w w6 := hb6
      have nz : ([] ++ zs).length = zs.length := rfl
      clear hgl hne6 ho6 hb6 hg6 hat6 nz HBr HBH
      clear HO5 HB5 Hb5 hv5 TRH HRH
      go_wp2_with (go_at_call 26; refine (rank_c (Kd.R_reads' T6).2.2 (Kd.R_reads' T6).2.1).mono ?_; rintro e w7 ⟨P7, d7, rfl, R7, B7⟩)
      have T7 := Kd.R_below T6 B7
      have Z7 := Kd.R_below Z6 B7
      go_wp2_with (go_at_call 27; refine (refrank_c h0 h1 (Kd.R_reads' Z7).2.2 (Kd.R_reads' Z7).2.1).mono ?_; rintro e w8 ⟨P8, d8, rfl, R8, B8⟩)
      have T8 := Kd.R_below T7 B8
      have Z8 := Kd.R_below Z7 B8
      have R7' := Kd.R_below R7 B8
      go_wp2_with (go_at_call 12; refine (same_c (Kd.R_reads' R7').2.2 (Kd.R_reads' R7').2.1 (Kd.R_reads' R8).2.2 (Kd.R_reads' R8).2.1 (by omega)).mono ?_; rintro e w9 ⟨rfl, D9⟩)
      have Z9 := Kd.R_below Z8 D9.below
      have L9 := Kd.R_below (Kd.R_below (Kd.R_below L6 B7) B8) D9.below
      have L9' : Kd.R (Kd.int .i64) 3 w9 w.heap.size (fun _ => True) (.slice (some ⟨g, 0, none⟩) (zs ++ [-201, -202]).length c1) (zs ++ [-201, -202]) := by
        have e : (zs ++ [-201, -202]).length = xs.length + 2 := by rw [List.length_append, ZL.out]; rfl
        rw [e]; exact L9
      clear T6 T7 T8 Z6 Z7 Z8 L6 L9 R7 R7' R8
      go_wp2_with (go_at_call 28; refine (keptInts_true g c1 zs A6 c6 _ _ _ L9' (Kd.R_reads' Z9).2.2 (Kd.R_reads' Z9).2.1 hlen4).mono ?_; rintro e w11 ⟨rfl, D11⟩)
      go_ret
      exact ⟨rfl, below_step (below_step (below_step (below_step B6 B7) B8) D9.below) D11.below⟩

end Go.Proofs.Ytchmknacofaepaa.KJ
