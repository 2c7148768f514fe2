import Derived.Test.YtchmknacofaepaaRk
import Derived.WalkSmall
import Derived.Test.YtchmknacofaepaaPJx3
namespace Go.Proofs.Ytchmknacofaepaa.RK
open Go.RowKit Go.Shelf Go.Sort Go.Lib Go.Proofs.YtchmknacofaepaaW.PrintWords Go.Proofs.YtchmknacofaepaaW.PrintLast Go.Proofs.YtchmknacofaepaaW.PrintMore Go.Proofs.Ytchmknacofaepaa.JF Go.Proofs.Ytchmknacofaepaa.JQ Go.Proofs.Ytchmknacofaepaa.PJ
set_option linter.unusedVariables false
set_option linter.unusedSimpArgs false

/-- The servers that have a weight, each with its score. -/
def rankAll (k : Nat) (h : Int) : List Int → Int → List (Int × Int) → Option (List (Int × Int))
  | [], _, acc => some acc
  | x :: ws, i, acc => if 1 ≤ x ∧ x ≤ 64 then (jump_Score.f k h i x).bind fun s => rankAll k h ws (i + 1) (acc ++ [(i, s)]) else rankAll k h ws (i + 1) acc

theorem rankAll_mono : ∀ (ws : List Int) (h i : Int) (acc : List (Int × Int)) (k : Nat), LeO (rankAll k h ws i acc) (rankAll (k + 1) h ws i acc)
  | [], h, i, acc, k => LeO.refl _
  | x :: ws, h, i, acc, k => by
    unfold rankAll
    split
    · exact LeO.bind (jump_Score.mono _ _ _ _) (fun s => rankAll_mono ws h (i + 1) _ k)
    · exact rankAll_mono ws h (i + 1) acc k

def jump_Rank.f (k : Nat) (a0 : Int) (l1 : List Int) : Option (List Int) := if l1.length > 65536 then some [] else (rankAll k a0 l1 0 []).bind fun all => some ((sortV all).map Prod.fst)
theorem jump_Rank.mono : ∀ a0 a1 k, LeO (jump_Rank.f k a0 a1) (jump_Rank.f (k + 1) a0 a1) := by
  intro a0 a1 k
  unfold jump_Rank.f
  split
  · exact LeO.refl _
  · exact LeO.bind (rankAll_mono _ _ _ _ _) (fun _ => LeO.refl _)

theorem rank_drop {k : Nat} {h : Int} {ws : List Int} {i : Nat} {acc : List (Int × Int)} (hi : i < ws.length) :
    rankAll k h (ws.drop i) i acc = if 1 ≤ rd ws i ∧ rd ws i ≤ 64 then (jump_Score.f k h i (rd ws i)).bind fun s => rankAll k h (ws.drop (i + 1)) ((i + 1 : Nat) : Int) (acc ++ [((i : Int), s)]) else rankAll k h (ws.drop (i + 1)) ((i + 1 : Nat) : Int) acc := by
  have e : ws.drop i = rd ws i :: ws.drop (i + 1) := by
    have := rd_drop (xs := ws) (i := (i : Int)) (by omega) (by omega)
    rwa [Int.toNat_natCast, show ((i : Int) + 1).toNat = i + 1 by omega] at this
  rw [e]
  have e2 : ((i + 1 : Nat) : Int) = (i : Int) + 1 := by omega
  rw [e2]
  rfl

theorem infoS : (Try.prog.info? 61).map (fun i => (i.zero, i.size, i.bytes)) = some (some (.agg #[.int .i64 0, .int .u64 0]), 2, 16) := by kernel_rfl
theorem infoI : (Try.prog.info? 3).map (fun i => (i.zero, i.size, i.bytes)) = some (some (.int .i64 0), 1, 8) := by kernel_rfl

theorem flat_at : ∀ (ys : List (Int × Int)) (j : Nat) (h : j < ys.length), ((ys.map encS).flatten)[j * 2]? = some (.int .i64 (ys[j]'h).1) ∧ ((ys.map encS).flatten)[j * 2 + 1]? = some (.int .u64 (ys[j]'h).2)
  | [], j, h => by simp at h
  | y :: ys, 0, h => ⟨by simp [encS], by simp [encS]⟩
  | y :: ys, j + 1, h => by
    have hj : j < ys.length := by simpa using h
    obtain ⟨h1, h2⟩ := flat_at ys j hj
    simp only [List.map_cons, List.flatten_cons]
    have e : (encS y).length = 2 := rfl
    refine ⟨?_, ?_⟩
    · rw [List.getElem?_append_right (by rw [e]; omega), e, show (j + 1) * 2 - 2 = j * 2 by omega, h1]; simp
    · rw [List.getElem?_append_right (by rw [e]; omega), e, show (j + 1) * 2 + 1 - 2 = j * 2 + 1 by omega, h2]; simp

set_option maxRecDepth 100000 in
set_option maxHeartbeats 4000000 in
theorem jump_Rank.calls (k : Nat) (a0 : Int) (A1 : Option Addr) (c1 : Nat) (l1 : List Int) (r : List Int) (w : World) (hr1 : Kd.C (Kd.int .i64) w A1 l1.length l1) (hc1 : l1.length ≤ c1) (h : jump_Rank.f k a0 l1 = some r) :
    Calls Try.prog 26 #[.int .u64 a0, .slice A1 l1.length c1] w fun e w' => ∃ v0_ : Value, e = .returned (v0_) ∧ Kd.R (Kd.int .i64) 3 w' w.heap.size (fun _ => True) v0_ r ∧ Below w.heap.size w w' := by
  unfold jump_Rank.f at h
  have HR1 := Lib.hid hr1
  clear hr1
  by_cases hl : l1.length > 65536
  · rw [if_pos hl] at h
    obtain rfl := Option.some.inj h
    have hl2 : decide (65536 < l1.length) = true := decide_eq_true hl
    have hl3 : decide ((65536 : Int) < (l1.length : Int)) = true := decide_eq_true (by omega)
    clear h
    go_enter Try.func26, Try.ntmps26
    go_wp2
    go_ret
    exact ⟨_, rfl, Kd.R_nil _ _ _ _ _, Below.refl _ _⟩
  · rw [if_neg hl] at h
    obtain ⟨fin, hfin⟩ : ∃ fin, rankAll k a0 l1 0 [] = some fin := by
      cases hq : rankAll k a0 l1 0 [] with
      | none => rw [hq] at h; cases h
      | some fin => exact ⟨fin, rfl⟩
    rw [hfin, Option.bind_some] at h
    have HRR := Lib.hid (Option.some.inj h)
    have HF := Lib.hid hfin
    have hl2 : decide (65536 < l1.length) = false := decide_eq_false hl
    have hl3 : decide ((65536 : Int) < (l1.length : Int)) = false := decide_eq_false (by omega)
    clear h hfin
    obtain ⟨i0, hi, hz0, hz1, hz2⟩ := info_parts infoS
    obtain ⟨j0, ji, jz0, jz1, jz2⟩ := info_parts infoI
    go_enter Try.func26, Try.ntmps26
    go_wp2
    go_loopw [5, 16] (fun v5 v16 wr => ∃ (i : Nat) (acc : List (Int × Int)), v16 = .int .i64 i ∧ i ≤ l1.length ∧ wr.ownsRow w.heap.size 61 2 v5 acc.length ((acc.map encS).flatten) ∧ Aside0 (rankAll k a0 (l1.drop i) i acc = some fin) ∧ acc.length ≤ i ∧ Below w.heap.size w wr) (fun _ v _ => l1.length - (intOf v).toNat)
    case atStart => exact ⟨0, [], rfl, by omega, World.ownsRow_nil _ _ _ _, ⟨HF.out⟩, by simp, Below.refl _ _⟩
    case round =>
      obtain ⟨i, acc, rfl, hin, hown, hacc, hal, hB⟩ := hrel
      have HBH := Lib.hid hB
      by_cases ci : i < l1.length
      · obtain ⟨ad, ea, hx⟩ := Kd.at_int (Kd.C_below HR1.out hB) (i : Int) (by omega) (by omega)
        cases ea
        rw [Int.toNat_natCast] at hx
        have hp1 : decide ((i : Int) < (l1.length : Int)) = true := decide_eq_true (by omega)
        have hp2 : decide (i < l1.length) = true := decide_eq_true ci
        have hst := hacc.out
        rw [rank_drop ci] at hst
        have hsz := hB.size
        clear hacc
        by_cases v1 : 1 ≤ rd l1 i
        · by_cases v2 : rd l1 i ≤ 64
          · rw [if_pos ⟨v1, v2⟩] at hst
            obtain ⟨sc, hsc⟩ : ∃ sc, jump_Score.f k a0 i (rd l1 i) = some sc := by
              cases hq : jump_Score.f k a0 i (rd l1 i) with
              | none => rw [hq] at hst; cases hst
              | some fin => exact ⟨fin, rfl⟩
            rw [hsc, Option.bind_some] at hst
            have HST := Aside0.mk hst
            have HSC := Lib.hid hsc
            clear hst hsc hB
            go_wp2_with (first | (go_at_call 23; refine (jump_Score.calls k a0 i (rd l1 i) sc _ HSC.out).mono ?_; rintro e w2 ⟨rfl, B2⟩; have hown2 := pw_own_below hown B2; have HB2 := Lib.hid (below_step HBH.out B2); have hsz2 := B2.size; clear hown B2) | (at_builtin; refine wpList_append_own _ rfl (.tmp 27) (.tmp 34) 59 rfl w.heap.size 61 i0 (.agg #[.int .i64 0, .int .u64 0]) 2 16 Try.underlying59 hi hz0 hz1 hz2 rfl (by decide) _ acc.length _ rfl (hown2.alloc _) ⟨w2.heap.size, 0, none⟩ 1 1 [.int .i64 i, .int .u64 sc] rfl rfl (cell_two_new _ _ _ _) (by simp [Value.oneCell']) (by unfold maxLen; omega) (by omega) (by simp; omega) ?_; intro v' w3 hown' hgrow _))
            have hB3 : RowKit.Below w.heap.size w w3 := (HB2.out.alloc (by omega) _).grown hgrow (by simp; omega) (fun q hq => (hown2.lt q hq).1)
            go_roundw
            case rel => exact ⟨i + 1, acc ++ [((i : Int), sc)], by go_num, by omega, by simpa [encS] using hown', HST, by simp; omega, hB3⟩
            case measure => simp [intOf]; omega
          · rw [if_neg (fun q => v2 q.2)] at hst
            have HST := Aside0.mk hst
            clear hst
            go_wp2
            go_roundw
            case rel => exact ⟨i + 1, acc, by go_num, by omega, hown, HST, by omega, hB⟩
            case measure => simp [intOf]; omega
        · rw [if_neg (fun q => v1 q.1)] at hst
          have HST := Aside0.mk hst
          clear hst
          go_wp2
          go_roundw
          case rel => exact ⟨i + 1, acc, by go_num, by omega, hown, HST, by omega, hB⟩
          case measure => simp [intOf]; omega
      · have ei : i = l1.length := by omega
        subst ei
        have hst := hacc.out
        rw [List.drop_of_length_le (Nat.le_refl _)] at hst
        obtain rfl : acc = fin := Option.some.inj hst
        clear hst hacc ci hin
        have hp1 : decide ((l1.length : Int) < (l1.length : Int)) = false := by simp
        obtain ⟨o1, o2⟩ := id hown
        rcases o2 with ⟨rfl, hz⟩ | ⟨g, cap, cur, rfl, hbase, hblk, hcap, hcm, hcs, hct⟩
        · have ea : acc = [] := List.length_eq_zero_iff.1 hz
          subst ea
          have hr : r = [] := by rw [← HRR.out]; simp [sortV]
          clear o1 hown hz
          subst hr
          go_wp2_with (go_at_call 42; refine (sort_none 0 _).mono ?_; rintro e w' ⟨rfl, rfl⟩)
          refine wp_loop_rounds 1 ?_
          rw [rounds_succ]
          go_wp2
          go_ret
          exact ⟨_, rfl, Kd.R_nil _ _ _ _ _, HBH.out⟩
        · clear o1 hblk hcs hct
          go_wp2_with (go_at_call 42; refine (sort_all g cap w.heap.size acc _ (by omega) hown).mono ?_; rintro e w' ⟨rfl, hown2, hg2⟩)
          have hB2 : RowKit.Below w.heap.size w w' := HBH.out.grown hg2 HBH.out.size (fun q hq => by cases hq; exact hbase)
          obtain ⟨ys, hys⟩ : ∃ ys, sortV acc = ys := ⟨_, rfl⟩
          have hyl : ys.length = acc.length := by rw [← hys]; simp [sortV]
          have HR2 : Hid (r = ys.map Prod.fst) := Lib.hid (by rw [← HRR.out, hys])
          rw [hys] at hown2
          have HY := Lib.hid hyl
          clear hys hyl hown hg2
          go_loopw [8, 41] (fun v8 v41 wr => ∃ j : Nat, v41 = .int .i64 j ∧ j ≤ acc.length ∧ wr.ownsRow w.heap.size 61 2 (.slice (some ⟨g, 0, none⟩) acc.length cap) acc.length ((ys.map encS).flatten) ∧ wr.ownsRow w.heap.size 3 1 v8 j (((ys.map Prod.fst).take j).map (Value.int .i64)) ∧ RowKit.Below w.heap.size w wr) (fun _ v _ => acc.length - (intOf v).toNat)
          case atStart => exact ⟨0, rfl, by omega, hown2, World.ownsRow_nil _ _ _ _, hB2⟩
          case round =>
            clear hB HBH hown2 hB2
            obtain ⟨j, rfl, hj, hall, hout, hB3⟩ := hrel
            by_cases cj : j < acc.length
            · have hjy : j < ys.length := by rw [HY.out]; exact cj
              obtain ⟨f1, f2⟩ := flat_at ys j hjy
              have ce1 := hall.cellAt (j * 2) (by omega)
              have ce2 := hall.cellAt (j * 2 + 1) (by omega)
              rw [f1] at ce1
              rw [f2] at ce2
              have cp1 : decide ((j : Int) < (acc.length : Int)) = true := decide_eq_true (by omega)
              have cp2 : decide (j < acc.length) = true := decide_eq_true cj
              have htk : ((ys.map Prod.fst).take (j + 1)).map (Value.int .i64) = ((ys.map Prod.fst).take j).map (Value.int .i64) ++ [Value.int .i64 (ys[j]'hjy).1] := by
                rw [List.take_succ_eq_append_getElem (by simpa using hjy)]; simp
              have HTK := Lib.hid htk
              have hs3 := hB3.size
              have HB3 := Lib.hid hB3
              clear f1 f2 htk hB3
              obtain ⟨y, hy⟩ : ∃ y, ys[j]'hjy = y := ⟨_, rfl⟩
              rw [hy] at ce1 ce2 HTK
              clear hy
              go_wp2_with (at_builtin; refine (wpList_append_own _ rfl (.tmp 45) (.tmp 48) 25 rfl w.heap.size 3 j0 (.int .i64 0) 1 8 Try.underlying25 ji jz0 jz1 jz2 rfl (by decide) _ j _ rfl ((hout.alloc _).alloc _) ⟨wr.heap.size + 1, 0, none⟩ 1 1 [.int .i64 y.1] rfl rfl (fun q u hq => by have h := cell_one_new (wr.alloc (.cells #[.int .i64 y.1, .int .u64 y.2] 61)) (.int .i64 y.1) 3 q u hq; simpa using h) (by simp [Value.oneCell']) (by unfold maxLen; omega) (by omega) (by simp; omega) ?_); intro v' w3 hown' hgrow _)
              have hB4 : RowKit.Below w.heap.size w w3 := ((HB3.out.alloc (by omega) _).alloc (by simp; omega) _).grown hgrow (by simp; omega) (fun q hq => (hout.lt q hq).1)
              have hall' : w3.ownsRow w.heap.size 61 2 (.slice (some ⟨g, 0, none⟩) acc.length cap) acc.length ((ys.map encS).flatten) := by
                refine ((hall.alloc _).alloc _).kept (row := u8.ownBlock) hgrow ?_
                rcases own_type_ne hout hall (by decide) with e | e
                · rw [e]; exact .inr (by simp [Value.ownBlock])
                · exact .inr (fun e2 => e e2.symm)
              go_roundw
              case rel => exact ⟨j + 1, by go_num, by omega, hall', by rw [HTK.out]; exact hown', hB4⟩
              case measure => simp [intOf]; omega
            · have ej : j = acc.length := by omega
              subst ej
              have cp1 : decide ((acc.length : Int) < (acc.length : Int)) = false := by simp
              have HB3 := Lib.hid hB3
              have hfull : (ys.map Prod.fst).take acc.length = r := by rw [HR2.out, List.take_of_length_le (by rw [List.length_map, HY.out]; exact Nat.le_refl _)]
              rw [hfull] at hout
              have hrl : Hid (r.length = acc.length) := Lib.hid (by rw [HR2.out, List.length_map, HY.out])
              have HO := Lib.hid hout
              clear hfull hB3 hout hall
              go_wp2
              go_ret
              refine ⟨_, rfl, JP.R_of_own ?_, HB3.out⟩
              have h := HO.out
              rw [← hrl.out] at h
              exact h

end Go.Proofs.Ytchmknacofaepaa.RK
