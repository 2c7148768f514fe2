/- The row of 'BagKnown', its '..UptoSaid': whatever the input of bulk at most 1048576, the law returns true and the input reads as it did; its condition: that bulk. -/
import Derived.Test.YtdlokohmdnkdoaaHBagKnownA
import Derived.Test.YtdlokohmdnkdoaaHBagKnownB
import Derived.Test.YtdlokohmdnkdoaaRows
import Derived.Deep.Slices
import Derived.ChangeArms
import Derived.KernelRfl
import Derived.Laws.OwnMore
import Derived.WalkKit
import Derived.ProofKit
import Derived.OpenShut
import Derived.JoinedCond
import Derived.Below
import Derived.ChangeOld
namespace Go.Proofs.Ytdlokohmdnkdoaa.G
open Go Go.RowKit
set_option linter.unusedVariables false
set_option linter.unusedSimpArgs false
set_option maxRecDepth 100000 in
set_option maxHeartbeats 4000000 in
theorem haulagelaw20_BagKnown.calls (k : Nat) {m : Nat} {c0 : Nat → Nat} {w0 : World} (hm0 : 0 < m) (B0 : CB m c0 w0) (r : Bool) (H : haulagelaw20_BagKnown.f k = some r) : Calls Try.prog 6 #[] w0 (fun e w_ => ∃ (c_ : Nat → Nat), e = .returned (.bool r) ∧ Ev (fun x => False) c0 w0 c_ w_ ∧ CB m c_ w_) := by
  unfold haulagelaw20_BagKnown.f at H
  have B := B0.mono (show m ≤ m + 10 by omega)
  have E : Ev (fun x => False ∨ m ≤ x) c0 w0 c0 w0 := Ev.refl
  refine enter (N := 215) (l := []) Try.func6 rfl rfl (Nat.le_of_ble_eq_true rfl) fun a F => ?_
  refine wp_seq_k fun K1 hK1 => ?_
  refine reg ?_
  refine q_val F rfl rfl (by decide) (r_assign F rfl) fun a F => ?_
  refine nil ?_
  refine hK1 _ _ ?_
  refine wp_seq_k fun K2 hK2 => ?_
  refine wp_seq_k fun K3 hK3 => ?_
  refine reg ?_
  replace H := bind_some H
  obtain ⟨t4, q5, H⟩ := H
  refine q_call F rfl rfl (by decide) (r_call F Try.func8 rfl (by kernel_rfl) rfl) (haulagelaw20_known.calls (m := m + 10) (Nat.add_pos_left hm0 _) B _ q5) ?_
  rintro e w7 ⟨c6, rfl, E8, B9⟩
  refine ⟨_, rfl, fun a F => ?_⟩
  have B := B9
  replace E := E.trans E8 (fun x q => q.elim)
  refine q_val F rfl rfl (by decide) (r_not F rfl) fun a F => ?_
  refine nil ?_
  refine hK3 _ _ ?_
  by_cases hb11 : t4 = true
  · replace H := (if_pos hb11).symm.trans H
    refine wp_cond_false ((F.ev rfl).trans (congrArg Value.bool (congrArg not hb11))) ?_
    refine wp_skip ?_
    refine hK2 _ _ ?_
    refine wp_seq_k fun K13 hK13 => ?_
    refine reg ?_
    replace H := bind_some H
    obtain ⟨t14, q15, H⟩ := H
    refine q_call F rfl rfl (by decide) (r_call F Try.func9 rfl (by kernel_rfl) rfl) (bag_New.calls (m := m + 10) (Nat.add_pos_left hm0 _) B (m + 1) (Nat.add_lt_add_left (by decide) m) (m + 2) (Nat.add_lt_add_left (by decide) m) _ q15) ?_
    rintro e w17 ⟨c16, p20, rfl, E18, B19, h21⟩
    refine ⟨_, rfl, fun a F => ?_⟩
    have B := B19
    replace E := E.trans E18 (fun x q => q.elim)
    refine q_val F rfl rfl (by decide) (r_assign F rfl) fun a F => ?_
    refine nil ?_
    refine hK13 _ _ ?_
    refine wp_seq_k fun K23 hK23 => ?_
    refine reg ?_
    refine q_val F rfl rfl (by decide) (r_move F rfl) fun a F => ?_
    refine q_eff F rfl rfl (by decide) (e_buildSliceF (n := 1) (e := 5) (c := c16) (k := (Kint .u8)) (i := 0) F [(0, .int .u8 97)] [.int .u8 97] ([97] : List Int) (by exact ⟨rfl, rfl, trivial⟩) (fun w => by kernel_rfl) rfl (by decide) rfl ⟨rfl, trivial⟩ (fun q => q) (m + 3)) ?_
    rintro v w26 a ⟨c25, A27, C28, rfl, E29, h30, B31, hf24⟩ F
    replace B := B31 _ B (Nat.add_lt_add_left (by decide) m)
    replace h21 := BG.ev h21 E29 (fun q => q.elim) (fun q => q.elim) (fun q => q.elim)
    replace E := E.trans E29 (fun x q => q.elim)
    refine q_eff F rfl rfl (by decide) (e_convb F Try.underlying27 Try.underlying5 rfl h30 hf24) ?_
    rintro v w32 a ⟨rfl, E33, h30, Z34⟩ F
    replace B := B.size Z34
    replace h21 := BG.ev h21 E33 (ne_mm (by decide)) (ne_mm (by decide)) ne_zm
    replace E := E.trans E33 (fun x (q : x = m + 3) => Or.inr (le_col q))
    obtain ⟨c35, hc35⟩ : ∃ c', c' = fun k => if c25 k = m + 3 then 0 else c25 k := ⟨_, rfl⟩
    replace h21 := BG.rc (c' := c35) (j' := m + 1) (i' := m + 2) h21 (fun k_ hk_ => by rw [hc35]; show (if c25 k_ = m + 3 then 0 else c25 k_) = _; rw [hk_]; ((repeat' split) <;> omega)) (fun k_ hk_ => by rw [hc35]; show (if c25 k_ = m + 3 then 0 else c25 k_) = _; rw [hk_]; ((repeat' split) <;> omega)) (fun k_ hk_ => by rw [hc35]; show (if c25 k_ = m + 3 then 0 else c25 k_) = _; rw [hk_]; ((repeat' split) <;> omega))
    replace h30 := SL.rc (c' := c35) (j' := 0) (i' := 0) h30.r (fun k_ hk_ => by rw [hc35]; show (if c25 k_ = m + 3 then 0 else c25 k_) = _; rw [hk_]; ((repeat' split) <;> omega)) (fun k_ hk_ => by rw [hc35]; show (if c25 k_ = m + 3 then 0 else c25 k_) = _; rw [hk_]; ((repeat' split) <;> omega))
    have E : Ev (fun x => False ∨ m ≤ x) c0 w0 c35 w32 := by rw [hc35]; exact E.freeze B0 (by omega)
    have B : CB (m + 10) c35 w32 := by rw [hc35]; exact B.freeze (by omega)
    replace H := bind_some H
    obtain ⟨t36, q37, H⟩ := H
    refine q_call F rfl rfl (by decide) (r_call F Try.func12 rfl (by kernel_rfl) rfl) (bag_Bag_Send.calls (m := m + 10) (Nat.add_pos_left hm0 _) B h21 h30 ⟨(Nat.add_pos_left hm0 _), (Nat.add_lt_add_left (by decide) m)⟩ ⟨(Nat.add_pos_left hm0 _), (Nat.add_lt_add_left (by decide) m), (ne_mm (by decide))⟩ _ q37) ?_
    rintro e w39 ⟨c38, rfl, E40, B41, h42⟩
    refine ⟨_, rfl, fun a F => ?_⟩
    have B := B41
    replace h30 := SL.ev h30 E40 (nor ne_zm ne_zm) (nor ne_zm ne_zm)
    replace E := E.trans E40 (fun x (q : x = m + 1 ∨ x = m + 2) => q.elim (fun q => Or.inr (le_col q)) (fun q => Or.inr (le_col q)))
    refine nil ?_
    refine hK23 _ _ ?_
    replace F : Fr a 215 [(1, .pointer p20)] := F.sub ⟨rfl, trivial⟩
    refine wp_seq_k fun K44 hK44 => ?_
    refine reg ?_
    refine q_val F rfl rfl (by decide) (r_move F rfl) fun a F => ?_
    refine q_eff F rfl rfl (by decide) (e_buildSliceF (n := 1) (e := 5) (c := c38) (k := (Kint .u8)) (i := 0) F [(0, .int .u8 98)] [.int .u8 98] ([98] : List Int) (by exact ⟨rfl, rfl, trivial⟩) (fun w => by kernel_rfl) rfl (by decide) rfl ⟨rfl, trivial⟩ (fun q => q) (m + 4)) ?_
    rintro v w47 a ⟨c46, A48, C49, rfl, E50, h51, B52, hf45⟩ F
    replace B := B52 _ B (Nat.add_lt_add_left (by decide) m)
    replace h30 := SL.ev h30 E50 (fun q => q.elim) (fun q => q.elim)
    replace h42 := BG.ev h42 E50 (fun q => q.elim) (fun q => q.elim) (fun q => q.elim)
    replace E := E.trans E50 (fun x q => q.elim)
    refine q_eff F rfl rfl (by decide) (e_convb F Try.underlying27 Try.underlying5 rfl h51 hf45) ?_
    rintro v w53 a ⟨rfl, E54, h51, Z55⟩ F
    replace B := B.size Z55
    replace h30 := SL.ev h30 E54 ne_zm ne_zm
    replace h42 := BG.ev h42 E54 (ne_mm (by decide)) (ne_mm (by decide)) ne_zm
    replace E := E.trans E54 (fun x (q : x = m + 4) => Or.inr (le_col q))
    obtain ⟨c56, hc56⟩ : ∃ c', c' = fun k => if c46 k = m + 4 then 0 else c46 k := ⟨_, rfl⟩
    replace h30 := SL.rc (c' := c56) (j' := 0) (i' := 0) h30 (fun k_ hk_ => by rw [hc56]; show (if c46 k_ = m + 4 then 0 else c46 k_) = _; rw [hk_]; ((repeat' split) <;> omega)) (fun k_ hk_ => by rw [hc56]; show (if c46 k_ = m + 4 then 0 else c46 k_) = _; rw [hk_]; ((repeat' split) <;> omega))
    replace h42 := BG.rc (c' := c56) (j' := m + 1) (i' := m + 2) h42 (fun k_ hk_ => by rw [hc56]; show (if c46 k_ = m + 4 then 0 else c46 k_) = _; rw [hk_]; ((repeat' split) <;> omega)) (fun k_ hk_ => by rw [hc56]; show (if c46 k_ = m + 4 then 0 else c46 k_) = _; rw [hk_]; ((repeat' split) <;> omega)) (fun k_ hk_ => by rw [hc56]; show (if c46 k_ = m + 4 then 0 else c46 k_) = _; rw [hk_]; ((repeat' split) <;> omega))
    replace h51 := SL.rc (c' := c56) (j' := 0) (i' := 0) h51.r (fun k_ hk_ => by rw [hc56]; show (if c46 k_ = m + 4 then 0 else c46 k_) = _; rw [hk_]; ((repeat' split) <;> omega)) (fun k_ hk_ => by rw [hc56]; show (if c46 k_ = m + 4 then 0 else c46 k_) = _; rw [hk_]; ((repeat' split) <;> omega))
    have E : Ev (fun x => False ∨ m ≤ x) c0 w0 c56 w53 := by rw [hc56]; exact E.freeze B0 (by omega)
    have B : CB (m + 10) c56 w53 := by rw [hc56]; exact B.freeze (by omega)
    replace H := bind_some H
    obtain ⟨t57, q58, H⟩ := H
    refine q_call F rfl rfl (by decide) (r_call F Try.func12 rfl (by kernel_rfl) rfl) (bag_Bag_Send.calls (m := m + 10) (Nat.add_pos_left hm0 _) B h42 h51 ⟨(Nat.add_pos_left hm0 _), (Nat.add_lt_add_left (by decide) m)⟩ ⟨(Nat.add_pos_left hm0 _), (Nat.add_lt_add_left (by decide) m), (ne_mm (by decide))⟩ _ q58) ?_
    rintro e w60 ⟨c59, rfl, E61, B62, h63⟩
    refine ⟨_, rfl, fun a F => ?_⟩
    have B := B62
    replace h30 := SL.ev h30 E61 (nor ne_zm ne_zm) (nor ne_zm ne_zm)
    replace h51 := SL.ev h51 E61 (nor ne_zm ne_zm) (nor ne_zm ne_zm)
    replace E := E.trans E61 (fun x (q : x = m + 1 ∨ x = m + 2) => q.elim (fun q => Or.inr (le_col q)) (fun q => Or.inr (le_col q)))
    refine nil ?_
    refine hK44 _ _ ?_
    refine wp_seq_k fun K65 hK65 => ?_
    refine reg ?_
    refine q_val F rfl rfl (by decide) (r_move F rfl) fun a F => ?_
    replace H := bind_some H
    obtain ⟨t66, q67, H⟩ := H
    refine q_call F rfl rfl (by decide) (r_call F Try.func12 rfl (by kernel_rfl) rfl) (bag_Bag_Send.calls (m := m + 10) (Nat.add_pos_left hm0 _) B h63 SL.nil ⟨(Nat.add_pos_left hm0 _), (Nat.add_lt_add_left (by decide) m)⟩ ⟨(Nat.add_pos_left hm0 _), (Nat.add_lt_add_left (by decide) m), (ne_mm (by decide))⟩ _ q67) ?_
    rintro e w69 ⟨c68, rfl, E70, B71, h72⟩
    refine ⟨_, rfl, fun a F => ?_⟩
    have B := B71
    replace h30 := SL.ev h30 E70 (nor ne_zm ne_zm) (nor ne_zm ne_zm)
    replace h51 := SL.ev h51 E70 (nor ne_zm ne_zm) (nor ne_zm ne_zm)
    replace E := E.trans E70 (fun x (q : x = m + 1 ∨ x = m + 2) => q.elim (fun q => Or.inr (le_col q)) (fun q => Or.inr (le_col q)))
    refine nil ?_
    refine hK65 _ _ ?_
    refine wp_seq_k fun K74 hK74 => ?_
    refine reg ?_
    refine q_val F rfl rfl (by decide) (r_move F rfl) fun a F => ?_
    replace H := bind_some H
    obtain ⟨t75, q76, H⟩ := H
    refine q_call F rfl rfl (by decide) (r_call F Try.func17 rfl (by kernel_rfl) rfl) (bag_Bag_Twice.calls (m := m + 10) (Nat.add_pos_left hm0 _) B h72 ⟨(Nat.add_pos_left hm0 _), (Nat.add_lt_add_left (by decide) m)⟩ ⟨(Nat.add_pos_left hm0 _), (Nat.add_lt_add_left (by decide) m), (ne_mm (by decide))⟩ _ q76) ?_
    rintro e w78 ⟨c77, rfl, E79, B80, h81⟩
    refine ⟨_, rfl, fun a F => ?_⟩
    have B := B80
    replace h30 := SL.ev h30 E79 (nor ne_zm ne_zm) (nor ne_zm ne_zm)
    replace h51 := SL.ev h51 E79 (nor ne_zm ne_zm) (nor ne_zm ne_zm)
    replace E := E.trans E79 (fun x (q : x = m + 1 ∨ x = m + 2) => q.elim (fun q => Or.inr (le_col q)) (fun q => Or.inr (le_col q)))
    refine nil ?_
    refine hK74 _ _ ?_
    replace F : Fr a 215 [(1, .pointer p20)] := F.sub ⟨rfl, trivial⟩
    refine wp_seq_k fun K83 hK83 => ?_
    refine reg ?_
    refine q_val F rfl rfl (by decide) (r_move F rfl) fun a F => ?_
    replace H := bind_some H
    obtain ⟨t84, q85, H⟩ := H
    refine q_call F rfl rfl (by decide) (r_call F Try.func15 rfl (by kernel_rfl) rfl) (bag_Bag_Waiting.calls (m := m + 10) (Nat.add_pos_left hm0 _) B h81 (by omega) (by omega) 0 (Nat.add_pos_left hm0 _) _ q85) ?_
    rintro e w87 ⟨c86, A90, C91, rfl, E88, B89, h92⟩
    refine ⟨_, rfl, fun a F => ?_⟩
    have B := B89
    replace h30 := SL.ev h30 E88 (fun q => q.elim) (fun q => q.elim)
    replace h51 := SL.ev h51 E88 (fun q => q.elim) (fun q => q.elim)
    replace h81 := BG.ev h81 E88 (fun q => q.elim) (fun q => q.elim) (fun q => q.elim)
    replace E := E.trans E88 (fun x q => q.elim)
    refine q_val F rfl rfl (by decide) (r_assign F rfl) fun a F => ?_
    refine nil ?_
    refine hK83 _ _ ?_
    refine wp_seq_k fun K94 hK94 => ?_
    refine wp_seq_k fun K95 hK95 => ?_
    have J157 : ∀ (c158 : Nat → Nat) (w159 : World) (a : Act) (b156 : Bool), Fr a 215 [(1, .pointer p20), (71, .bool b156)] → Ev (fun x => False ∨ m ≤ x) c0 w0 c158 w159 → CB (m + 10) c158 w159 → BG (m + 1) (m + 2) c158 w159 p20 t75.2.2 → haulagelaw20_BagKnown.j1 k t75 b156 = some r → K95 a w159 := by
      intro c158 w159 a b156 F E B h81 H
      unfold haulagelaw20_BagKnown.j1 at H
      refine hK95 _ _ ?_
      by_cases hb160 : b156 = true
      · replace H := (if_pos hb160).symm.trans H
        refine wp_cond_true ((F.ev rfl).trans (congrArg Value.bool hb160)) ?_
        refine wp_seq_k fun K161 hK161 => ?_
        refine reg ?_
        refine q_val F rfl rfl (by decide) (r_assign F rfl) fun a F => ?_
        refine nil ?_
        refine hK161 _ _ ?_
        refine wp_ret ?_
        refine thenR ?_
        replace H := Option.some.inj H
        subst H
        refine out1 F rfl rfl ?_
        exact ⟨fun b_ => (fun x_ => if x_ < m then x_ else 0) (c158 b_), rfl, E.leave B0 (fun x_ => if x_ < m then x_ else 0) (by intro x_ hx_; show (if x_ < m then x_ else 0) = x_; ((repeat' split) <;> omega)), (fun b_ hb_ => by show (if (c158 b_) < m then (c158 b_) else 0) < m; ((repeat' split) <;> omega))⟩
      · replace H := (if_neg hb160).symm.trans H
        refine wp_cond_false ((F.ev rfl).trans (congrArg Value.bool (bfalse hb160))) ?_
        refine wp_skip ?_
        refine hK94 _ _ ?_
        refine wp_seq_k fun K162 hK162 => ?_
        refine reg ?_
        refine q_val F rfl rfl (by decide) (r_move F rfl) fun a F => ?_
        replace H := bind_some H
        obtain ⟨t163, q164, H⟩ := H
        refine q_call F rfl rfl (by decide) (r_call F Try.func18 rfl (by kernel_rfl) rfl) (bag_Bag_Deliver.calls (m := m + 10) (Nat.add_pos_left hm0 _) B h81 ⟨(Nat.add_pos_left hm0 _), (Nat.add_lt_add_left (by decide) m)⟩ ⟨(Nat.add_pos_left hm0 _), (Nat.add_lt_add_left (by decide) m), (ne_mm (by decide))⟩ _ q164) ?_
        rintro e w166 ⟨c165, A169, C170, rfl, E167, B168, h171, h172⟩
        refine ⟨_, rfl, fun a F => ?_⟩
        have B := B168
        replace E := E.trans E167 (fun x (q : x = m + 1 ∨ x = m + 2) => q.elim (fun q => Or.inr (le_col q)) (fun q => Or.inr (le_col q)))
        refine q_val F rfl rfl (by decide) (r_move F rfl) fun a F => ?_
        refine q_val F rfl rfl (by decide) (r_extract F rfl rfl) fun a F => ?_
        refine q_val F rfl rfl (by decide) (r_extract F rfl rfl) fun a F => ?_
        refine q_eff F rfl rfl (by decide) (e_alloc F zv_40 c165 (m + 5)) ?_
        rintro v w175 a ⟨c174, qa176, rfl, E177, h178, B179⟩ F
        replace B := B179 _ B (Nat.add_lt_add_left (by decide) m)
        replace h171 := SL.ev h171 E177 (fun q => q.elim) (fun q => q.elim)
        replace h172 := BG.ev h172 E177 (fun q => q.elim) (fun q => q.elim) (fun q => q.elim)
        replace E := E.trans E177 (fun x q => q.elim)
        replace h178 : AT true (m + 5) c174 w175 qa176 [.int .i64 0, .int .i64 0, .int .i64 0, .slice none 0 0] := h178
        refine q_eff0 F rfl rfl (e_storeN0 (us := [.int .i64 t163.1.Number, .int .i64 t163.1.From, .int .i64 t163.1.To, .slice A169 t163.1.Data.length C170]) F rfl rfl sz_40 h178 (Nat.le_of_ble_eq_true rfl) (one_all rfl)) ?_
        rintro w181 a ⟨E182, h178, Z183⟩ F
        replace B := B.size Z183
        replace h171 := SL.ev h171 E182 ne_zm ne_zm
        replace h172 := BG.ev h172 E182 (ne_mm (by decide)) (ne_mm (by decide)) ne_zm
        replace E := E.trans E182 (fun x (q : x = m + 5) => Or.inr (le_col q))
        replace h178 : AT true (m + 5) c174 w181 qa176 [.int .i64 t163.1.Number, .int .i64 t163.1.From, .int .i64 t163.1.To, .slice A169 t163.1.Data.length C170] := h178
        refine q_val F rfl rfl (by decide) (r_assign F rfl) fun a F => ?_
        refine nil ?_
        refine hK162 _ _ ?_
        refine wp_seq_k fun K184 hK184 => ?_
        refine reg ?_
        refine q_val F rfl rfl (by decide) (r_move F rfl) fun a F => ?_
        replace H := bind_some H
        obtain ⟨t185, q186, H⟩ := H
        refine q_call F rfl rfl (by decide) (r_call F Try.func18 rfl (by kernel_rfl) rfl) (bag_Bag_Deliver.calls (m := m + 10) (Nat.add_pos_left hm0 _) B h172 ⟨(Nat.add_pos_left hm0 _), (Nat.add_lt_add_left (by decide) m)⟩ ⟨(Nat.add_pos_left hm0 _), (Nat.add_lt_add_left (by decide) m), (ne_mm (by decide))⟩ _ q186) ?_
        rintro e w188 ⟨c187, A191, C192, rfl, E189, B190, h193, h194⟩
        refine ⟨_, rfl, fun a F => ?_⟩
        have B := B190
        replace h171 := SL.ev h171 E189 (nor ne_zm ne_zm) (nor ne_zm ne_zm)
        replace h178 := AT.ev h178 E189 (nor (ne_mm (by decide)) (ne_mm (by decide)))
        replace E := E.trans E189 (fun x (q : x = m + 1 ∨ x = m + 2) => q.elim (fun q => Or.inr (le_col q)) (fun q => Or.inr (le_col q)))
        refine q_val F rfl rfl (by decide) (r_move F rfl) fun a F => ?_
        refine q_val F rfl rfl (by decide) (r_extract F rfl rfl) fun a F => ?_
        refine q_val F rfl rfl (by decide) (r_extract F rfl rfl) fun a F => ?_
        refine q_eff F rfl rfl (by decide) (e_alloc F zv_40 c187 (m + 6)) ?_
        rintro v w197 a ⟨c196, qa198, rfl, E199, h200, B201⟩ F
        replace B := B201 _ B (Nat.add_lt_add_left (by decide) m)
        replace h171 := SL.ev h171 E199 (fun q => q.elim) (fun q => q.elim)
        replace h178 := AT.ev h178 E199 (fun q => q.elim)
        replace h193 := SL.ev h193 E199 (fun q => q.elim) (fun q => q.elim)
        replace h194 := BG.ev h194 E199 (fun q => q.elim) (fun q => q.elim) (fun q => q.elim)
        replace E := E.trans E199 (fun x q => q.elim)
        replace h200 : AT true (m + 6) c196 w197 qa198 [.int .i64 0, .int .i64 0, .int .i64 0, .slice none 0 0] := h200
        refine q_eff0 F rfl rfl (e_storeN0 (us := [.int .i64 t185.1.Number, .int .i64 t185.1.From, .int .i64 t185.1.To, .slice A191 t185.1.Data.length C192]) F rfl rfl sz_40 h200 (Nat.le_of_ble_eq_true rfl) (one_all rfl)) ?_
        rintro w203 a ⟨E204, h200, Z205⟩ F
        replace B := B.size Z205
        replace h171 := SL.ev h171 E204 ne_zm ne_zm
        replace h178 := AT.ev h178 E204 (ne_mm (by decide))
        replace h193 := SL.ev h193 E204 ne_zm ne_zm
        replace h194 := BG.ev h194 E204 (ne_mm (by decide)) (ne_mm (by decide)) ne_zm
        replace E := E.trans E204 (fun x (q : x = m + 6) => Or.inr (le_col q))
        replace h200 : AT true (m + 6) c196 w203 qa198 [.int .i64 t185.1.Number, .int .i64 t185.1.From, .int .i64 t185.1.To, .slice A191 t185.1.Data.length C192] := h200
        refine q_val F rfl rfl (by decide) (r_assign F rfl) fun a F => ?_
        refine nil ?_
        refine hK184 _ _ ?_
        replace F : Fr a 215 [(1, .pointer p20), (3, .pointer (some qa176)), (4, .int .i64 t163.2.1), (6, .int .i64 t185.2.1)] := F.sub ⟨rfl, rfl, rfl, rfl, trivial⟩
        refine wp_seq_k fun K206 hK206 => ?_
        refine reg ?_
        refine q_val F rfl rfl (by decide) (r_move F rfl) fun a F => ?_
        replace H := bind_some H
        obtain ⟨t207, q208, H⟩ := H
        refine q_call F rfl rfl (by decide) (r_call F Try.func27 rfl (by kernel_rfl) rfl) (bag_Bag_Drop.calls (m := m + 10) (Nat.add_pos_left hm0 _) B h194 ⟨(Nat.add_pos_left hm0 _), (Nat.add_lt_add_left (by decide) m)⟩ ⟨(Nat.add_pos_left hm0 _), (Nat.add_lt_add_left (by decide) m), (ne_mm (by decide))⟩ _ q208) ?_
        rintro e w210 ⟨c209, rfl, E211, B212, h213⟩
        refine ⟨_, rfl, fun a F => ?_⟩
        have B := B212
        replace h171 := SL.ev h171 E211 (nor ne_zm ne_zm) (nor ne_zm ne_zm)
        replace h178 := AT.ev h178 E211 (nor (ne_mm (by decide)) (ne_mm (by decide)))
        replace h193 := SL.ev h193 E211 (nor ne_zm ne_zm) (nor ne_zm ne_zm)
        replace h200 := AT.ev h200 E211 (nor (ne_mm (by decide)) (ne_mm (by decide)))
        replace E := E.trans E211 (fun x (q : x = m + 1 ∨ x = m + 2) => q.elim (fun q => Or.inr (le_col q)) (fun q => Or.inr (le_col q)))
        refine q_val F rfl rfl (by decide) (r_assign F rfl) fun a F => ?_
        refine nil ?_
        refine hK206 _ _ ?_
        refine wp_seq_k fun K215 hK215 => ?_
        refine reg ?_
        refine q_val F rfl rfl (by decide) (r_move F rfl) fun a F => ?_
        replace H := bind_some H
        obtain ⟨t216, q217, H⟩ := H
        refine q_call F rfl rfl (by decide) (r_call F Try.func10 rfl (by kernel_rfl) rfl) (bag_Bag_Len.calls (m := m + 10) (Nat.add_pos_left hm0 _) B h213 (Nat.add_lt_add_left (by decide) m) ⟨(Nat.add_lt_add_left (by decide) m), (ne_mm (by decide))⟩ _ q217) ?_
        rintro e w219 ⟨c218, rfl, E220, B221⟩
        refine ⟨_, rfl, fun a F => ?_⟩
        have B := B221
        replace h171 := SL.ev h171 E220 (fun q => q.elim) (fun q => q.elim)
        replace h178 := AT.ev h178 E220 (fun q => q.elim)
        replace h193 := SL.ev h193 E220 (fun q => q.elim) (fun q => q.elim)
        replace h200 := AT.ev h200 E220 (fun q => q.elim)
        replace h213 := BG.ev h213 E220 (fun q => q.elim) (fun q => q.elim) (fun q => q.elim)
        replace E := E.trans E220 (fun x q => q.elim)
        refine q_val F rfl rfl (by decide) (r_assign F rfl) fun a F => ?_
        refine nil ?_
        refine hK215 _ _ ?_
        refine wp_seq_k fun K223 hK223 => ?_
        refine reg ?_
        refine q_val F rfl rfl (by decide) (r_move F rfl) fun a F => ?_
        replace H := bind_some H
        obtain ⟨t224, q225, H⟩ := H
        refine q_call F rfl rfl (by decide) (r_call F Try.func17 rfl (by kernel_rfl) rfl) (bag_Bag_Twice.calls (m := m + 10) (Nat.add_pos_left hm0 _) B h213 ⟨(Nat.add_pos_left hm0 _), (Nat.add_lt_add_left (by decide) m)⟩ ⟨(Nat.add_pos_left hm0 _), (Nat.add_lt_add_left (by decide) m), (ne_mm (by decide))⟩ _ q225) ?_
        rintro e w227 ⟨c226, rfl, E228, B229, h230⟩
        refine ⟨_, rfl, fun a F => ?_⟩
        have B := B229
        replace h171 := SL.ev h171 E228 (nor ne_zm ne_zm) (nor ne_zm ne_zm)
        replace h178 := AT.ev h178 E228 (nor (ne_mm (by decide)) (ne_mm (by decide)))
        replace h193 := SL.ev h193 E228 (nor ne_zm ne_zm) (nor ne_zm ne_zm)
        replace h200 := AT.ev h200 E228 (nor (ne_mm (by decide)) (ne_mm (by decide)))
        replace E := E.trans E228 (fun x (q : x = m + 1 ∨ x = m + 2) => q.elim (fun q => Or.inr (le_col q)) (fun q => Or.inr (le_col q)))
        refine q_val F rfl rfl (by decide) (r_move F rfl) fun a F => ?_
        refine q_val F rfl rfl (by decide) (r_extract F rfl rfl) fun a F => ?_
        refine q_val F rfl rfl (by decide) (r_extract F rfl rfl) fun a F => ?_
        refine q_val F rfl rfl (by decide) (r_assign F rfl) fun a F => ?_
        refine q_val F rfl rfl (by decide) (r_assign F rfl) fun a F => ?_
        refine nil ?_
        refine hK223 _ _ ?_
        replace F : Fr a 215 [(1, .pointer p20), (3, .pointer (some qa176)), (4, .int .i64 t163.2.1), (6, .int .i64 t185.2.1), (7, .int .i64 t207.1), (8, .int .i64 t216), (10, .int .i64 t224.2.1)] := F.sub ⟨rfl, rfl, rfl, rfl, rfl, rfl, rfl, trivial⟩
        refine wp_seq_k fun K232 hK232 => ?_
        refine reg ?_
        refine q_val F rfl rfl (by decide) (r_move F rfl) fun a F => ?_
        replace H := bind_some H
        obtain ⟨t233, q234, H⟩ := H
        refine q_call F rfl rfl (by decide) (r_call F Try.func12 rfl (by kernel_rfl) rfl) (bag_Bag_Send.calls (m := m + 10) (Nat.add_pos_left hm0 _) B h230 SL.nil ⟨(Nat.add_pos_left hm0 _), (Nat.add_lt_add_left (by decide) m)⟩ ⟨(Nat.add_pos_left hm0 _), (Nat.add_lt_add_left (by decide) m), (ne_mm (by decide))⟩ _ q234) ?_
        rintro e w236 ⟨c235, rfl, E237, B238, h239⟩
        refine ⟨_, rfl, fun a F => ?_⟩
        have B := B238
        replace h171 := SL.ev h171 E237 (nor ne_zm ne_zm) (nor ne_zm ne_zm)
        replace h178 := AT.ev h178 E237 (nor (ne_mm (by decide)) (ne_mm (by decide)))
        replace h193 := SL.ev h193 E237 (nor ne_zm ne_zm) (nor ne_zm ne_zm)
        replace h200 := AT.ev h200 E237 (nor (ne_mm (by decide)) (ne_mm (by decide)))
        replace E := E.trans E237 (fun x (q : x = m + 1 ∨ x = m + 2) => q.elim (fun q => Or.inr (le_col q)) (fun q => Or.inr (le_col q)))
        refine q_val F rfl rfl (by decide) (r_move F rfl) fun a F => ?_
        refine q_val F rfl rfl (by decide) (r_extract F rfl rfl) fun a F => ?_
        refine q_val F rfl rfl (by decide) (r_extract F rfl rfl) fun a F => ?_
        refine q_val F rfl rfl (by decide) (r_assign F rfl) fun a F => ?_
        refine q_val F rfl rfl (by decide) (r_assign F rfl) fun a F => ?_
        refine nil ?_
        refine hK232 _ _ ?_
        refine wp_seq_k fun K241 hK241 => ?_
        refine reg ?_
        refine q_val F rfl rfl (by decide) (r_move F rfl) fun a F => ?_
        replace H := ifN H
        obtain ⟨g242, H⟩ := H
        refine q_eff F rfl rfl (by decide) (e_make (k := (Kint .u8)) (x0 := 0) F et_27 rfl rfl (fun _ _ _ => rfl) (by decide) g242 c235 0 0) ?_
        rintro v w244 a ⟨c243, A245, C246, rfl, E247, h248, B249⟩ F
        replace B := B249 _ B (Nat.add_pos_left hm0 _)
        replace h171 := SL.ev h171 E247 (fun q => q.elim) (fun q => q.elim)
        replace h178 := AT.ev h178 E247 (fun q => q.elim)
        replace h193 := SL.ev h193 E247 (fun q => q.elim) (fun q => q.elim)
        replace h200 := AT.ev h200 E247 (fun q => q.elim)
        replace h239 := BG.ev h239 E247 (fun q => q.elim) (fun q => q.elim) (fun q => q.elim)
        replace E := E.trans E247 (fun x q => q.elim)
        replace H := bind_some H
        obtain ⟨t250, q251, H⟩ := H
        refine q_call F rfl rfl (by decide) (r_call F Try.func12 rfl (by kernel_rfl) rfl) (bag_Bag_Send.calls (m := m + 10) (Nat.add_pos_left hm0 _) B h239 h248.r ⟨(Nat.add_pos_left hm0 _), (Nat.add_lt_add_left (by decide) m)⟩ ⟨(Nat.add_pos_left hm0 _), (Nat.add_lt_add_left (by decide) m), (ne_mm (by decide))⟩ _ q251) ?_
        rintro e w253 ⟨c252, rfl, E254, B255, h256⟩
        refine ⟨_, rfl, fun a F => ?_⟩
        have B := B255
        replace h171 := SL.ev h171 E254 (nor ne_zm ne_zm) (nor ne_zm ne_zm)
        replace h178 := AT.ev h178 E254 (nor (ne_mm (by decide)) (ne_mm (by decide)))
        replace h193 := SL.ev h193 E254 (nor ne_zm ne_zm) (nor ne_zm ne_zm)
        replace h200 := AT.ev h200 E254 (nor (ne_mm (by decide)) (ne_mm (by decide)))
        replace h248 := SL.ev h248 E254 (nor ne_zm ne_zm) (nor ne_zm ne_zm)
        replace E := E.trans E254 (fun x (q : x = m + 1 ∨ x = m + 2) => q.elim (fun q => Or.inr (le_col q)) (fun q => Or.inr (le_col q)))
        refine q_val F rfl rfl (by decide) (r_move F rfl) fun a F => ?_
        refine q_val F rfl rfl (by decide) (r_extract F rfl rfl) fun a F => ?_
        refine q_val F rfl rfl (by decide) (r_extract F rfl rfl) fun a F => ?_
        refine q_val F rfl rfl (by decide) (r_assign F rfl) fun a F => ?_
        refine q_val F rfl rfl (by decide) (r_assign F rfl) fun a F => ?_
        refine nil ?_
        refine hK241 _ _ ?_
        replace F : Fr a 215 [(1, .pointer p20), (3, .pointer (some qa176)), (4, .int .i64 t163.2.1), (6, .int .i64 t185.2.1), (7, .int .i64 t207.1), (8, .int .i64 t216), (10, .int .i64 t224.2.1), (12, .int .i64 t233.2.1), (14, .int .i64 t250.2.1)] := F.sub ⟨rfl, rfl, rfl, rfl, rfl, rfl, rfl, rfl, rfl, trivial⟩
        refine wp_seq_k fun K258 hK258 => ?_
        refine reg ?_
        refine q_val F rfl rfl (by decide) (r_move F rfl) fun a F => ?_
        replace H := ifN H
        obtain ⟨g259, H⟩ := H
        refine q_eff F rfl rfl (by decide) (e_make (k := (Kint .u8)) (x0 := 0) F et_27 rfl rfl (fun _ _ _ => rfl) (by decide) g259 c252 0 0) ?_
        rintro v w261 a ⟨c260, A262, C263, rfl, E264, h265, B266⟩ F
        replace B := B266 _ B (Nat.add_pos_left hm0 _)
        replace h171 := SL.ev h171 E264 (fun q => q.elim) (fun q => q.elim)
        replace h178 := AT.ev h178 E264 (fun q => q.elim)
        replace h193 := SL.ev h193 E264 (fun q => q.elim) (fun q => q.elim)
        replace h200 := AT.ev h200 E264 (fun q => q.elim)
        replace h248 := SL.ev h248 E264 (fun q => q.elim) (fun q => q.elim)
        replace h256 := BG.ev h256 E264 (fun q => q.elim) (fun q => q.elim) (fun q => q.elim)
        replace E := E.trans E264 (fun x q => q.elim)
        replace H := bind_some H
        obtain ⟨t267, q268, H⟩ := H
        refine q_call F rfl rfl (by decide) (r_call F Try.func12 rfl (by kernel_rfl) rfl) (bag_Bag_Send.calls (m := m + 10) (Nat.add_pos_left hm0 _) B h256 h265.r ⟨(Nat.add_pos_left hm0 _), (Nat.add_lt_add_left (by decide) m)⟩ ⟨(Nat.add_pos_left hm0 _), (Nat.add_lt_add_left (by decide) m), (ne_mm (by decide))⟩ _ q268) ?_
        rintro e w270 ⟨c269, rfl, E271, B272, h273⟩
        refine ⟨_, rfl, fun a F => ?_⟩
        have B := B272
        replace h171 := SL.ev h171 E271 (nor ne_zm ne_zm) (nor ne_zm ne_zm)
        replace h178 := AT.ev h178 E271 (nor (ne_mm (by decide)) (ne_mm (by decide)))
        replace h193 := SL.ev h193 E271 (nor ne_zm ne_zm) (nor ne_zm ne_zm)
        replace h200 := AT.ev h200 E271 (nor (ne_mm (by decide)) (ne_mm (by decide)))
        replace h248 := SL.ev h248 E271 (nor ne_zm ne_zm) (nor ne_zm ne_zm)
        replace h265 := SL.ev h265 E271 (nor ne_zm ne_zm) (nor ne_zm ne_zm)
        replace E := E.trans E271 (fun x (q : x = m + 1 ∨ x = m + 2) => q.elim (fun q => Or.inr (le_col q)) (fun q => Or.inr (le_col q)))
        refine q_val F rfl rfl (by decide) (r_move F rfl) fun a F => ?_
        refine q_val F rfl rfl (by decide) (r_extract F rfl rfl) fun a F => ?_
        refine q_val F rfl rfl (by decide) (r_extract F rfl rfl) fun a F => ?_
        refine q_val F rfl rfl (by decide) (r_assign F rfl) fun a F => ?_
        refine q_val F rfl rfl (by decide) (r_assign F rfl) fun a F => ?_
        refine nil ?_
        refine hK258 _ _ ?_
        refine wp_seq_k fun K275 hK275 => ?_
        refine wp_seq_k fun K276 hK276 => ?_
        have J354 : ∀ (c355 : Nat → Nat) (w356 : World) (a : Act) (b353 : Bool), Fr a 215 [(1, .pointer p20), (152, .bool b353)] → Ev (fun x => False ∨ m ≤ x) c0 w0 c355 w356 → CB (m + 10) c355 w356 → BG (m + 1) (m + 2) c355 w356 p20 t267.2.2 → haulagelaw20_BagKnown.j2 t267 b353 = some r → K276 a w356 := by
          intro c355 w356 a b353 F E B h273 H
          unfold haulagelaw20_BagKnown.j2 at H
          refine hK276 _ _ ?_
          by_cases hb357 : b353 = true
          · replace H := (if_pos hb357).symm.trans H
            refine wp_cond_true ((F.ev rfl).trans (congrArg Value.bool hb357)) ?_
            refine wp_seq_k fun K358 hK358 => ?_
            refine reg ?_
            refine q_val F rfl rfl (by decide) (r_assign F rfl) fun a F => ?_
            refine nil ?_
            refine hK358 _ _ ?_
            refine wp_ret ?_
            refine thenR ?_
            replace H := Option.some.inj H
            subst H
            refine out1 F rfl rfl ?_
            exact ⟨fun b_ => (fun x_ => if x_ < m then x_ else 0) (c355 b_), rfl, E.leave B0 (fun x_ => if x_ < m then x_ else 0) (by intro x_ hx_; show (if x_ < m then x_ else 0) = x_; ((repeat' split) <;> omega)), (fun b_ hb_ => by show (if (c355 b_) < m then (c355 b_) else 0) < m; ((repeat' split) <;> omega))⟩
          · replace H := (if_neg hb357).symm.trans H
            refine wp_cond_false ((F.ev rfl).trans (congrArg Value.bool (bfalse hb357))) ?_
            refine wp_skip ?_
            refine hK275 _ _ ?_
            refine wp_seq_k fun K359 hK359 => ?_
            refine wp_seq_k fun K360 hK360 => ?_
            refine reg ?_
            refine q_val F rfl rfl (by decide) (r_move F rfl) fun a F => ?_
            replace H := bind_some H
            obtain ⟨t361, q362, H⟩ := H
            refine q_call F rfl rfl (by decide) (r_call F Try.func29 rfl (by kernel_rfl) rfl) (bag_Bag_Counts.calls (m := m + 10) (Nat.add_pos_left hm0 _) B h273 (Nat.add_lt_add_left (by decide) m) ⟨(Nat.add_lt_add_left (by decide) m), (ne_mm (by decide))⟩ _ q362) ?_
            rintro e w364 ⟨c363, rfl, E365, B366⟩
            refine ⟨_, rfl, fun a F => ?_⟩
            have B := B366
            replace h273 := BG.ev h273 E365 (fun q => q.elim) (fun q => q.elim) (fun q => q.elim)
            replace E := E.trans E365 (fun x q => q.elim)
            refine q_val F rfl rfl (by decide) (r_build (v := .agg #[.int .i64 3, .int .i64 1, .int .i64 1, .int .i64 1, .int .i64 0]) F [(0, .int .i64 3), (1, .int .i64 1), (2, .int .i64 1), (3, .int .i64 1)] (by exact ⟨rfl, rfl, rfl, rfl, rfl, rfl, rfl, rfl, trivial⟩) (fun w => by kernel_rfl)) fun a F => ?_
            refine q_val F rfl rfl (by decide) (r_agneq F sqg_63 rfl rfl (sq_63 ..)) fun a F => ?_
            refine nil ?_
            refine hK360 _ _ ?_
            by_cases hb368 : t361 = (api_Traffic.mk 3 1 1 1 0)
            · replace H := (if_pos hb368).symm.trans H
              refine wp_cond_false ((F.ev rfl).trans (congrArg Value.bool (congrArg not (decide_eq_true hb368)))) ?_
              refine wp_skip ?_
              refine hK359 _ _ ?_
              refine wp_seq_k fun K370 hK370 => ?_
              refine reg ?_
              refine q_val F rfl rfl (by decide) (r_assign F rfl) fun a F => ?_
              refine nil ?_
              refine hK370 _ _ ?_
              refine wp_seq_k fun K371 hK371 => ?_
              refine reg ?_
              refine q_val F rfl rfl (by decide) (r_move F rfl) fun a F => ?_
              replace H := bind_some H
              obtain ⟨t372, q373, H⟩ := H
              refine q_call F rfl rfl (by decide) (r_call F Try.func12 rfl (by kernel_rfl) rfl) (bag_Bag_Send.calls (m := m + 10) (Nat.add_pos_left hm0 _) B (BG.nil (j := m) (i := m + 8)) SL.nil ⟨hm0, (Nat.lt_add_of_pos_right (by decide))⟩ ⟨(Nat.add_pos_left hm0 _), (Nat.add_lt_add_left (by decide) m), ne_0m⟩ _ q373) ?_
              rintro e w375 ⟨c374, rfl, E376, B377, h378⟩
              refine ⟨_, rfl, fun a F => ?_⟩
              have B := B377
              replace h273 := BG.ev h273 E376 (nor ne_0m (ne_mm (by decide))) (nor ne_0m (ne_mm (by decide))) (nor (ne_z hm0) ne_zm)
              replace E := E.trans E376 (fun x (q : x = m ∨ x = m + 8) => q.elim (fun q => Or.inr (le_col0 q)) (fun q => Or.inr (le_col q)))
              refine q_val F rfl rfl (by decide) (r_move F rfl) fun a F => ?_
              refine q_val F rfl rfl (by decide) (r_extract F rfl rfl) fun a F => ?_
              refine q_val F rfl rfl (by decide) (r_extract F rfl rfl) fun a F => ?_
              refine q_val F rfl rfl (by decide) (r_assign F rfl) fun a F => ?_
              refine q_val F rfl rfl (by decide) (r_assign F rfl) fun a F => ?_
              refine nil ?_
              refine hK371 _ _ ?_
              replace F : Fr a 215 [(17, .pointer none), (19, .int .i64 t372.2.1)] := F.sub ⟨rfl, rfl, trivial⟩
              refine wp_seq_k fun K380 hK380 => ?_
              refine reg ?_
              refine q_val F rfl rfl (by decide) (r_move F rfl) fun a F => ?_
              replace H := bind_some H
              obtain ⟨t381, q382, H⟩ := H
              refine q_call F rfl rfl (by decide) (r_call F Try.func18 rfl (by kernel_rfl) rfl) (bag_Bag_Deliver.calls (m := m + 10) (Nat.add_pos_left hm0 _) B h378 ⟨hm0, (Nat.lt_add_of_pos_right (by decide))⟩ ⟨(Nat.add_pos_left hm0 _), (Nat.add_lt_add_left (by decide) m), ne_0m⟩ _ q382) ?_
              rintro e w384 ⟨c383, A387, C388, rfl, E385, B386, h389, h390⟩
              refine ⟨_, rfl, fun a F => ?_⟩
              have B := B386
              replace h273 := BG.ev h273 E385 (nor ne_0m (ne_mm (by decide))) (nor ne_0m (ne_mm (by decide))) (nor (ne_z hm0) ne_zm)
              replace E := E.trans E385 (fun x (q : x = m ∨ x = m + 8) => q.elim (fun q => Or.inr (le_col0 q)) (fun q => Or.inr (le_col q)))
              refine q_val F rfl rfl (by decide) (r_move F rfl) fun a F => ?_
              refine q_val F rfl rfl (by decide) (r_extract F rfl rfl) fun a F => ?_
              refine q_val F rfl rfl (by decide) (r_extract F rfl rfl) fun a F => ?_
              refine q_eff F rfl rfl (by decide) (e_alloc F zv_40 c383 (m + 9)) ?_
              rintro v w393 a ⟨c392, qa394, rfl, E395, h396, B397⟩ F
              replace B := B397 _ B (Nat.add_lt_add_left (by decide) m)
              replace h273 := BG.ev h273 E395 (fun q => q.elim) (fun q => q.elim) (fun q => q.elim)
              replace h389 := SL.ev h389 E395 (fun q => q.elim) (fun q => q.elim)
              replace h390 := BG.ev h390 E395 (fun q => q.elim) (fun q => q.elim) (fun q => q.elim)
              replace E := E.trans E395 (fun x q => q.elim)
              replace h396 : AT true (m + 9) c392 w393 qa394 [.int .i64 0, .int .i64 0, .int .i64 0, .slice none 0 0] := h396
              refine q_eff0 F rfl rfl (e_storeN0 (us := [.int .i64 t381.1.Number, .int .i64 t381.1.From, .int .i64 t381.1.To, .slice A387 t381.1.Data.length C388]) F rfl rfl sz_40 h396 (Nat.le_of_ble_eq_true rfl) (one_all rfl)) ?_
              rintro w399 a ⟨E400, h396, Z401⟩ F
              replace B := B.size Z401
              replace h273 := BG.ev h273 E400 (ne_mm (by decide)) (ne_mm (by decide)) ne_zm
              replace h389 := SL.ev h389 E400 ne_zm ne_zm
              replace h390 := BG.ev h390 E400 ne_m0 (ne_mm (by decide)) ne_zm
              replace E := E.trans E400 (fun x (q : x = m + 9) => Or.inr (le_col q))
              replace h396 : AT true (m + 9) c392 w399 qa394 [.int .i64 t381.1.Number, .int .i64 t381.1.From, .int .i64 t381.1.To, .slice A387 t381.1.Data.length C388] := h396
              refine q_val F rfl rfl (by decide) (r_assign F rfl) fun a F => ?_
              refine nil ?_
              refine hK380 _ _ ?_
              refine wp_seq_k fun K402 hK402 => ?_
              refine reg ?_
              refine q_val F rfl rfl (by decide) (r_move F rfl) fun a F => ?_
              replace H := bind_some H
              obtain ⟨t403, q404, H⟩ := H
              refine q_call F rfl rfl (by decide) (r_call F Try.func27 rfl (by kernel_rfl) rfl) (bag_Bag_Drop.calls (m := m + 10) (Nat.add_pos_left hm0 _) B h390 ⟨hm0, (Nat.lt_add_of_pos_right (by decide))⟩ ⟨(Nat.add_pos_left hm0 _), (Nat.add_lt_add_left (by decide) m), ne_0m⟩ _ q404) ?_
              rintro e w406 ⟨c405, rfl, E407, B408, h409⟩
              refine ⟨_, rfl, fun a F => ?_⟩
              have B := B408
              replace h273 := BG.ev h273 E407 (nor ne_0m (ne_mm (by decide))) (nor ne_0m (ne_mm (by decide))) (nor (ne_z hm0) ne_zm)
              replace h389 := SL.ev h389 E407 (nor (ne_z hm0) ne_zm) (nor (ne_z hm0) ne_zm)
              replace h396 := AT.ev h396 E407 (nor ne_0m (ne_mm (by decide)))
              replace E := E.trans E407 (fun x (q : x = m ∨ x = m + 8) => q.elim (fun q => Or.inr (le_col0 q)) (fun q => Or.inr (le_col q)))
              refine q_val F rfl rfl (by decide) (r_assign F rfl) fun a F => ?_
              refine nil ?_
              refine hK402 _ _ ?_
              replace F : Fr a 215 [(17, .pointer none), (19, .int .i64 t372.2.1), (21, .int .i64 t381.2.1), (22, .int .i64 t403.1)] := F.sub ⟨rfl, rfl, rfl, rfl, trivial⟩
              refine wp_seq_k fun K411 hK411 => ?_
              refine reg ?_
              refine q_val F rfl rfl (by decide) (r_move F rfl) fun a F => ?_
              replace H := bind_some H
              obtain ⟨t412, q413, H⟩ := H
              refine q_call F rfl rfl (by decide) (r_call F Try.func17 rfl (by kernel_rfl) rfl) (bag_Bag_Twice.calls (m := m + 10) (Nat.add_pos_left hm0 _) B h409 ⟨hm0, (Nat.lt_add_of_pos_right (by decide))⟩ ⟨(Nat.add_pos_left hm0 _), (Nat.add_lt_add_left (by decide) m), ne_0m⟩ _ q413) ?_
              rintro e w415 ⟨c414, rfl, E416, B417, h418⟩
              refine ⟨_, rfl, fun a F => ?_⟩
              have B := B417
              replace h273 := BG.ev h273 E416 (nor ne_0m (ne_mm (by decide))) (nor ne_0m (ne_mm (by decide))) (nor (ne_z hm0) ne_zm)
              replace h389 := SL.ev h389 E416 (nor (ne_z hm0) ne_zm) (nor (ne_z hm0) ne_zm)
              replace h396 := AT.ev h396 E416 (nor ne_0m (ne_mm (by decide)))
              replace E := E.trans E416 (fun x (q : x = m ∨ x = m + 8) => q.elim (fun q => Or.inr (le_col0 q)) (fun q => Or.inr (le_col q)))
              refine q_val F rfl rfl (by decide) (r_move F rfl) fun a F => ?_
              refine q_val F rfl rfl (by decide) (r_extract F rfl rfl) fun a F => ?_
              refine q_val F rfl rfl (by decide) (r_extract F rfl rfl) fun a F => ?_
              refine q_val F rfl rfl (by decide) (r_assign F rfl) fun a F => ?_
              refine q_val F rfl rfl (by decide) (r_assign F rfl) fun a F => ?_
              refine nil ?_
              refine hK411 _ _ ?_
              refine wp_seq_k fun K420 hK420 => ?_
              refine reg ?_
              refine q_val F rfl rfl (by decide) (r_move F rfl) fun a F => ?_
              replace H := bind_some H
              obtain ⟨t421, q422, H⟩ := H
              refine q_call F rfl rfl (by decide) (r_call F Try.func13 rfl (by kernel_rfl) rfl) (haulagelaw20_num.calls (m := m + 10) (Nat.add_pos_left hm0 _) B _ q422) ?_
              rintro e w424 ⟨c423, rfl, E425, B426⟩
              refine ⟨_, rfl, fun a F => ?_⟩
              have B := B426
              replace h273 := BG.ev h273 E425 (fun q => q.elim) (fun q => q.elim) (fun q => q.elim)
              replace h389 := SL.ev h389 E425 (fun q => q.elim) (fun q => q.elim)
              replace h396 := AT.ev h396 E425 (fun q => q.elim)
              replace h418 := BG.ev h418 E425 (fun q => q.elim) (fun q => q.elim) (fun q => q.elim)
              replace E := E.trans E425 (fun x q => q.elim)
              refine q_val F rfl rfl (by decide) (r_eql F rfl rfl) fun a F => ?_
              refine q_val F rfl rfl (by decide) (r_move F rfl) fun a F => ?_
              by_cases hb428 : t421 = 1
              · replace H := (if_pos hb428).symm.trans H
                refine q_yes F rfl (by decide) rfl (decide_eq_true hb428) ?_
                refine q_val F rfl rfl (by decide) (r_move F rfl) fun a F => ?_
                replace H := bind_some H
                obtain ⟨t429, q430, H⟩ := H
                refine q_yes F rfl (by decide) rfl (decide_eq_true hb428) ?_
                refine q_call F rfl rfl (by decide) (r_call F Try.func13 rfl (by kernel_rfl) rfl) (haulagelaw20_num.calls (m := m + 10) (Nat.add_pos_left hm0 _) B _ q430) ?_
                rintro e w432 ⟨c431, rfl, E433, B434⟩
                refine ⟨_, rfl, fun a F => ?_⟩
                have B := B434
                replace h273 := BG.ev h273 E433 (fun q => q.elim) (fun q => q.elim) (fun q => q.elim)
                replace h389 := SL.ev h389 E433 (fun q => q.elim) (fun q => q.elim)
                replace h396 := AT.ev h396 E433 (fun q => q.elim)
                replace h418 := BG.ev h418 E433 (fun q => q.elim) (fun q => q.elim) (fun q => q.elim)
                replace E := E.trans E433 (fun x q => q.elim)
                refine q_yes F rfl (by decide) rfl (decide_eq_true hb428) ?_
                refine q_val F rfl rfl (by decide) (r_eql F rfl rfl) fun a F => ?_
                refine q_val F rfl rfl (by decide) (r_pick_t F rfl (decide_eq_true hb428) rfl) fun a F => ?_
                refine q_val F rfl rfl (by decide) (r_move F rfl) fun a F => ?_
                by_cases hb436 : t429 = 1
                · replace H := (if_pos hb436).symm.trans H
                  refine q_yes F rfl (by decide) rfl (decide_eq_true hb436) ?_
                  refine q_val F rfl rfl (by decide) (r_move F rfl) fun a F => ?_
                  replace H := bind_some H
                  obtain ⟨t437, q438, H⟩ := H
                  refine q_yes F rfl (by decide) rfl (decide_eq_true hb436) ?_
                  refine q_call F rfl rfl (by decide) (r_call F Try.func13 rfl (by kernel_rfl) rfl) (haulagelaw20_num.calls (m := m + 10) (Nat.add_pos_left hm0 _) B _ q438) ?_
                  rintro e w440 ⟨c439, rfl, E441, B442⟩
                  refine ⟨_, rfl, fun a F => ?_⟩
                  have B := B442
                  replace h273 := BG.ev h273 E441 (fun q => q.elim) (fun q => q.elim) (fun q => q.elim)
                  replace h389 := SL.ev h389 E441 (fun q => q.elim) (fun q => q.elim)
                  replace h396 := AT.ev h396 E441 (fun q => q.elim)
                  replace h418 := BG.ev h418 E441 (fun q => q.elim) (fun q => q.elim) (fun q => q.elim)
                  replace E := E.trans E441 (fun x q => q.elim)
                  refine q_yes F rfl (by decide) rfl (decide_eq_true hb436) ?_
                  refine q_val F rfl rfl (by decide) (r_eql F rfl rfl) fun a F => ?_
                  refine q_val F rfl rfl (by decide) (r_pick_t F rfl (decide_eq_true hb436) rfl) fun a F => ?_
                  refine q_val F rfl rfl (by decide) (r_move F rfl) fun a F => ?_
                  by_cases hb444 : t437 = 1
                  · replace H := (if_pos hb444).symm.trans H
                    refine q_yes F rfl (by decide) rfl (decide_eq_true hb444) ?_
                    refine q_val F rfl rfl (by decide) (r_move F rfl) fun a F => ?_
                    replace H := bind_some H
                    obtain ⟨t445, q446, H⟩ := H
                    refine q_yes F rfl (by decide) rfl (decide_eq_true hb444) ?_
                    refine q_call F rfl rfl (by decide) (r_call F Try.func13 rfl (by kernel_rfl) rfl) (haulagelaw20_num.calls (m := m + 10) (Nat.add_pos_left hm0 _) B _ q446) ?_
                    rintro e w448 ⟨c447, rfl, E449, B450⟩
                    refine ⟨_, rfl, fun a F => ?_⟩
                    have B := B450
                    replace h273 := BG.ev h273 E449 (fun q => q.elim) (fun q => q.elim) (fun q => q.elim)
                    replace h389 := SL.ev h389 E449 (fun q => q.elim) (fun q => q.elim)
                    replace h396 := AT.ev h396 E449 (fun q => q.elim)
                    replace h418 := BG.ev h418 E449 (fun q => q.elim) (fun q => q.elim) (fun q => q.elim)
                    replace E := E.trans E449 (fun x q => q.elim)
                    refine q_yes F rfl (by decide) rfl (decide_eq_true hb444) ?_
                    refine q_val F rfl rfl (by decide) (r_eql F rfl rfl) fun a F => ?_
                    refine q_val F rfl rfl (by decide) (r_pick_t F rfl (decide_eq_true hb444) rfl) fun a F => ?_
                    refine q_val F rfl rfl (by decide) (r_move F rfl) fun a F => ?_
                    by_cases hb452 : t445 = 1
                    · replace H := (if_pos hb452).symm.trans H
                      refine q_yes F rfl (by decide) rfl (decide_eq_true hb452) ?_
                      refine q_val F rfl rfl (by decide) (r_move F rfl) fun a F => ?_
                      replace H := bind_some H
                      obtain ⟨t453, q454, H⟩ := H
                      refine q_yes F rfl (by decide) rfl (decide_eq_true hb452) ?_
                      refine q_call F rfl rfl (by decide) (r_call F Try.func10 rfl (by kernel_rfl) rfl) (bag_Bag_Len.calls (m := m + 10) (Nat.add_pos_left hm0 _) B h418 (Nat.lt_add_of_pos_right (by decide)) ⟨(Nat.add_lt_add_left (by decide) m), ne_0m⟩ _ q454) ?_
                      rintro e w456 ⟨c455, rfl, E457, B458⟩
                      refine ⟨_, rfl, fun a F => ?_⟩
                      have B := B458
                      replace h273 := BG.ev h273 E457 (fun q => q.elim) (fun q => q.elim) (fun q => q.elim)
                      replace h389 := SL.ev h389 E457 (fun q => q.elim) (fun q => q.elim)
                      replace h396 := AT.ev h396 E457 (fun q => q.elim)
                      replace h418 := BG.ev h418 E457 (fun q => q.elim) (fun q => q.elim) (fun q => q.elim)
                      replace E := E.trans E457 (fun x q => q.elim)
                      refine q_yes F rfl (by decide) rfl (decide_eq_true hb452) ?_
                      refine q_val F rfl rfl (by decide) (r_eql F rfl rfl) fun a F => ?_
                      refine q_val F rfl rfl (by decide) (r_pick_t F rfl (decide_eq_true hb452) rfl) fun a F => ?_
                      refine q_val F rfl rfl (by decide) (r_move F rfl) fun a F => ?_
                      by_cases hb460 : t453 = 0
                      · replace H := (if_pos hb460).symm.trans H
                        refine q_yes F rfl (by decide) rfl (decide_eq_true hb460) ?_
                        refine q_val F rfl rfl (by decide) (r_move F rfl) fun a F => ?_
                        replace H := bind_some H
                        obtain ⟨t461, q462, H⟩ := H
                        refine q_yes F rfl (by decide) rfl (decide_eq_true hb460) ?_
                        refine q_call F rfl rfl (by decide) (r_call F Try.func15 rfl (by kernel_rfl) rfl) (bag_Bag_Waiting.calls (m := m + 10) (Nat.add_pos_left hm0 _) B h418 (by omega) (by omega) 0 (Nat.add_pos_left hm0 _) _ q462) ?_
                        rintro e w464 ⟨c463, A467, C468, rfl, E465, B466, h469⟩
                        refine ⟨_, rfl, fun a F => ?_⟩
                        have B := B466
                        replace h273 := BG.ev h273 E465 (fun q => q.elim) (fun q => q.elim) (fun q => q.elim)
                        replace h389 := SL.ev h389 E465 (fun q => q.elim) (fun q => q.elim)
                        replace h396 := AT.ev h396 E465 (fun q => q.elim)
                        replace h418 := BG.ev h418 E465 (fun q => q.elim) (fun q => q.elim) (fun q => q.elim)
                        replace E := E.trans E465 (fun x q => q.elim)
                        refine q_yes F rfl (by decide) rfl (decide_eq_true hb460) ?_
                        refine q_val F rfl rfl (by decide) (r_lensl F Try.underlying34 rfl) fun a F => ?_
                        refine q_yes F rfl (by decide) rfl (decide_eq_true hb460) ?_
                        refine q_val F rfl rfl (by decide) (r_eql F rfl rfl) fun a F => ?_
                        refine q_val F rfl rfl (by decide) (r_pick_t F rfl (decide_eq_true hb460) rfl) fun a F => ?_
                        refine q_val F rfl rfl (by decide) (r_move F rfl) fun a F => ?_
                        by_cases hb471 : (t461.length : Int) = 0
                        · replace H := (if_pos hb471).symm.trans H
                          refine q_yes F rfl (by decide) rfl (decide_eq_true hb471) ?_
                          refine q_val F rfl rfl (by decide) (r_move F rfl) fun a F => ?_
                          replace H := bind_some H
                          obtain ⟨t472, q473, H⟩ := H
                          refine q_yes F rfl (by decide) rfl (decide_eq_true hb471) ?_
                          refine q_call F rfl rfl (by decide) (r_call F Try.func16 rfl (by kernel_rfl) rfl) (bag_Bag_For.calls (m := m + 10) (Nat.add_pos_left hm0 _) B h418 (by omega) (by omega) 0 (Nat.add_pos_left hm0 _) _ q473) ?_
                          rintro e w475 ⟨c474, A478, C479, rfl, E476, B477, h480⟩
                          refine ⟨_, rfl, fun a F => ?_⟩
                          have B := B477
                          replace h273 := BG.ev h273 E476 (fun q => q.elim) (fun q => q.elim) (fun q => q.elim)
                          replace h389 := SL.ev h389 E476 (fun q => q.elim) (fun q => q.elim)
                          replace h396 := AT.ev h396 E476 (fun q => q.elim)
                          replace h418 := BG.ev h418 E476 (fun q => q.elim) (fun q => q.elim) (fun q => q.elim)
                          replace h469 := SL.ev h469 E476 (fun q => q.elim) (fun q => q.elim)
                          replace E := E.trans E476 (fun x q => q.elim)
                          refine q_yes F rfl (by decide) rfl (decide_eq_true hb471) ?_
                          refine q_val F rfl rfl (by decide) (r_lensl F Try.underlying36 rfl) fun a F => ?_
                          refine q_yes F rfl (by decide) rfl (decide_eq_true hb471) ?_
                          refine q_val F rfl rfl (by decide) (r_eql F rfl rfl) fun a F => ?_
                          refine q_val F rfl rfl (by decide) (r_pick_t F rfl (decide_eq_true hb471) rfl) fun a F => ?_
                          refine q_val F rfl rfl (by decide) (r_move F rfl) fun a F => ?_
                          by_cases hb482 : (t472.length : Int) = 0
                          · replace H := (if_pos hb482).symm.trans H
                            refine q_yes F rfl (by decide) rfl (decide_eq_true hb482) ?_
                            refine q_val F rfl rfl (by decide) (r_move F rfl) fun a F => ?_
                            replace H := bind_some H
                            obtain ⟨t483, q484, H⟩ := H
                            refine q_yes F rfl (by decide) rfl (decide_eq_true hb482) ?_
                            refine q_call F rfl rfl (by decide) (r_call F Try.func29 rfl (by kernel_rfl) rfl) (bag_Bag_Counts.calls (m := m + 10) (Nat.add_pos_left hm0 _) B h418 (Nat.lt_add_of_pos_right (by decide)) ⟨(Nat.add_lt_add_left (by decide) m), ne_0m⟩ _ q484) ?_
                            rintro e w486 ⟨c485, rfl, E487, B488⟩
                            refine ⟨_, rfl, fun a F => ?_⟩
                            have B := B488
                            replace h273 := BG.ev h273 E487 (fun q => q.elim) (fun q => q.elim) (fun q => q.elim)
                            replace h389 := SL.ev h389 E487 (fun q => q.elim) (fun q => q.elim)
                            replace h396 := AT.ev h396 E487 (fun q => q.elim)
                            replace h418 := BG.ev h418 E487 (fun q => q.elim) (fun q => q.elim) (fun q => q.elim)
                            replace h469 := SL.ev h469 E487 (fun q => q.elim) (fun q => q.elim)
                            replace h480 := SL.ev h480 E487 (fun q => q.elim) (fun q => q.elim)
                            replace E := E.trans E487 (fun x q => q.elim)
                            refine q_yes F rfl (by decide) rfl (decide_eq_true hb482) ?_
                            refine q_val F rfl rfl (by decide) (r_build (v := .agg #[.int .i64 0, .int .i64 0, .int .i64 0, .int .i64 0, .int .i64 0]) F [] (by exact trivial) (fun w => by kernel_rfl)) fun a F => ?_
                            refine q_yes F rfl (by decide) rfl (decide_eq_true hb482) ?_
                            refine q_val F rfl rfl (by decide) (r_ageql F sqg_63 rfl rfl (sq_63 ..)) fun a F => ?_
                            refine q_val F rfl rfl (by decide) (r_pick_t F rfl (decide_eq_true hb482) rfl) fun a F => ?_
                            refine q_val F rfl rfl (by decide) (r_assign F rfl) fun a F => ?_
                            refine nil ?_
                            refine hK420 _ _ ?_
                            replace F : Fr a 215 [(0, .bool (decide (t483 = (api_Traffic.mk 0 0 0 0 0))))] := F.sub ⟨rfl, trivial⟩
                            refine wp_ret ?_
                            replace H := Option.some.inj H
                            subst H
                            refine out1 F rfl rfl ?_
                            exact ⟨fun b_ => (fun x_ => if x_ < m then x_ else 0) (c485 b_), rfl, E.leave B0 (fun x_ => if x_ < m then x_ else 0) (by intro x_ hx_; show (if x_ < m then x_ else 0) = x_; ((repeat' split) <;> omega)), (fun b_ hb_ => by show (if (c485 b_) < m then (c485 b_) else 0) < m; ((repeat' split) <;> omega))⟩
                          · replace H := (if_neg hb482).symm.trans H
                            refine q_no F rfl (by decide) rfl (decide_eq_false hb482) (by decide) fun a F => ?_
                            refine q_no F rfl (by decide) rfl (decide_eq_false hb482) (by decide) fun a F => ?_
                            refine q_no F rfl (by decide) rfl (decide_eq_false hb482) (by decide) fun a F => ?_
                            refine q_no F rfl (by decide) rfl (decide_eq_false hb482) (by decide) fun a F => ?_
                            refine q_val F rfl rfl (by decide) (r_pick_f F rfl (decide_eq_false hb482) rfl) fun a F => ?_
                            refine q_val F rfl rfl (by decide) (r_assign F rfl) fun a F => ?_
                            refine nil ?_
                            refine hK420 _ _ ?_
                            replace F : Fr a 215 [(0, .bool false)] := F.sub ⟨rfl, trivial⟩
                            refine wp_ret ?_
                            replace H := Option.some.inj H
                            subst H
                            refine out1 F rfl rfl ?_
                            exact ⟨fun b_ => (fun x_ => if x_ < m then x_ else 0) (c474 b_), rfl, E.leave B0 (fun x_ => if x_ < m then x_ else 0) (by intro x_ hx_; show (if x_ < m then x_ else 0) = x_; ((repeat' split) <;> omega)), (fun b_ hb_ => by show (if (c474 b_) < m then (c474 b_) else 0) < m; ((repeat' split) <;> omega))⟩
                        · replace H := (if_neg hb471).symm.trans H
                          refine q_no F rfl (by decide) rfl (decide_eq_false hb471) (by decide) fun a F => ?_
                          refine q_no F rfl (by decide) rfl (decide_eq_false hb471) (by decide) fun a F => ?_
                          refine q_no F rfl (by decide) rfl (decide_eq_false hb471) (by decide) fun a F => ?_
                          refine q_no F rfl (by decide) rfl (decide_eq_false hb471) (by decide) fun a F => ?_
                          refine q_val F rfl rfl (by decide) (r_pick_f F rfl (decide_eq_false hb471) rfl) fun a F => ?_
                          refine q_val F rfl rfl (by decide) (r_move F rfl) fun a F => ?_
                          refine q_no F rfl (by decide) rfl rfl (by decide) fun a F => ?_
                          refine q_no F rfl (by decide) rfl rfl (by decide) fun a F => ?_
                          refine q_no F rfl (by decide) rfl rfl (by decide) fun a F => ?_
                          refine q_no F rfl (by decide) rfl rfl (by decide) fun a F => ?_
                          refine q_val F rfl rfl (by decide) (r_pick_f F rfl rfl rfl) fun a F => ?_
                          refine q_val F rfl rfl (by decide) (r_assign F rfl) fun a F => ?_
                          refine nil ?_
                          refine hK420 _ _ ?_
                          replace F : Fr a 215 [(0, .bool false)] := F.sub ⟨rfl, trivial⟩
                          refine wp_ret ?_
                          replace H := Option.some.inj H
                          subst H
                          refine out1 F rfl rfl ?_
                          exact ⟨fun b_ => (fun x_ => if x_ < m then x_ else 0) (c463 b_), rfl, E.leave B0 (fun x_ => if x_ < m then x_ else 0) (by intro x_ hx_; show (if x_ < m then x_ else 0) = x_; ((repeat' split) <;> omega)), (fun b_ hb_ => by show (if (c463 b_) < m then (c463 b_) else 0) < m; ((repeat' split) <;> omega))⟩
                      · replace H := (if_neg hb460).symm.trans H
                        refine q_no F rfl (by decide) rfl (decide_eq_false hb460) (by decide) fun a F => ?_
                        refine q_no F rfl (by decide) rfl (decide_eq_false hb460) (by decide) fun a F => ?_
                        refine q_no F rfl (by decide) rfl (decide_eq_false hb460) (by decide) fun a F => ?_
                        refine q_no F rfl (by decide) rfl (decide_eq_false hb460) (by decide) fun a F => ?_
                        refine q_val F rfl rfl (by decide) (r_pick_f F rfl (decide_eq_false hb460) rfl) fun a F => ?_
                        refine q_val F rfl rfl (by decide) (r_move F rfl) fun a F => ?_
                        refine q_no F rfl (by decide) rfl rfl (by decide) fun a F => ?_
                        refine q_no F rfl (by decide) rfl rfl (by decide) fun a F => ?_
                        refine q_no F rfl (by decide) rfl rfl (by decide) fun a F => ?_
                        refine q_no F rfl (by decide) rfl rfl (by decide) fun a F => ?_
                        refine q_val F rfl rfl (by decide) (r_pick_f F rfl rfl rfl) fun a F => ?_
                        refine q_val F rfl rfl (by decide) (r_move F rfl) fun a F => ?_
                        refine q_no F rfl (by decide) rfl rfl (by decide) fun a F => ?_
                        refine q_no F rfl (by decide) rfl rfl (by decide) fun a F => ?_
                        refine q_no F rfl (by decide) rfl rfl (by decide) fun a F => ?_
                        refine q_no F rfl (by decide) rfl rfl (by decide) fun a F => ?_
                        refine q_val F rfl rfl (by decide) (r_pick_f F rfl rfl rfl) fun a F => ?_
                        refine q_val F rfl rfl (by decide) (r_assign F rfl) fun a F => ?_
                        refine nil ?_
                        refine hK420 _ _ ?_
                        replace F : Fr a 215 [(0, .bool false)] := F.sub ⟨rfl, trivial⟩
                        refine wp_ret ?_
                        replace H := Option.some.inj H
                        subst H
                        refine out1 F rfl rfl ?_
                        exact ⟨fun b_ => (fun x_ => if x_ < m then x_ else 0) (c455 b_), rfl, E.leave B0 (fun x_ => if x_ < m then x_ else 0) (by intro x_ hx_; show (if x_ < m then x_ else 0) = x_; ((repeat' split) <;> omega)), (fun b_ hb_ => by show (if (c455 b_) < m then (c455 b_) else 0) < m; ((repeat' split) <;> omega))⟩
                    · replace H := (if_neg hb452).symm.trans H
                      refine q_no F rfl (by decide) rfl (decide_eq_false hb452) (by decide) fun a F => ?_
                      refine q_no F rfl (by decide) rfl (decide_eq_false hb452) (by decide) fun a F => ?_
                      refine q_no F rfl (by decide) rfl (decide_eq_false hb452) (by decide) fun a F => ?_
                      refine q_val F rfl rfl (by decide) (r_pick_f F rfl (decide_eq_false hb452) rfl) fun a F => ?_
                      refine q_val F rfl rfl (by decide) (r_move F rfl) fun a F => ?_
                      refine q_no F rfl (by decide) rfl rfl (by decide) fun a F => ?_
                      refine q_no F rfl (by decide) rfl rfl (by decide) fun a F => ?_
                      refine q_no F rfl (by decide) rfl rfl (by decide) fun a F => ?_
                      refine q_no F rfl (by decide) rfl rfl (by decide) fun a F => ?_
                      refine q_val F rfl rfl (by decide) (r_pick_f F rfl rfl rfl) fun a F => ?_
                      refine q_val F rfl rfl (by decide) (r_move F rfl) fun a F => ?_
                      refine q_no F rfl (by decide) rfl rfl (by decide) fun a F => ?_
                      refine q_no F rfl (by decide) rfl rfl (by decide) fun a F => ?_
                      refine q_no F rfl (by decide) rfl rfl (by decide) fun a F => ?_
                      refine q_no F rfl (by decide) rfl rfl (by decide) fun a F => ?_
                      refine q_val F rfl rfl (by decide) (r_pick_f F rfl rfl rfl) fun a F => ?_
                      refine q_val F rfl rfl (by decide) (r_move F rfl) fun a F => ?_
                      refine q_no F rfl (by decide) rfl rfl (by decide) fun a F => ?_
                      refine q_no F rfl (by decide) rfl rfl (by decide) fun a F => ?_
                      refine q_no F rfl (by decide) rfl rfl (by decide) fun a F => ?_
                      refine q_no F rfl (by decide) rfl rfl (by decide) fun a F => ?_
                      refine q_val F rfl rfl (by decide) (r_pick_f F rfl rfl rfl) fun a F => ?_
                      refine q_val F rfl rfl (by decide) (r_assign F rfl) fun a F => ?_
                      refine nil ?_
                      refine hK420 _ _ ?_
                      replace F : Fr a 215 [(0, .bool false)] := F.sub ⟨rfl, trivial⟩
                      refine wp_ret ?_
                      replace H := Option.some.inj H
                      subst H
                      refine out1 F rfl rfl ?_
                      exact ⟨fun b_ => (fun x_ => if x_ < m then x_ else 0) (c447 b_), rfl, E.leave B0 (fun x_ => if x_ < m then x_ else 0) (by intro x_ hx_; show (if x_ < m then x_ else 0) = x_; ((repeat' split) <;> omega)), (fun b_ hb_ => by show (if (c447 b_) < m then (c447 b_) else 0) < m; ((repeat' split) <;> omega))⟩
                  · replace H := (if_neg hb444).symm.trans H
                    refine q_no F rfl (by decide) rfl (decide_eq_false hb444) (by decide) fun a F => ?_
                    refine q_no F rfl (by decide) rfl (decide_eq_false hb444) (by decide) fun a F => ?_
                    refine q_no F rfl (by decide) rfl (decide_eq_false hb444) (by decide) fun a F => ?_
                    refine q_val F rfl rfl (by decide) (r_pick_f F rfl (decide_eq_false hb444) rfl) fun a F => ?_
                    refine q_val F rfl rfl (by decide) (r_move F rfl) fun a F => ?_
                    refine q_no F rfl (by decide) rfl rfl (by decide) fun a F => ?_
                    refine q_no F rfl (by decide) rfl rfl (by decide) fun a F => ?_
                    refine q_no F rfl (by decide) rfl rfl (by decide) fun a F => ?_
                    refine q_val F rfl rfl (by decide) (r_pick_f F rfl rfl rfl) fun a F => ?_
                    refine q_val F rfl rfl (by decide) (r_move F rfl) fun a F => ?_
                    refine q_no F rfl (by decide) rfl rfl (by decide) fun a F => ?_
                    refine q_no F rfl (by decide) rfl rfl (by decide) fun a F => ?_
                    refine q_no F rfl (by decide) rfl rfl (by decide) fun a F => ?_
                    refine q_no F rfl (by decide) rfl rfl (by decide) fun a F => ?_
                    refine q_val F rfl rfl (by decide) (r_pick_f F rfl rfl rfl) fun a F => ?_
                    refine q_val F rfl rfl (by decide) (r_move F rfl) fun a F => ?_
                    refine q_no F rfl (by decide) rfl rfl (by decide) fun a F => ?_
                    refine q_no F rfl (by decide) rfl rfl (by decide) fun a F => ?_
                    refine q_no F rfl (by decide) rfl rfl (by decide) fun a F => ?_
                    refine q_no F rfl (by decide) rfl rfl (by decide) fun a F => ?_
                    refine q_val F rfl rfl (by decide) (r_pick_f F rfl rfl rfl) fun a F => ?_
                    refine q_val F rfl rfl (by decide) (r_move F rfl) fun a F => ?_
                    refine q_no F rfl (by decide) rfl rfl (by decide) fun a F => ?_
                    refine q_no F rfl (by decide) rfl rfl (by decide) fun a F => ?_
                    refine q_no F rfl (by decide) rfl rfl (by decide) fun a F => ?_
                    refine q_no F rfl (by decide) rfl rfl (by decide) fun a F => ?_
                    refine q_val F rfl rfl (by decide) (r_pick_f F rfl rfl rfl) fun a F => ?_
                    refine q_val F rfl rfl (by decide) (r_assign F rfl) fun a F => ?_
                    refine nil ?_
                    refine hK420 _ _ ?_
                    replace F : Fr a 215 [(0, .bool false)] := F.sub ⟨rfl, trivial⟩
                    refine wp_ret ?_
                    replace H := Option.some.inj H
                    subst H
                    refine out1 F rfl rfl ?_
                    exact ⟨fun b_ => (fun x_ => if x_ < m then x_ else 0) (c439 b_), rfl, E.leave B0 (fun x_ => if x_ < m then x_ else 0) (by intro x_ hx_; show (if x_ < m then x_ else 0) = x_; ((repeat' split) <;> omega)), (fun b_ hb_ => by show (if (c439 b_) < m then (c439 b_) else 0) < m; ((repeat' split) <;> omega))⟩
                · replace H := (if_neg hb436).symm.trans H
                  refine q_no F rfl (by decide) rfl (decide_eq_false hb436) (by decide) fun a F => ?_
                  refine q_no F rfl (by decide) rfl (decide_eq_false hb436) (by decide) fun a F => ?_
                  refine q_no F rfl (by decide) rfl (decide_eq_false hb436) (by decide) fun a F => ?_
                  refine q_val F rfl rfl (by decide) (r_pick_f F rfl (decide_eq_false hb436) rfl) fun a F => ?_
                  refine q_val F rfl rfl (by decide) (r_move F rfl) fun a F => ?_
                  refine q_no F rfl (by decide) rfl rfl (by decide) fun a F => ?_
                  refine q_no F rfl (by decide) rfl rfl (by decide) fun a F => ?_
                  refine q_no F rfl (by decide) rfl rfl (by decide) fun a F => ?_
                  refine q_val F rfl rfl (by decide) (r_pick_f F rfl rfl rfl) fun a F => ?_
                  refine q_val F rfl rfl (by decide) (r_move F rfl) fun a F => ?_
                  refine q_no F rfl (by decide) rfl rfl (by decide) fun a F => ?_
                  refine q_no F rfl (by decide) rfl rfl (by decide) fun a F => ?_
                  refine q_no F rfl (by decide) rfl rfl (by decide) fun a F => ?_
                  refine q_val F rfl rfl (by decide) (r_pick_f F rfl rfl rfl) fun a F => ?_
                  refine q_val F rfl rfl (by decide) (r_move F rfl) fun a F => ?_
                  refine q_no F rfl (by decide) rfl rfl (by decide) fun a F => ?_
                  refine q_no F rfl (by decide) rfl rfl (by decide) fun a F => ?_
                  refine q_no F rfl (by decide) rfl rfl (by decide) fun a F => ?_
                  refine q_no F rfl (by decide) rfl rfl (by decide) fun a F => ?_
                  refine q_val F rfl rfl (by decide) (r_pick_f F rfl rfl rfl) fun a F => ?_
                  refine q_val F rfl rfl (by decide) (r_move F rfl) fun a F => ?_
                  refine q_no F rfl (by decide) rfl rfl (by decide) fun a F => ?_
                  refine q_no F rfl (by decide) rfl rfl (by decide) fun a F => ?_
                  refine q_no F rfl (by decide) rfl rfl (by decide) fun a F => ?_
                  refine q_no F rfl (by decide) rfl rfl (by decide) fun a F => ?_
                  refine q_val F rfl rfl (by decide) (r_pick_f F rfl rfl rfl) fun a F => ?_
                  refine q_val F rfl rfl (by decide) (r_move F rfl) fun a F => ?_
                  refine q_no F rfl (by decide) rfl rfl (by decide) fun a F => ?_
                  refine q_no F rfl (by decide) rfl rfl (by decide) fun a F => ?_
                  refine q_no F rfl (by decide) rfl rfl (by decide) fun a F => ?_
                  refine q_no F rfl (by decide) rfl rfl (by decide) fun a F => ?_
                  refine q_val F rfl rfl (by decide) (r_pick_f F rfl rfl rfl) fun a F => ?_
                  refine q_val F rfl rfl (by decide) (r_assign F rfl) fun a F => ?_
                  refine nil ?_
                  refine hK420 _ _ ?_
                  replace F : Fr a 215 [(0, .bool false)] := F.sub ⟨rfl, trivial⟩
                  refine wp_ret ?_
                  replace H := Option.some.inj H
                  subst H
                  refine out1 F rfl rfl ?_
                  exact ⟨fun b_ => (fun x_ => if x_ < m then x_ else 0) (c431 b_), rfl, E.leave B0 (fun x_ => if x_ < m then x_ else 0) (by intro x_ hx_; show (if x_ < m then x_ else 0) = x_; ((repeat' split) <;> omega)), (fun b_ hb_ => by show (if (c431 b_) < m then (c431 b_) else 0) < m; ((repeat' split) <;> omega))⟩
              · replace H := (if_neg hb428).symm.trans H
                refine q_no F rfl (by decide) rfl (decide_eq_false hb428) (by decide) fun a F => ?_
                refine q_no F rfl (by decide) rfl (decide_eq_false hb428) (by decide) fun a F => ?_
                refine q_no F rfl (by decide) rfl (decide_eq_false hb428) (by decide) fun a F => ?_
                refine q_val F rfl rfl (by decide) (r_pick_f F rfl (decide_eq_false hb428) rfl) fun a F => ?_
                refine q_val F rfl rfl (by decide) (r_move F rfl) fun a F => ?_
                refine q_no F rfl (by decide) rfl rfl (by decide) fun a F => ?_
                refine q_no F rfl (by decide) rfl rfl (by decide) fun a F => ?_
                refine q_no F rfl (by decide) rfl rfl (by decide) fun a F => ?_
                refine q_val F rfl rfl (by decide) (r_pick_f F rfl rfl rfl) fun a F => ?_
                refine q_val F rfl rfl (by decide) (r_move F rfl) fun a F => ?_
                refine q_no F rfl (by decide) rfl rfl (by decide) fun a F => ?_
                refine q_no F rfl (by decide) rfl rfl (by decide) fun a F => ?_
                refine q_no F rfl (by decide) rfl rfl (by decide) fun a F => ?_
                refine q_val F rfl rfl (by decide) (r_pick_f F rfl rfl rfl) fun a F => ?_
                refine q_val F rfl rfl (by decide) (r_move F rfl) fun a F => ?_
                refine q_no F rfl (by decide) rfl rfl (by decide) fun a F => ?_
                refine q_no F rfl (by decide) rfl rfl (by decide) fun a F => ?_
                refine q_no F rfl (by decide) rfl rfl (by decide) fun a F => ?_
                refine q_val F rfl rfl (by decide) (r_pick_f F rfl rfl rfl) fun a F => ?_
                refine q_val F rfl rfl (by decide) (r_move F rfl) fun a F => ?_
                refine q_no F rfl (by decide) rfl rfl (by decide) fun a F => ?_
                refine q_no F rfl (by decide) rfl rfl (by decide) fun a F => ?_
                refine q_no F rfl (by decide) rfl rfl (by decide) fun a F => ?_
                refine q_no F rfl (by decide) rfl rfl (by decide) fun a F => ?_
                refine q_val F rfl rfl (by decide) (r_pick_f F rfl rfl rfl) fun a F => ?_
                refine q_val F rfl rfl (by decide) (r_move F rfl) fun a F => ?_
                refine q_no F rfl (by decide) rfl rfl (by decide) fun a F => ?_
                refine q_no F rfl (by decide) rfl rfl (by decide) fun a F => ?_
                refine q_no F rfl (by decide) rfl rfl (by decide) fun a F => ?_
                refine q_no F rfl (by decide) rfl rfl (by decide) fun a F => ?_
                refine q_val F rfl rfl (by decide) (r_pick_f F rfl rfl rfl) fun a F => ?_
                refine q_val F rfl rfl (by decide) (r_move F rfl) fun a F => ?_
                refine q_no F rfl (by decide) rfl rfl (by decide) fun a F => ?_
                refine q_no F rfl (by decide) rfl rfl (by decide) fun a F => ?_
                refine q_no F rfl (by decide) rfl rfl (by decide) fun a F => ?_
                refine q_no F rfl (by decide) rfl rfl (by decide) fun a F => ?_
                refine q_val F rfl rfl (by decide) (r_pick_f F rfl rfl rfl) fun a F => ?_
                refine q_val F rfl rfl (by decide) (r_assign F rfl) fun a F => ?_
                refine nil ?_
                refine hK420 _ _ ?_
                replace F : Fr a 215 [(0, .bool false)] := F.sub ⟨rfl, trivial⟩
                refine wp_ret ?_
                replace H := Option.some.inj H
                subst H
                refine out1 F rfl rfl ?_
                exact ⟨fun b_ => (fun x_ => if x_ < m then x_ else 0) (c423 b_), rfl, E.leave B0 (fun x_ => if x_ < m then x_ else 0) (by intro x_ hx_; show (if x_ < m then x_ else 0) = x_; ((repeat' split) <;> omega)), (fun b_ hb_ => by show (if (c423 b_) < m then (c423 b_) else 0) < m; ((repeat' split) <;> omega))⟩
            · replace H := (if_neg hb368).symm.trans H
              refine wp_cond_true ((F.ev rfl).trans (congrArg Value.bool (congrArg not (decide_eq_false hb368)))) ?_
              refine wp_seq_k fun K369 hK369 => ?_
              refine reg ?_
              refine q_val F rfl rfl (by decide) (r_assign F rfl) fun a F => ?_
              refine nil ?_
              refine hK369 _ _ ?_
              refine wp_ret ?_
              refine thenR ?_
              replace H := Option.some.inj H
              subst H
              refine out1 F rfl rfl ?_
              exact ⟨fun b_ => (fun x_ => if x_ < m then x_ else 0) (c363 b_), rfl, E.leave B0 (fun x_ => if x_ < m then x_ else 0) (by intro x_ hx_; show (if x_ < m then x_ else 0) = x_; ((repeat' split) <;> omega)), (fun b_ hb_ => by show (if (c363 b_) < m then (c363 b_) else 0) < m; ((repeat' split) <;> omega))⟩
        refine reg ?_
        refine q_val F rfl rfl (by decide) (r_move F rfl) fun a F => ?_
        replace H := bind_some H
        obtain ⟨t277, q278, H⟩ := H
        refine q_call F rfl rfl (by decide) (r_call F Try.func13 rfl (by kernel_rfl) rfl) (haulagelaw20_num.calls (m := m + 10) (Nat.add_pos_left hm0 _) B _ q278) ?_
        rintro e w280 ⟨c279, rfl, E281, B282⟩
        refine ⟨_, rfl, fun a F => ?_⟩
        have B := B282
        replace h171 := SL.ev h171 E281 (fun q => q.elim) (fun q => q.elim)
        replace h178 := AT.ev h178 E281 (fun q => q.elim)
        replace h193 := SL.ev h193 E281 (fun q => q.elim) (fun q => q.elim)
        replace h200 := AT.ev h200 E281 (fun q => q.elim)
        replace h248 := SL.ev h248 E281 (fun q => q.elim) (fun q => q.elim)
        replace h265 := SL.ev h265 E281 (fun q => q.elim) (fun q => q.elim)
        replace h273 := BG.ev h273 E281 (fun q => q.elim) (fun q => q.elim) (fun q => q.elim)
        replace E := E.trans E281 (fun x q => q.elim)
        refine q_val F rfl rfl (by decide) (r_neq F rfl rfl) fun a F => ?_
        refine q_val F rfl rfl (by decide) (r_move F rfl) fun a F => ?_
        by_cases hb284 : t277 = 0
        · replace H := (if_pos hb284).symm.trans H
          refine q_yes F rfl (by decide) rfl (congrArg not (decide_eq_true hb284)) ?_
          refine q_val F rfl rfl (by decide) (r_loads (cs := [.int .i64 t163.1.Number, .int .i64 t163.1.From, .int .i64 t163.1.To, .slice A169 t163.1.Data.length C170]) F rfl ag_40 sz_40 h178) fun a F => ?_
          refine q_yes F rfl (by decide) rfl (congrArg not (decide_eq_true hb284)) ?_
          refine q_eff F rfl rfl (by decide) (e_buildSliceF (n := 1) (e := 5) (c := c279) (k := (Kint .u8)) (i := 0) F [(0, .int .u8 98)] [.int .u8 98] ([98] : List Int) (by exact ⟨rfl, rfl, trivial⟩) (fun w => by kernel_rfl) rfl (by decide) rfl ⟨rfl, trivial⟩ (fun q => q) (m + 7)) ?_
          rintro v w287 a ⟨c286, A288, C289, rfl, E290, h291, B292, hf285⟩ F
          replace B := B292 _ B (Nat.add_lt_add_left (by decide) m)
          replace h171 := SL.ev h171 E290 (fun q => q.elim) (fun q => q.elim)
          replace h178 := AT.ev h178 E290 (fun q => q.elim)
          replace h193 := SL.ev h193 E290 (fun q => q.elim) (fun q => q.elim)
          replace h200 := AT.ev h200 E290 (fun q => q.elim)
          replace h248 := SL.ev h248 E290 (fun q => q.elim) (fun q => q.elim)
          replace h265 := SL.ev h265 E290 (fun q => q.elim) (fun q => q.elim)
          replace h273 := BG.ev h273 E290 (fun q => q.elim) (fun q => q.elim) (fun q => q.elim)
          replace E := E.trans E290 (fun x q => q.elim)
          refine q_yes F rfl (by decide) rfl (congrArg not (decide_eq_true hb284)) ?_
          refine q_eff F rfl rfl (by decide) (e_convb F Try.underlying27 Try.underlying5 rfl h291 hf285) ?_
          rintro v w293 a ⟨rfl, E294, h291, Z295⟩ F
          replace B := B.size Z295
          replace h171 := SL.ev h171 E294 ne_zm ne_zm
          replace h178 := AT.ev h178 E294 (ne_mm (by decide))
          replace h193 := SL.ev h193 E294 ne_zm ne_zm
          replace h200 := AT.ev h200 E294 (ne_mm (by decide))
          replace h248 := SL.ev h248 E294 ne_zm ne_zm
          replace h265 := SL.ev h265 E294 ne_zm ne_zm
          replace h273 := BG.ev h273 E294 (ne_mm (by decide)) (ne_mm (by decide)) ne_zm
          replace E := E.trans E294 (fun x (q : x = m + 7) => Or.inr (le_col q))
          obtain ⟨c296, hc296⟩ : ∃ c', c' = fun k => if c286 k = m + 7 then 0 else c286 k := ⟨_, rfl⟩
          replace h171 := SL.rc (c' := c296) (j' := 0) (i' := 0) h171 (fun k_ hk_ => by rw [hc296]; show (if c286 k_ = m + 7 then 0 else c286 k_) = _; rw [hk_]; ((repeat' split) <;> omega)) (fun k_ hk_ => by rw [hc296]; show (if c286 k_ = m + 7 then 0 else c286 k_) = _; rw [hk_]; ((repeat' split) <;> omega))
          replace h178 := AT.rc (c' := c296) (j' := m + 5) h178 (fun k_ hk_ => by rw [hc296]; show (if c286 k_ = m + 7 then 0 else c286 k_) = _; rw [hk_]; ((repeat' split) <;> omega))
          replace h193 := SL.rc (c' := c296) (j' := 0) (i' := 0) h193 (fun k_ hk_ => by rw [hc296]; show (if c286 k_ = m + 7 then 0 else c286 k_) = _; rw [hk_]; ((repeat' split) <;> omega)) (fun k_ hk_ => by rw [hc296]; show (if c286 k_ = m + 7 then 0 else c286 k_) = _; rw [hk_]; ((repeat' split) <;> omega))
          replace h200 := AT.rc (c' := c296) (j' := m + 6) h200 (fun k_ hk_ => by rw [hc296]; show (if c286 k_ = m + 7 then 0 else c286 k_) = _; rw [hk_]; ((repeat' split) <;> omega))
          replace h248 := SL.rc (c' := c296) (j' := 0) (i' := 0) h248 (fun k_ hk_ => by rw [hc296]; show (if c286 k_ = m + 7 then 0 else c286 k_) = _; rw [hk_]; ((repeat' split) <;> omega)) (fun k_ hk_ => by rw [hc296]; show (if c286 k_ = m + 7 then 0 else c286 k_) = _; rw [hk_]; ((repeat' split) <;> omega))
          replace h265 := SL.rc (c' := c296) (j' := 0) (i' := 0) h265 (fun k_ hk_ => by rw [hc296]; show (if c286 k_ = m + 7 then 0 else c286 k_) = _; rw [hk_]; ((repeat' split) <;> omega)) (fun k_ hk_ => by rw [hc296]; show (if c286 k_ = m + 7 then 0 else c286 k_) = _; rw [hk_]; ((repeat' split) <;> omega))
          replace h273 := BG.rc (c' := c296) (j' := m + 1) (i' := m + 2) h273 (fun k_ hk_ => by rw [hc296]; show (if c286 k_ = m + 7 then 0 else c286 k_) = _; rw [hk_]; ((repeat' split) <;> omega)) (fun k_ hk_ => by rw [hc296]; show (if c286 k_ = m + 7 then 0 else c286 k_) = _; rw [hk_]; ((repeat' split) <;> omega)) (fun k_ hk_ => by rw [hc296]; show (if c286 k_ = m + 7 then 0 else c286 k_) = _; rw [hk_]; ((repeat' split) <;> omega))
          replace h291 := SL.rc (c' := c296) (j' := 0) (i' := 0) h291.r (fun k_ hk_ => by rw [hc296]; show (if c286 k_ = m + 7 then 0 else c286 k_) = _; rw [hk_]; ((repeat' split) <;> omega)) (fun k_ hk_ => by rw [hc296]; show (if c286 k_ = m + 7 then 0 else c286 k_) = _; rw [hk_]; ((repeat' split) <;> omega))
          have E : Ev (fun x => False ∨ m ≤ x) c0 w0 c296 w293 := by rw [hc296]; exact E.freeze B0 (by omega)
          have B : CB (m + 10) c296 w293 := by rw [hc296]; exact B.freeze (by omega)
          refine q_yes F rfl (by decide) rfl (congrArg not (decide_eq_true hb284)) ?_
          refine q_val F rfl rfl (by decide) (r_build (v := .agg #[.int .i64 3, .int .i64 1, .int .i64 0, .slice A288 [98].length C289]) F [(0, .int .i64 3), (1, .int .i64 1), (2, .int .i64 0), (3, .slice A288 [98].length C289)] (by exact ⟨rfl, rfl, rfl, rfl, rfl, rfl, rfl, rfl, trivial⟩) (fun w => by kernel_rfl)) fun a F => ?_
          replace H := bind_some H
          obtain ⟨t297, q298, H⟩ := H
          refine q_yes F rfl (by decide) rfl (congrArg not (decide_eq_true hb284)) ?_
          refine q_call F rfl rfl (by decide) (r_call F Try.func28 rfl (by kernel_rfl) rfl) (haulagelaw20_alike.calls k (m := m + 10) (a5 := api_Letter.mk 3 1 0 [98]) (Nat.add_pos_left hm0 _) B h171 h291 _ q298) ?_
          rintro e w300 ⟨c299, rfl, E301, B302⟩
          refine ⟨_, rfl, fun a F => ?_⟩
          have B := B302
          replace h171 := SL.ev h171 E301 (fun q => q.elim) (fun q => q.elim)
          replace h178 := AT.ev h178 E301 (fun q => q.elim)
          replace h193 := SL.ev h193 E301 (fun q => q.elim) (fun q => q.elim)
          replace h200 := AT.ev h200 E301 (fun q => q.elim)
          replace h248 := SL.ev h248 E301 (fun q => q.elim) (fun q => q.elim)
          replace h265 := SL.ev h265 E301 (fun q => q.elim) (fun q => q.elim)
          replace h273 := BG.ev h273 E301 (fun q => q.elim) (fun q => q.elim) (fun q => q.elim)
          replace h291 := SL.ev h291 E301 (fun q => q.elim) (fun q => q.elim)
          replace E := E.trans E301 (fun x q => q.elim)
          refine q_yes F rfl (by decide) rfl (congrArg not (decide_eq_true hb284)) ?_
          refine q_val F rfl rfl (by decide) (r_not F rfl) fun a F => ?_
          refine q_val F rfl rfl (by decide) (r_pick_f F rfl (congrArg not (decide_eq_true hb284)) rfl) fun a F => ?_
          refine q_val F rfl rfl (by decide) (r_move F rfl) fun a F => ?_
          by_cases hb304 : t297 = true
          · replace H := (if_pos hb304).symm.trans H
            refine q_yes F rfl (by decide) rfl (congrArg not hb304) ?_
            refine q_val F rfl rfl (by decide) (r_move F rfl) fun a F => ?_
            replace H := bind_some H
            obtain ⟨t305, q306, H⟩ := H
            refine q_yes F rfl (by decide) rfl (congrArg not hb304) ?_
            refine q_call F rfl rfl (by decide) (r_call F Try.func13 rfl (by kernel_rfl) rfl) (haulagelaw20_num.calls (m := m + 10) (Nat.add_pos_left hm0 _) B _ q306) ?_
            rintro e w308 ⟨c307, rfl, E309, B310⟩
            refine ⟨_, rfl, fun a F => ?_⟩
            have B := B310
            replace h171 := SL.ev h171 E309 (fun q => q.elim) (fun q => q.elim)
            replace h178 := AT.ev h178 E309 (fun q => q.elim)
            replace h193 := SL.ev h193 E309 (fun q => q.elim) (fun q => q.elim)
            replace h200 := AT.ev h200 E309 (fun q => q.elim)
            replace h248 := SL.ev h248 E309 (fun q => q.elim) (fun q => q.elim)
            replace h265 := SL.ev h265 E309 (fun q => q.elim) (fun q => q.elim)
            replace h273 := BG.ev h273 E309 (fun q => q.elim) (fun q => q.elim) (fun q => q.elim)
            replace h291 := SL.ev h291 E309 (fun q => q.elim) (fun q => q.elim)
            replace E := E.trans E309 (fun x q => q.elim)
            refine q_yes F rfl (by decide) rfl (congrArg not hb304) ?_
            refine q_val F rfl rfl (by decide) (r_neq F rfl rfl) fun a F => ?_
            refine q_val F rfl rfl (by decide) (r_pick_f F rfl (congrArg not hb304) rfl) fun a F => ?_
            refine q_val F rfl rfl (by decide) (r_move F rfl) fun a F => ?_
            by_cases hb312 : t305 = 200
            · replace H := (if_pos hb312).symm.trans H
              refine q_yes F rfl (by decide) rfl (congrArg not (decide_eq_true hb312)) ?_
              refine q_val F rfl rfl (by decide) (r_move F rfl) fun a F => ?_
              replace H := bind_some H
              obtain ⟨t313, q314, H⟩ := H
              refine q_yes F rfl (by decide) rfl (congrArg not (decide_eq_true hb312)) ?_
              refine q_call F rfl rfl (by decide) (r_call F Try.func13 rfl (by kernel_rfl) rfl) (haulagelaw20_num.calls (m := m + 10) (Nat.add_pos_left hm0 _) B _ q314) ?_
              rintro e w316 ⟨c315, rfl, E317, B318⟩
              refine ⟨_, rfl, fun a F => ?_⟩
              have B := B318
              replace h171 := SL.ev h171 E317 (fun q => q.elim) (fun q => q.elim)
              replace h178 := AT.ev h178 E317 (fun q => q.elim)
              replace h193 := SL.ev h193 E317 (fun q => q.elim) (fun q => q.elim)
              replace h200 := AT.ev h200 E317 (fun q => q.elim)
              replace h248 := SL.ev h248 E317 (fun q => q.elim) (fun q => q.elim)
              replace h265 := SL.ev h265 E317 (fun q => q.elim) (fun q => q.elim)
              replace h273 := BG.ev h273 E317 (fun q => q.elim) (fun q => q.elim) (fun q => q.elim)
              replace h291 := SL.ev h291 E317 (fun q => q.elim) (fun q => q.elim)
              replace E := E.trans E317 (fun x q => q.elim)
              refine q_yes F rfl (by decide) rfl (congrArg not (decide_eq_true hb312)) ?_
              refine q_val F rfl rfl (by decide) (r_neq F rfl rfl) fun a F => ?_
              refine q_val F rfl rfl (by decide) (r_pick_f F rfl (congrArg not (decide_eq_true hb312)) rfl) fun a F => ?_
              refine q_val F rfl rfl (by decide) (r_move F rfl) fun a F => ?_
              by_cases hb320 : t313 = 0
              · replace H := (if_pos hb320).symm.trans H
                refine q_yes F rfl (by decide) rfl (congrArg not (decide_eq_true hb320)) ?_
                refine q_val F rfl rfl (by decide) (r_move F rfl) fun a F => ?_
                refine q_yes F rfl (by decide) rfl (congrArg not (decide_eq_true hb320)) ?_
                refine q_val F rfl rfl (by decide) (r_neq F rfl rfl) fun a F => ?_
                refine q_val F rfl rfl (by decide) (r_pick_f F rfl (congrArg not (decide_eq_true hb320)) rfl) fun a F => ?_
                refine q_val F rfl rfl (by decide) (r_move F rfl) fun a F => ?_
                by_cases hb321 : t216 = 2
                · replace H := (if_pos hb321).symm.trans H
                  refine q_yes F rfl (by decide) rfl (congrArg not (decide_eq_true hb321)) ?_
                  refine q_val F rfl rfl (by decide) (r_move F rfl) fun a F => ?_
                  replace H := bind_some H
                  obtain ⟨t322, q323, H⟩ := H
                  refine q_yes F rfl (by decide) rfl (congrArg not (decide_eq_true hb321)) ?_
                  refine q_call F rfl rfl (by decide) (r_call F Try.func13 rfl (by kernel_rfl) rfl) (haulagelaw20_num.calls (m := m + 10) (Nat.add_pos_left hm0 _) B _ q323) ?_
                  rintro e w325 ⟨c324, rfl, E326, B327⟩
                  refine ⟨_, rfl, fun a F => ?_⟩
                  have B := B327
                  replace h171 := SL.ev h171 E326 (fun q => q.elim) (fun q => q.elim)
                  replace h178 := AT.ev h178 E326 (fun q => q.elim)
                  replace h193 := SL.ev h193 E326 (fun q => q.elim) (fun q => q.elim)
                  replace h200 := AT.ev h200 E326 (fun q => q.elim)
                  replace h248 := SL.ev h248 E326 (fun q => q.elim) (fun q => q.elim)
                  replace h265 := SL.ev h265 E326 (fun q => q.elim) (fun q => q.elim)
                  replace h273 := BG.ev h273 E326 (fun q => q.elim) (fun q => q.elim) (fun q => q.elim)
                  replace h291 := SL.ev h291 E326 (fun q => q.elim) (fun q => q.elim)
                  replace E := E.trans E326 (fun x q => q.elim)
                  refine q_yes F rfl (by decide) rfl (congrArg not (decide_eq_true hb321)) ?_
                  refine q_val F rfl rfl (by decide) (r_neq F rfl rfl) fun a F => ?_
                  refine q_val F rfl rfl (by decide) (r_pick_f F rfl (congrArg not (decide_eq_true hb321)) rfl) fun a F => ?_
                  refine q_val F rfl rfl (by decide) (r_move F rfl) fun a F => ?_
                  by_cases hb329 : t322 = 200
                  · replace H := (if_pos hb329).symm.trans H
                    refine q_yes F rfl (by decide) rfl (congrArg not (decide_eq_true hb329)) ?_
                    refine q_val F rfl rfl (by decide) (r_move F rfl) fun a F => ?_
                    replace H := bind_some H
                    obtain ⟨t330, q331, H⟩ := H
                    refine q_yes F rfl (by decide) rfl (congrArg not (decide_eq_true hb329)) ?_
                    refine q_call F rfl rfl (by decide) (r_call F Try.func13 rfl (by kernel_rfl) rfl) (haulagelaw20_num.calls (m := m + 10) (Nat.add_pos_left hm0 _) B _ q331) ?_
                    rintro e w333 ⟨c332, rfl, E334, B335⟩
                    refine ⟨_, rfl, fun a F => ?_⟩
                    have B := B335
                    replace h171 := SL.ev h171 E334 (fun q => q.elim) (fun q => q.elim)
                    replace h178 := AT.ev h178 E334 (fun q => q.elim)
                    replace h193 := SL.ev h193 E334 (fun q => q.elim) (fun q => q.elim)
                    replace h200 := AT.ev h200 E334 (fun q => q.elim)
                    replace h248 := SL.ev h248 E334 (fun q => q.elim) (fun q => q.elim)
                    replace h265 := SL.ev h265 E334 (fun q => q.elim) (fun q => q.elim)
                    replace h273 := BG.ev h273 E334 (fun q => q.elim) (fun q => q.elim) (fun q => q.elim)
                    replace h291 := SL.ev h291 E334 (fun q => q.elim) (fun q => q.elim)
                    replace E := E.trans E334 (fun x q => q.elim)
                    refine q_yes F rfl (by decide) rfl (congrArg not (decide_eq_true hb329)) ?_
                    refine q_val F rfl rfl (by decide) (r_neq F rfl rfl) fun a F => ?_
                    refine q_val F rfl rfl (by decide) (r_pick_f F rfl (congrArg not (decide_eq_true hb329)) rfl) fun a F => ?_
                    refine q_val F rfl rfl (by decide) (r_move F rfl) fun a F => ?_
                    by_cases hb337 : t330 = 2
                    · replace H := (if_pos hb337).symm.trans H
                      refine q_yes F rfl (by decide) rfl (congrArg not (decide_eq_true hb337)) ?_
                      refine q_val F rfl rfl (by decide) (r_move F rfl) fun a F => ?_
                      replace H := bind_some H
                      obtain ⟨t338, q339, H⟩ := H
                      refine q_yes F rfl (by decide) rfl (congrArg not (decide_eq_true hb337)) ?_
                      refine q_call F rfl rfl (by decide) (r_call F Try.func13 rfl (by kernel_rfl) rfl) (haulagelaw20_num.calls (m := m + 10) (Nat.add_pos_left hm0 _) B _ q339) ?_
                      rintro e w341 ⟨c340, rfl, E342, B343⟩
                      refine ⟨_, rfl, fun a F => ?_⟩
                      have B := B343
                      replace h171 := SL.ev h171 E342 (fun q => q.elim) (fun q => q.elim)
                      replace h178 := AT.ev h178 E342 (fun q => q.elim)
                      replace h193 := SL.ev h193 E342 (fun q => q.elim) (fun q => q.elim)
                      replace h200 := AT.ev h200 E342 (fun q => q.elim)
                      replace h248 := SL.ev h248 E342 (fun q => q.elim) (fun q => q.elim)
                      replace h265 := SL.ev h265 E342 (fun q => q.elim) (fun q => q.elim)
                      replace h273 := BG.ev h273 E342 (fun q => q.elim) (fun q => q.elim) (fun q => q.elim)
                      replace h291 := SL.ev h291 E342 (fun q => q.elim) (fun q => q.elim)
                      replace E := E.trans E342 (fun x q => q.elim)
                      refine q_yes F rfl (by decide) rfl (congrArg not (decide_eq_true hb337)) ?_
                      refine q_val F rfl rfl (by decide) (r_neq F rfl rfl) fun a F => ?_
                      refine q_val F rfl rfl (by decide) (r_pick_f F rfl (congrArg not (decide_eq_true hb337)) rfl) fun a F => ?_
                      refine q_val F rfl rfl (by decide) (r_move F rfl) fun a F => ?_
                      by_cases hb345 : t338 = 2
                      · replace H := (if_pos hb345).symm.trans H
                        refine q_yes F rfl (by decide) rfl (congrArg not (decide_eq_true hb345)) ?_
                        refine q_val F rfl rfl (by decide) (r_move F rfl) fun a F => ?_
                        replace H := bind_some H
                        obtain ⟨t346, q347, H⟩ := H
                        refine q_yes F rfl (by decide) rfl (congrArg not (decide_eq_true hb345)) ?_
                        refine q_call F rfl rfl (by decide) (r_call F Try.func13 rfl (by kernel_rfl) rfl) (haulagelaw20_num.calls (m := m + 10) (Nat.add_pos_left hm0 _) B _ q347) ?_
                        rintro e w349 ⟨c348, rfl, E350, B351⟩
                        refine ⟨_, rfl, fun a F => ?_⟩
                        have B := B351
                        replace h171 := SL.ev h171 E350 (fun q => q.elim) (fun q => q.elim)
                        replace h178 := AT.ev h178 E350 (fun q => q.elim)
                        replace h193 := SL.ev h193 E350 (fun q => q.elim) (fun q => q.elim)
                        replace h200 := AT.ev h200 E350 (fun q => q.elim)
                        replace h248 := SL.ev h248 E350 (fun q => q.elim) (fun q => q.elim)
                        replace h265 := SL.ev h265 E350 (fun q => q.elim) (fun q => q.elim)
                        replace h273 := BG.ev h273 E350 (fun q => q.elim) (fun q => q.elim) (fun q => q.elim)
                        replace h291 := SL.ev h291 E350 (fun q => q.elim) (fun q => q.elim)
                        replace E := E.trans E350 (fun x q => q.elim)
                        refine q_yes F rfl (by decide) rfl (congrArg not (decide_eq_true hb345)) ?_
                        refine q_val F rfl rfl (by decide) (r_neq F rfl rfl) fun a F => ?_
                        refine q_val F rfl rfl (by decide) (r_pick_f F rfl (congrArg not (decide_eq_true hb345)) rfl) fun a F => ?_
                        refine nil ?_
                        exact J354 c348 w349 a (!decide (t346 = 3)) (F.sub ⟨rfl, rfl, trivial⟩) E B h273 H
                      · replace H := (if_neg hb345).symm.trans H
                        refine q_no F rfl (by decide) rfl (congrArg not (decide_eq_false hb345)) (by decide) fun a F => ?_
                        refine q_no F rfl (by decide) rfl (congrArg not (decide_eq_false hb345)) (by decide) fun a F => ?_
                        refine q_no F rfl (by decide) rfl (congrArg not (decide_eq_false hb345)) (by decide) fun a F => ?_
                        refine q_val F rfl rfl (by decide) (r_pick_t F rfl (congrArg not (decide_eq_false hb345)) rfl) fun a F => ?_
                        refine nil ?_
                        exact J354 c340 w341 a true (F.sub ⟨rfl, rfl, trivial⟩) E B h273 H
                    · replace H := (if_neg hb337).symm.trans H
                      refine q_no F rfl (by decide) rfl (congrArg not (decide_eq_false hb337)) (by decide) fun a F => ?_
                      refine q_no F rfl (by decide) rfl (congrArg not (decide_eq_false hb337)) (by decide) fun a F => ?_
                      refine q_no F rfl (by decide) rfl (congrArg not (decide_eq_false hb337)) (by decide) fun a F => ?_
                      refine q_val F rfl rfl (by decide) (r_pick_t F rfl (congrArg not (decide_eq_false hb337)) rfl) fun a F => ?_
                      refine q_val F rfl rfl (by decide) (r_move F rfl) fun a F => ?_
                      refine q_no F rfl (by decide) rfl rfl (by decide) fun a F => ?_
                      refine q_no F rfl (by decide) rfl rfl (by decide) fun a F => ?_
                      refine q_no F rfl (by decide) rfl rfl (by decide) fun a F => ?_
                      refine q_val F rfl rfl (by decide) (r_pick_t F rfl rfl rfl) fun a F => ?_
                      refine nil ?_
                      exact J354 c332 w333 a true (F.sub ⟨rfl, rfl, trivial⟩) E B h273 H
                  · replace H := (if_neg hb329).symm.trans H
                    refine q_no F rfl (by decide) rfl (congrArg not (decide_eq_false hb329)) (by decide) fun a F => ?_
                    refine q_no F rfl (by decide) rfl (congrArg not (decide_eq_false hb329)) (by decide) fun a F => ?_
                    refine q_no F rfl (by decide) rfl (congrArg not (decide_eq_false hb329)) (by decide) fun a F => ?_
                    refine q_val F rfl rfl (by decide) (r_pick_t F rfl (congrArg not (decide_eq_false hb329)) rfl) fun a F => ?_
                    refine q_val F rfl rfl (by decide) (r_move F rfl) fun a F => ?_
                    refine q_no F rfl (by decide) rfl rfl (by decide) fun a F => ?_
                    refine q_no F rfl (by decide) rfl rfl (by decide) fun a F => ?_
                    refine q_no F rfl (by decide) rfl rfl (by decide) fun a F => ?_
                    refine q_val F rfl rfl (by decide) (r_pick_t F rfl rfl rfl) fun a F => ?_
                    refine q_val F rfl rfl (by decide) (r_move F rfl) fun a F => ?_
                    refine q_no F rfl (by decide) rfl rfl (by decide) fun a F => ?_
                    refine q_no F rfl (by decide) rfl rfl (by decide) fun a F => ?_
                    refine q_no F rfl (by decide) rfl rfl (by decide) fun a F => ?_
                    refine q_val F rfl rfl (by decide) (r_pick_t F rfl rfl rfl) fun a F => ?_
                    refine nil ?_
                    exact J354 c324 w325 a true (F.sub ⟨rfl, rfl, trivial⟩) E B h273 H
                · replace H := (if_neg hb321).symm.trans H
                  refine q_no F rfl (by decide) rfl (congrArg not (decide_eq_false hb321)) (by decide) fun a F => ?_
                  refine q_no F rfl (by decide) rfl (congrArg not (decide_eq_false hb321)) (by decide) fun a F => ?_
                  refine q_no F rfl (by decide) rfl (congrArg not (decide_eq_false hb321)) (by decide) fun a F => ?_
                  refine q_val F rfl rfl (by decide) (r_pick_t F rfl (congrArg not (decide_eq_false hb321)) rfl) fun a F => ?_
                  refine q_val F rfl rfl (by decide) (r_move F rfl) fun a F => ?_
                  refine q_no F rfl (by decide) rfl rfl (by decide) fun a F => ?_
                  refine q_no F rfl (by decide) rfl rfl (by decide) fun a F => ?_
                  refine q_no F rfl (by decide) rfl rfl (by decide) fun a F => ?_
                  refine q_val F rfl rfl (by decide) (r_pick_t F rfl rfl rfl) fun a F => ?_
                  refine q_val F rfl rfl (by decide) (r_move F rfl) fun a F => ?_
                  refine q_no F rfl (by decide) rfl rfl (by decide) fun a F => ?_
                  refine q_no F rfl (by decide) rfl rfl (by decide) fun a F => ?_
                  refine q_no F rfl (by decide) rfl rfl (by decide) fun a F => ?_
                  refine q_val F rfl rfl (by decide) (r_pick_t F rfl rfl rfl) fun a F => ?_
                  refine q_val F rfl rfl (by decide) (r_move F rfl) fun a F => ?_
                  refine q_no F rfl (by decide) rfl rfl (by decide) fun a F => ?_
                  refine q_no F rfl (by decide) rfl rfl (by decide) fun a F => ?_
                  refine q_no F rfl (by decide) rfl rfl (by decide) fun a F => ?_
                  refine q_val F rfl rfl (by decide) (r_pick_t F rfl rfl rfl) fun a F => ?_
                  refine nil ?_
                  exact J354 c315 w316 a true (F.sub ⟨rfl, rfl, trivial⟩) E B h273 H
              · replace H := (if_neg hb320).symm.trans H
                refine q_no F rfl (by decide) rfl (congrArg not (decide_eq_false hb320)) (by decide) fun a F => ?_
                refine q_no F rfl (by decide) rfl (congrArg not (decide_eq_false hb320)) (by decide) fun a F => ?_
                refine q_val F rfl rfl (by decide) (r_pick_t F rfl (congrArg not (decide_eq_false hb320)) rfl) fun a F => ?_
                refine q_val F rfl rfl (by decide) (r_move F rfl) fun a F => ?_
                refine q_no F rfl (by decide) rfl rfl (by decide) fun a F => ?_
                refine q_no F rfl (by decide) rfl rfl (by decide) fun a F => ?_
                refine q_no F rfl (by decide) rfl rfl (by decide) fun a F => ?_
                refine q_val F rfl rfl (by decide) (r_pick_t F rfl rfl rfl) fun a F => ?_
                refine q_val F rfl rfl (by decide) (r_move F rfl) fun a F => ?_
                refine q_no F rfl (by decide) rfl rfl (by decide) fun a F => ?_
                refine q_no F rfl (by decide) rfl rfl (by decide) fun a F => ?_
                refine q_no F rfl (by decide) rfl rfl (by decide) fun a F => ?_
                refine q_val F rfl rfl (by decide) (r_pick_t F rfl rfl rfl) fun a F => ?_
                refine q_val F rfl rfl (by decide) (r_move F rfl) fun a F => ?_
                refine q_no F rfl (by decide) rfl rfl (by decide) fun a F => ?_
                refine q_no F rfl (by decide) rfl rfl (by decide) fun a F => ?_
                refine q_no F rfl (by decide) rfl rfl (by decide) fun a F => ?_
                refine q_val F rfl rfl (by decide) (r_pick_t F rfl rfl rfl) fun a F => ?_
                refine q_val F rfl rfl (by decide) (r_move F rfl) fun a F => ?_
                refine q_no F rfl (by decide) rfl rfl (by decide) fun a F => ?_
                refine q_no F rfl (by decide) rfl rfl (by decide) fun a F => ?_
                refine q_no F rfl (by decide) rfl rfl (by decide) fun a F => ?_
                refine q_val F rfl rfl (by decide) (r_pick_t F rfl rfl rfl) fun a F => ?_
                refine nil ?_
                exact J354 c315 w316 a true (F.sub ⟨rfl, rfl, trivial⟩) E B h273 H
            · replace H := (if_neg hb312).symm.trans H
              refine q_no F rfl (by decide) rfl (congrArg not (decide_eq_false hb312)) (by decide) fun a F => ?_
              refine q_no F rfl (by decide) rfl (congrArg not (decide_eq_false hb312)) (by decide) fun a F => ?_
              refine q_no F rfl (by decide) rfl (congrArg not (decide_eq_false hb312)) (by decide) fun a F => ?_
              refine q_val F rfl rfl (by decide) (r_pick_t F rfl (congrArg not (decide_eq_false hb312)) rfl) fun a F => ?_
              refine q_val F rfl rfl (by decide) (r_move F rfl) fun a F => ?_
              refine q_no F rfl (by decide) rfl rfl (by decide) fun a F => ?_
              refine q_no F rfl (by decide) rfl rfl (by decide) fun a F => ?_
              refine q_val F rfl rfl (by decide) (r_pick_t F rfl rfl rfl) fun a F => ?_
              refine q_val F rfl rfl (by decide) (r_move F rfl) fun a F => ?_
              refine q_no F rfl (by decide) rfl rfl (by decide) fun a F => ?_
              refine q_no F rfl (by decide) rfl rfl (by decide) fun a F => ?_
              refine q_no F rfl (by decide) rfl rfl (by decide) fun a F => ?_
              refine q_val F rfl rfl (by decide) (r_pick_t F rfl rfl rfl) fun a F => ?_
              refine q_val F rfl rfl (by decide) (r_move F rfl) fun a F => ?_
              refine q_no F rfl (by decide) rfl rfl (by decide) fun a F => ?_
              refine q_no F rfl (by decide) rfl rfl (by decide) fun a F => ?_
              refine q_no F rfl (by decide) rfl rfl (by decide) fun a F => ?_
              refine q_val F rfl rfl (by decide) (r_pick_t F rfl rfl rfl) fun a F => ?_
              refine q_val F rfl rfl (by decide) (r_move F rfl) fun a F => ?_
              refine q_no F rfl (by decide) rfl rfl (by decide) fun a F => ?_
              refine q_no F rfl (by decide) rfl rfl (by decide) fun a F => ?_
              refine q_no F rfl (by decide) rfl rfl (by decide) fun a F => ?_
              refine q_val F rfl rfl (by decide) (r_pick_t F rfl rfl rfl) fun a F => ?_
              refine q_val F rfl rfl (by decide) (r_move F rfl) fun a F => ?_
              refine q_no F rfl (by decide) rfl rfl (by decide) fun a F => ?_
              refine q_no F rfl (by decide) rfl rfl (by decide) fun a F => ?_
              refine q_no F rfl (by decide) rfl rfl (by decide) fun a F => ?_
              refine q_val F rfl rfl (by decide) (r_pick_t F rfl rfl rfl) fun a F => ?_
              refine nil ?_
              exact J354 c307 w308 a true (F.sub ⟨rfl, rfl, trivial⟩) E B h273 H
          · replace H := (if_neg hb304).symm.trans H
            refine q_no F rfl (by decide) rfl (congrArg not (bfalse hb304)) (by decide) fun a F => ?_
            refine q_no F rfl (by decide) rfl (congrArg not (bfalse hb304)) (by decide) fun a F => ?_
            refine q_no F rfl (by decide) rfl (congrArg not (bfalse hb304)) (by decide) fun a F => ?_
            refine q_val F rfl rfl (by decide) (r_pick_t F rfl (congrArg not (bfalse hb304)) rfl) fun a F => ?_
            refine q_val F rfl rfl (by decide) (r_move F rfl) fun a F => ?_
            refine q_no F rfl (by decide) rfl rfl (by decide) fun a F => ?_
            refine q_no F rfl (by decide) rfl rfl (by decide) fun a F => ?_
            refine q_no F rfl (by decide) rfl rfl (by decide) fun a F => ?_
            refine q_val F rfl rfl (by decide) (r_pick_t F rfl rfl rfl) fun a F => ?_
            refine q_val F rfl rfl (by decide) (r_move F rfl) fun a F => ?_
            refine q_no F rfl (by decide) rfl rfl (by decide) fun a F => ?_
            refine q_no F rfl (by decide) rfl rfl (by decide) fun a F => ?_
            refine q_val F rfl rfl (by decide) (r_pick_t F rfl rfl rfl) fun a F => ?_
            refine q_val F rfl rfl (by decide) (r_move F rfl) fun a F => ?_
            refine q_no F rfl (by decide) rfl rfl (by decide) fun a F => ?_
            refine q_no F rfl (by decide) rfl rfl (by decide) fun a F => ?_
            refine q_no F rfl (by decide) rfl rfl (by decide) fun a F => ?_
            refine q_val F rfl rfl (by decide) (r_pick_t F rfl rfl rfl) fun a F => ?_
            refine q_val F rfl rfl (by decide) (r_move F rfl) fun a F => ?_
            refine q_no F rfl (by decide) rfl rfl (by decide) fun a F => ?_
            refine q_no F rfl (by decide) rfl rfl (by decide) fun a F => ?_
            refine q_no F rfl (by decide) rfl rfl (by decide) fun a F => ?_
            refine q_val F rfl rfl (by decide) (r_pick_t F rfl rfl rfl) fun a F => ?_
            refine q_val F rfl rfl (by decide) (r_move F rfl) fun a F => ?_
            refine q_no F rfl (by decide) rfl rfl (by decide) fun a F => ?_
            refine q_no F rfl (by decide) rfl rfl (by decide) fun a F => ?_
            refine q_no F rfl (by decide) rfl rfl (by decide) fun a F => ?_
            refine q_val F rfl rfl (by decide) (r_pick_t F rfl rfl rfl) fun a F => ?_
            refine q_val F rfl rfl (by decide) (r_move F rfl) fun a F => ?_
            refine q_no F rfl (by decide) rfl rfl (by decide) fun a F => ?_
            refine q_no F rfl (by decide) rfl rfl (by decide) fun a F => ?_
            refine q_no F rfl (by decide) rfl rfl (by decide) fun a F => ?_
            refine q_val F rfl rfl (by decide) (r_pick_t F rfl rfl rfl) fun a F => ?_
            refine nil ?_
            exact J354 c299 w300 a true (F.sub ⟨rfl, rfl, trivial⟩) E B h273 H
        · replace H := (if_neg hb284).symm.trans H
          refine q_no F rfl (by decide) rfl (congrArg not (decide_eq_false hb284)) (by decide) fun a F => ?_
          refine q_no F rfl (by decide) rfl (congrArg not (decide_eq_false hb284)) (by decide) fun a F => ?_
          refine q_no F rfl (by decide) rfl (congrArg not (decide_eq_false hb284)) (by decide) fun a F => ?_
          refine q_no F rfl (by decide) rfl (congrArg not (decide_eq_false hb284)) (by decide) fun a F => ?_
          refine q_no F rfl (by decide) rfl (congrArg not (decide_eq_false hb284)) (by decide) fun a F => ?_
          refine q_no F rfl (by decide) rfl (congrArg not (decide_eq_false hb284)) (by decide) fun a F => ?_
          refine q_val F rfl rfl (by decide) (r_pick_t F rfl (congrArg not (decide_eq_false hb284)) rfl) fun a F => ?_
          refine q_val F rfl rfl (by decide) (r_move F rfl) fun a F => ?_
          refine q_no F rfl (by decide) rfl rfl (by decide) fun a F => ?_
          refine q_no F rfl (by decide) rfl rfl (by decide) fun a F => ?_
          refine q_no F rfl (by decide) rfl rfl (by decide) fun a F => ?_
          refine q_val F rfl rfl (by decide) (r_pick_t F rfl rfl rfl) fun a F => ?_
          refine q_val F rfl rfl (by decide) (r_move F rfl) fun a F => ?_
          refine q_no F rfl (by decide) rfl rfl (by decide) fun a F => ?_
          refine q_no F rfl (by decide) rfl rfl (by decide) fun a F => ?_
          refine q_no F rfl (by decide) rfl rfl (by decide) fun a F => ?_
          refine q_val F rfl rfl (by decide) (r_pick_t F rfl rfl rfl) fun a F => ?_
          refine q_val F rfl rfl (by decide) (r_move F rfl) fun a F => ?_
          refine q_no F rfl (by decide) rfl rfl (by decide) fun a F => ?_
          refine q_no F rfl (by decide) rfl rfl (by decide) fun a F => ?_
          refine q_val F rfl rfl (by decide) (r_pick_t F rfl rfl rfl) fun a F => ?_
          refine q_val F rfl rfl (by decide) (r_move F rfl) fun a F => ?_
          refine q_no F rfl (by decide) rfl rfl (by decide) fun a F => ?_
          refine q_no F rfl (by decide) rfl rfl (by decide) fun a F => ?_
          refine q_no F rfl (by decide) rfl rfl (by decide) fun a F => ?_
          refine q_val F rfl rfl (by decide) (r_pick_t F rfl rfl rfl) fun a F => ?_
          refine q_val F rfl rfl (by decide) (r_move F rfl) fun a F => ?_
          refine q_no F rfl (by decide) rfl rfl (by decide) fun a F => ?_
          refine q_no F rfl (by decide) rfl rfl (by decide) fun a F => ?_
          refine q_no F rfl (by decide) rfl rfl (by decide) fun a F => ?_
          refine q_val F rfl rfl (by decide) (r_pick_t F rfl rfl rfl) fun a F => ?_
          refine q_val F rfl rfl (by decide) (r_move F rfl) fun a F => ?_
          refine q_no F rfl (by decide) rfl rfl (by decide) fun a F => ?_
          refine q_no F rfl (by decide) rfl rfl (by decide) fun a F => ?_
          refine q_no F rfl (by decide) rfl rfl (by decide) fun a F => ?_
          refine q_val F rfl rfl (by decide) (r_pick_t F rfl rfl rfl) fun a F => ?_
          refine q_val F rfl rfl (by decide) (r_move F rfl) fun a F => ?_
          refine q_no F rfl (by decide) rfl rfl (by decide) fun a F => ?_
          refine q_no F rfl (by decide) rfl rfl (by decide) fun a F => ?_
          refine q_no F rfl (by decide) rfl rfl (by decide) fun a F => ?_
          refine q_val F rfl rfl (by decide) (r_pick_t F rfl rfl rfl) fun a F => ?_
          refine nil ?_
          exact J354 c279 w280 a true (F.sub ⟨rfl, rfl, trivial⟩) E B h273 H
    refine reg ?_
    refine q_val F rfl rfl (by decide) (r_move F rfl) fun a F => ?_
    refine q_val F rfl rfl (by decide) (r_lensl F Try.underlying34 rfl) fun a F => ?_
    refine q_val F rfl rfl (by decide) (r_neq F rfl rfl) fun a F => ?_
    refine q_val F rfl rfl (by decide) (r_move F rfl) fun a F => ?_
    by_cases hb96 : (t84.length : Int) = 4
    · replace H := (if_pos hb96).symm.trans H
      refine q_yes F rfl (by decide) rfl (congrArg not (decide_eq_true hb96)) ?_
      refine q_val F rfl rfl (by decide) (r_move F rfl) fun a F => ?_
      replace H := ifN H
      obtain ⟨g97, H⟩ := H
      obtain ⟨ad98, cs99, e100, h101, r102⟩ := SL.at h92 0 g97.1 g97.2
      obtain ⟨A103, C104, rfl, h105⟩ := r102
      replace h105 := SL.fl (i' := 0) h105 (fun q => q)
      obtain ⟨qa106, qqa106⟩ : ∃ q, q = (ad98.add ((0 : Int).toNat * 4)) := ⟨_, rfl⟩
      have h101 : AT true 0 c86 w87 qa106 [.int .i64 ((rd t84 0).Number), .int .i64 ((rd t84 0).From), .int .i64 ((rd t84 0).To), .slice A103 ((rd t84 0).Data).length C104] := by rw [qqa106]; exact h101
      refine q_yes F rfl (by decide) rfl (congrArg not (decide_eq_true hb96)) ?_
      refine q_val F rfl rfl (by decide) (r_indexAddr' F Try.underlying34 sz_40 rfl rfl g97.1 g97.2 e100 qqa106) fun a F => ?_
      refine q_yes F rfl (by decide) rfl (congrArg not (decide_eq_true hb96)) ?_
      refine q_val F rfl rfl (by decide) (r_fieldAddr F rfl ff_40_0) fun a F => ?_
      refine q_yes F rfl (by decide) rfl (congrArg not (decide_eq_true hb96)) ?_
      refine q_val F rfl rfl (by decide) (r_load F rfl ag_3 (AT.cell h101 rfl)) fun a F => ?_
      refine q_yes F rfl (by decide) rfl (congrArg not (decide_eq_true hb96)) ?_
      refine q_val F rfl rfl (by decide) (r_neq F rfl rfl) fun a F => ?_
      refine q_val F rfl rfl (by decide) (r_pick_f F rfl (congrArg not (decide_eq_true hb96)) rfl) fun a F => ?_
      refine q_val F rfl rfl (by decide) (r_move F rfl) fun a F => ?_
      by_cases hb108 : ((rd t84 0).Number) = 0
      · replace H := (if_pos hb108).symm.trans H
        refine q_yes F rfl (by decide) rfl (congrArg not (decide_eq_true hb108)) ?_
        refine q_val F rfl rfl (by decide) (r_move F rfl) fun a F => ?_
        replace H := ifN H
        obtain ⟨g109, H⟩ := H
        obtain ⟨ad110, cs111, e112, h113, r114⟩ := SL.at h92 3 g109.1 g109.2
        obtain ⟨A115, C116, rfl, h117⟩ := r114
        replace h117 := SL.fl (i' := 0) h117 (fun q => q)
        obtain ⟨qa118, qqa118⟩ : ∃ q, q = (ad110.add ((3 : Int).toNat * 4)) := ⟨_, rfl⟩
        have h113 : AT true 0 c86 w87 qa118 [.int .i64 ((rd t84 3).Number), .int .i64 ((rd t84 3).From), .int .i64 ((rd t84 3).To), .slice A115 ((rd t84 3).Data).length C116] := by rw [qqa118]; exact h113
        refine q_yes F rfl (by decide) rfl (congrArg not (decide_eq_true hb108)) ?_
        refine q_val F rfl rfl (by decide) (r_indexAddr' F Try.underlying34 sz_40 rfl rfl g109.1 g109.2 e112 qqa118) fun a F => ?_
        refine q_yes F rfl (by decide) rfl (congrArg not (decide_eq_true hb108)) ?_
        refine q_val F rfl rfl (by decide) (r_fieldAddr F rfl ff_40_0) fun a F => ?_
        refine q_yes F rfl (by decide) rfl (congrArg not (decide_eq_true hb108)) ?_
        refine q_val F rfl rfl (by decide) (r_load F rfl ag_3 (AT.cell h113 rfl)) fun a F => ?_
        refine q_yes F rfl (by decide) rfl (congrArg not (decide_eq_true hb108)) ?_
        refine q_val F rfl rfl (by decide) (r_neq F rfl rfl) fun a F => ?_
        refine q_val F rfl rfl (by decide) (r_pick_f F rfl (congrArg not (decide_eq_true hb108)) rfl) fun a F => ?_
        refine q_val F rfl rfl (by decide) (r_move F rfl) fun a F => ?_
        by_cases hb120 : ((rd t84 3).Number) = 3
        · replace H := (if_pos hb120).symm.trans H
          refine q_yes F rfl (by decide) rfl (congrArg not (decide_eq_true hb120)) ?_
          refine q_val F rfl rfl (by decide) (r_move F rfl) fun a F => ?_
          replace H := bind_some H
          obtain ⟨t121, q122, H⟩ := H
          refine q_yes F rfl (by decide) rfl (congrArg not (decide_eq_true hb120)) ?_
          refine q_call F rfl rfl (by decide) (r_call F Try.func16 rfl (by kernel_rfl) rfl) (bag_Bag_For.calls (m := m + 10) (Nat.add_pos_left hm0 _) B h81 (by omega) (by omega) 0 (Nat.add_pos_left hm0 _) _ q122) ?_
          rintro e w124 ⟨c123, A127, C128, rfl, E125, B126, h129⟩
          refine ⟨_, rfl, fun a F => ?_⟩
          have B := B126
          replace h30 := SL.ev h30 E125 (fun q => q.elim) (fun q => q.elim)
          replace h51 := SL.ev h51 E125 (fun q => q.elim) (fun q => q.elim)
          replace h81 := BG.ev h81 E125 (fun q => q.elim) (fun q => q.elim) (fun q => q.elim)
          replace h92 := SL.ev h92 E125 (fun q => q.elim) (fun q => q.elim)
          replace h105 := SL.ev h105 E125 (fun q => q.elim) (fun q => q.elim)
          replace h101 := AT.ev h101 E125 (fun q => q.elim)
          replace h117 := SL.ev h117 E125 (fun q => q.elim) (fun q => q.elim)
          replace h113 := AT.ev h113 E125 (fun q => q.elim)
          replace E := E.trans E125 (fun x q => q.elim)
          refine q_yes F rfl (by decide) rfl (congrArg not (decide_eq_true hb120)) ?_
          refine q_eff F rfl rfl (by decide) (e_buildSlice (n := 2) (e := 3) (c := c123) (k := (Kint .i64)) (i := 0) F [(0, .int .i64 0), (1, .int .i64 2)] [.int .i64 0, .int .i64 2] ([0, 2] : List Int) (by exact ⟨rfl, rfl, rfl, rfl, trivial⟩) (fun w => by kernel_rfl) rfl (by decide) rfl ⟨rfl, rfl, trivial⟩ (fun q => q) 0) ?_
          rintro v w132 a ⟨c131, A133, C134, rfl, E135, h136, B137⟩ F
          replace B := B137 _ B (Nat.add_pos_left hm0 _)
          replace h30 := SL.ev h30 E135 (fun q => q.elim) (fun q => q.elim)
          replace h51 := SL.ev h51 E135 (fun q => q.elim) (fun q => q.elim)
          replace h81 := BG.ev h81 E135 (fun q => q.elim) (fun q => q.elim) (fun q => q.elim)
          replace h92 := SL.ev h92 E135 (fun q => q.elim) (fun q => q.elim)
          replace h105 := SL.ev h105 E135 (fun q => q.elim) (fun q => q.elim)
          replace h101 := AT.ev h101 E135 (fun q => q.elim)
          replace h117 := SL.ev h117 E135 (fun q => q.elim) (fun q => q.elim)
          replace h113 := AT.ev h113 E135 (fun q => q.elim)
          replace h129 := SL.ev h129 E135 (fun q => q.elim) (fun q => q.elim)
          replace E := E.trans E135 (fun x q => q.elim)
          replace H := bind_some H
          obtain ⟨t138, q139, H⟩ := H
          refine q_yes F rfl (by decide) rfl (congrArg not (decide_eq_true hb120)) ?_
          refine q_call F rfl rfl (by decide) (r_call F Try.func20 rfl (by kernel_rfl) rfl) (haulagelaw20_ints.calls k (m := m + 10) (Nat.add_pos_left hm0 _) B h129.r h136.r _ q139) ?_
          rintro e w141 ⟨c140, rfl, E142, B143⟩
          refine ⟨_, rfl, fun a F => ?_⟩
          have B := B143
          replace h30 := SL.ev h30 E142 (fun q => q.elim) (fun q => q.elim)
          replace h51 := SL.ev h51 E142 (fun q => q.elim) (fun q => q.elim)
          replace h81 := BG.ev h81 E142 (fun q => q.elim) (fun q => q.elim) (fun q => q.elim)
          replace h92 := SL.ev h92 E142 (fun q => q.elim) (fun q => q.elim)
          replace h105 := SL.ev h105 E142 (fun q => q.elim) (fun q => q.elim)
          replace h101 := AT.ev h101 E142 (fun q => q.elim)
          replace h117 := SL.ev h117 E142 (fun q => q.elim) (fun q => q.elim)
          replace h113 := AT.ev h113 E142 (fun q => q.elim)
          replace h129 := SL.ev h129 E142 (fun q => q.elim) (fun q => q.elim)
          replace h136 := SL.ev h136 E142 (fun q => q.elim) (fun q => q.elim)
          replace E := E.trans E142 (fun x q => q.elim)
          refine q_yes F rfl (by decide) rfl (congrArg not (decide_eq_true hb120)) ?_
          refine q_val F rfl rfl (by decide) (r_not F rfl) fun a F => ?_
          refine q_val F rfl rfl (by decide) (r_pick_f F rfl (congrArg not (decide_eq_true hb120)) rfl) fun a F => ?_
          refine q_val F rfl rfl (by decide) (r_move F rfl) fun a F => ?_
          by_cases hb145 : t138 = true
          · replace H := (if_pos hb145).symm.trans H
            refine q_yes F rfl (by decide) rfl (congrArg not hb145) ?_
            refine q_val F rfl rfl (by decide) (r_move F rfl) fun a F => ?_
            replace H := bind_some H
            obtain ⟨t146, q147, H⟩ := H
            refine q_yes F rfl (by decide) rfl (congrArg not hb145) ?_
            refine q_call F rfl rfl (by decide) (r_call F Try.func16 rfl (by kernel_rfl) rfl) (bag_Bag_For.calls (m := m + 10) (Nat.add_pos_left hm0 _) B h81 (by omega) (by omega) 0 (Nat.add_pos_left hm0 _) _ q147) ?_
            rintro e w149 ⟨c148, A152, C153, rfl, E150, B151, h154⟩
            refine ⟨_, rfl, fun a F => ?_⟩
            have B := B151
            replace h30 := SL.ev h30 E150 (fun q => q.elim) (fun q => q.elim)
            replace h51 := SL.ev h51 E150 (fun q => q.elim) (fun q => q.elim)
            replace h81 := BG.ev h81 E150 (fun q => q.elim) (fun q => q.elim) (fun q => q.elim)
            replace h92 := SL.ev h92 E150 (fun q => q.elim) (fun q => q.elim)
            replace h105 := SL.ev h105 E150 (fun q => q.elim) (fun q => q.elim)
            replace h101 := AT.ev h101 E150 (fun q => q.elim)
            replace h117 := SL.ev h117 E150 (fun q => q.elim) (fun q => q.elim)
            replace h113 := AT.ev h113 E150 (fun q => q.elim)
            replace h129 := SL.ev h129 E150 (fun q => q.elim) (fun q => q.elim)
            replace h136 := SL.ev h136 E150 (fun q => q.elim) (fun q => q.elim)
            replace E := E.trans E150 (fun x q => q.elim)
            refine q_yes F rfl (by decide) rfl (congrArg not hb145) ?_
            refine q_val F rfl rfl (by decide) (r_lensl F Try.underlying36 rfl) fun a F => ?_
            refine q_yes F rfl (by decide) rfl (congrArg not hb145) ?_
            refine q_val F rfl rfl (by decide) (r_neq F rfl rfl) fun a F => ?_
            refine q_val F rfl rfl (by decide) (r_pick_f F rfl (congrArg not hb145) rfl) fun a F => ?_
            refine nil ?_
            exact J157 c148 w149 a (!decide ((t146.length : Int) = 0)) (F.sub ⟨rfl, rfl, trivial⟩) E B h81 H
          · replace H := (if_neg hb145).symm.trans H
            refine q_no F rfl (by decide) rfl (congrArg not (bfalse hb145)) (by decide) fun a F => ?_
            refine q_no F rfl (by decide) rfl (congrArg not (bfalse hb145)) (by decide) fun a F => ?_
            refine q_no F rfl (by decide) rfl (congrArg not (bfalse hb145)) (by decide) fun a F => ?_
            refine q_no F rfl (by decide) rfl (congrArg not (bfalse hb145)) (by decide) fun a F => ?_
            refine q_val F rfl rfl (by decide) (r_pick_t F rfl (congrArg not (bfalse hb145)) rfl) fun a F => ?_
            refine nil ?_
            exact J157 c140 w141 a true (F.sub ⟨rfl, rfl, trivial⟩) E B h81 H
        · replace H := (if_neg hb120).symm.trans H
          refine q_no F rfl (by decide) rfl (congrArg not (decide_eq_false hb120)) (by decide) fun a F => ?_
          refine q_no F rfl (by decide) rfl (congrArg not (decide_eq_false hb120)) (by decide) fun a F => ?_
          refine q_no F rfl (by decide) rfl (congrArg not (decide_eq_false hb120)) (by decide) fun a F => ?_
          refine q_no F rfl (by decide) rfl (congrArg not (decide_eq_false hb120)) (by decide) fun a F => ?_
          refine q_no F rfl (by decide) rfl (congrArg not (decide_eq_false hb120)) (by decide) fun a F => ?_
          refine q_val F rfl rfl (by decide) (r_pick_t F rfl (congrArg not (decide_eq_false hb120)) rfl) fun a F => ?_
          refine q_val F rfl rfl (by decide) (r_move F rfl) fun a F => ?_
          refine q_no F rfl (by decide) rfl rfl (by decide) fun a F => ?_
          refine q_no F rfl (by decide) rfl rfl (by decide) fun a F => ?_
          refine q_no F rfl (by decide) rfl rfl (by decide) fun a F => ?_
          refine q_no F rfl (by decide) rfl rfl (by decide) fun a F => ?_
          refine q_val F rfl rfl (by decide) (r_pick_t F rfl rfl rfl) fun a F => ?_
          refine nil ?_
          exact J157 c86 w87 a true (F.sub ⟨rfl, rfl, trivial⟩) E B h81 H
      · replace H := (if_neg hb108).symm.trans H
        refine q_no F rfl (by decide) rfl (congrArg not (decide_eq_false hb108)) (by decide) fun a F => ?_
        refine q_no F rfl (by decide) rfl (congrArg not (decide_eq_false hb108)) (by decide) fun a F => ?_
        refine q_no F rfl (by decide) rfl (congrArg not (decide_eq_false hb108)) (by decide) fun a F => ?_
        refine q_no F rfl (by decide) rfl (congrArg not (decide_eq_false hb108)) (by decide) fun a F => ?_
        refine q_no F rfl (by decide) rfl (congrArg not (decide_eq_false hb108)) (by decide) fun a F => ?_
        refine q_val F rfl rfl (by decide) (r_pick_t F rfl (congrArg not (decide_eq_false hb108)) rfl) fun a F => ?_
        refine q_val F rfl rfl (by decide) (r_move F rfl) fun a F => ?_
        refine q_no F rfl (by decide) rfl rfl (by decide) fun a F => ?_
        refine q_no F rfl (by decide) rfl rfl (by decide) fun a F => ?_
        refine q_no F rfl (by decide) rfl rfl (by decide) fun a F => ?_
        refine q_no F rfl (by decide) rfl rfl (by decide) fun a F => ?_
        refine q_no F rfl (by decide) rfl rfl (by decide) fun a F => ?_
        refine q_val F rfl rfl (by decide) (r_pick_t F rfl rfl rfl) fun a F => ?_
        refine q_val F rfl rfl (by decide) (r_move F rfl) fun a F => ?_
        refine q_no F rfl (by decide) rfl rfl (by decide) fun a F => ?_
        refine q_no F rfl (by decide) rfl rfl (by decide) fun a F => ?_
        refine q_no F rfl (by decide) rfl rfl (by decide) fun a F => ?_
        refine q_no F rfl (by decide) rfl rfl (by decide) fun a F => ?_
        refine q_val F rfl rfl (by decide) (r_pick_t F rfl rfl rfl) fun a F => ?_
        refine nil ?_
        exact J157 c86 w87 a true (F.sub ⟨rfl, rfl, trivial⟩) E B h81 H
    · replace H := (if_neg hb96).symm.trans H
      refine q_no F rfl (by decide) rfl (congrArg not (decide_eq_false hb96)) (by decide) fun a F => ?_
      refine q_no F rfl (by decide) rfl (congrArg not (decide_eq_false hb96)) (by decide) fun a F => ?_
      refine q_no F rfl (by decide) rfl (congrArg not (decide_eq_false hb96)) (by decide) fun a F => ?_
      refine q_no F rfl (by decide) rfl (congrArg not (decide_eq_false hb96)) (by decide) fun a F => ?_
      refine q_no F rfl (by decide) rfl (congrArg not (decide_eq_false hb96)) (by decide) fun a F => ?_
      refine q_val F rfl rfl (by decide) (r_pick_t F rfl (congrArg not (decide_eq_false hb96)) rfl) fun a F => ?_
      refine q_val F rfl rfl (by decide) (r_move F rfl) fun a F => ?_
      refine q_no F rfl (by decide) rfl rfl (by decide) fun a F => ?_
      refine q_no F rfl (by decide) rfl rfl (by decide) fun a F => ?_
      refine q_no F rfl (by decide) rfl rfl (by decide) fun a F => ?_
      refine q_no F rfl (by decide) rfl rfl (by decide) fun a F => ?_
      refine q_no F rfl (by decide) rfl rfl (by decide) fun a F => ?_
      refine q_val F rfl rfl (by decide) (r_pick_t F rfl rfl rfl) fun a F => ?_
      refine q_val F rfl rfl (by decide) (r_move F rfl) fun a F => ?_
      refine q_no F rfl (by decide) rfl rfl (by decide) fun a F => ?_
      refine q_no F rfl (by decide) rfl rfl (by decide) fun a F => ?_
      refine q_no F rfl (by decide) rfl rfl (by decide) fun a F => ?_
      refine q_no F rfl (by decide) rfl rfl (by decide) fun a F => ?_
      refine q_no F rfl (by decide) rfl rfl (by decide) fun a F => ?_
      refine q_val F rfl rfl (by decide) (r_pick_t F rfl rfl rfl) fun a F => ?_
      refine q_val F rfl rfl (by decide) (r_move F rfl) fun a F => ?_
      refine q_no F rfl (by decide) rfl rfl (by decide) fun a F => ?_
      refine q_no F rfl (by decide) rfl rfl (by decide) fun a F => ?_
      refine q_no F rfl (by decide) rfl rfl (by decide) fun a F => ?_
      refine q_no F rfl (by decide) rfl rfl (by decide) fun a F => ?_
      refine q_val F rfl rfl (by decide) (r_pick_t F rfl rfl rfl) fun a F => ?_
      refine nil ?_
      exact J157 c86 w87 a true (F.sub ⟨rfl, rfl, trivial⟩) E B h81 H
  · replace H := (if_neg hb11).symm.trans H
    refine wp_cond_true ((F.ev rfl).trans (congrArg Value.bool (congrArg not (bfalse hb11)))) ?_
    refine wp_seq_k fun K12 hK12 => ?_
    refine reg ?_
    refine q_val F rfl rfl (by decide) (r_assign F rfl) fun a F => ?_
    refine nil ?_
    refine hK12 _ _ ?_
    refine wp_ret ?_
    refine thenR ?_
    replace H := Option.some.inj H
    subst H
    refine out1 F rfl rfl ?_
    exact ⟨fun b_ => (fun x_ => if x_ < m then x_ else 0) (c6 b_), rfl, E.leave B0 (fun x_ => if x_ < m then x_ else 0) (by intro x_ hx_; show (if x_ < m then x_ else 0) = x_; ((repeat' split) <;> omega)), (fun b_ hb_ => by show (if (c6 b_) < m then (c6 b_) else 0) < m; ((repeat' split) <;> omega))⟩
end Go.Proofs.Ytdlokohmdnkdoaa.G
/-! Arguments opened: what the reading of an argument says in the words of kinds. -/
namespace Go.Proofs.Ytdlokohmdnkdoaa.G
open Go Go.ChangeShapes Go.WideShapes
set_option linter.unusedVariables false
set_option linter.unusedSimpArgs false
/-! ### bulk -/
theorem bulk_one {H : Type} (d : DataW H) : 1 ≤ Rows.uptoBulk d := by
  cases d with
  | lit l => cases l <;> simp [Rows.uptoBulk]
  | nil => simp [Rows.uptoBulk]
  | ptr d => simp [Rows.uptoBulk]
  | slice elems spare => simp [Rows.uptoBulk]
  | agg parts => simp [Rows.uptoBulk]
  | iface t d => simp [Rows.uptoBulk]
  | map entries => simp [Rows.uptoBulk]
  | held h => simp [Rows.uptoBulk]
theorem bulk_slice {H : Type} (elems spare : List (DataW H)) : Rows.uptoBulkAll elems + 1 ≤ Rows.uptoBulk (.slice elems spare) := by
  simp only [Rows.uptoBulk]
  omega
theorem bulk_agg {H : Type} (parts : List (DataW H)) : Rows.uptoBulkAll parts + 1 ≤ Rows.uptoBulk (.agg parts) := by
  simp only [Rows.uptoBulk]
  omega
theorem bulk_all {H : Type} : ∀ l : List (DataW H), Rows.uptoBulkAll l = (l.map Rows.uptoBulk).sum
  | [] => by simp [Rows.uptoBulkAll]
  | d :: l => by simp [Rows.uptoBulkAll, bulk_all l]
/-! ### openers -/
def c0 : Nat → Nat := fun _ => 0
def Opens {α : Type} (P : Program) (w : World) (t : TypeId) (e : K α) (wt : α → Nat) (ok : α → Prop) : Prop :=
  ∀ (H : Type) (enc : TypeId × Value → H) (fuel : Nat) (cs : List Value) (x : DataW H × List MemPlace), DataW.trod enc P w 0 (fun _ => true) true fuel t cs = some x → ∃ y, e.rep 0 c0 w cs y ∧ wt y ≤ Rows.uptoBulk x.1 ∧ ok y
section
variable {α : Type} {P : Program} {w : World} {t u : TypeId} {e : K α} {wt : α → Nat} {ok : α → Prop}
theorem opens_int {k : IntKind} (ht : P.underlying t = some (.int k)) : Opens P w t (Kint k) (fun _ => 1) (fun n => (Lit.int k n).wf = true) := by
  intro H enc fuel cs x h
  obtain ⟨n, rfl, rfl, hw⟩ := DataW.trod_int ht h
  exact ⟨n, rfl, bulk_one _, hw⟩
theorem opens_bool (ht : P.underlying t = some .bool) : Opens P w t Kbool (fun _ => 1) (fun _ => True) := by
  intro H enc fuel cs x h
  obtain ⟨n, rfl, rfl⟩ := DataW.trod_bool ht h
  exact ⟨n, rfl, bulk_one _, trivial⟩
theorem at_cell {p : Addr} {v : Value} (h : w.cell? p = some v) : p = ⟨p.block, p.off, none⟩ ∧ ∃ cur ty fz, w.heap[p.block]? = some (.cells cur ty fz) ∧ cur[p.off]? = some v := by
  obtain ⟨b, off, spot⟩ := p
  simp only [World.cell?] at h
  split at h
  · rename_i c ty fz hb
    cases spot with
    | some s => simp at h
    | none => exact ⟨rfl, c, ty, fz, hb, by simpa using h⟩
  · cases h
theorem at_cells {p : Addr} {n : Nat} {cs : List Value} (hn : cs.length = n) (hp : 0 < n) (h : ∀ i, i < n → w.cell? (p.add i) = cs[i]?) : AT false 0 c0 w p cs := by
  have h0 := h 0 hp
  have e0 : p.add 0 = p := by simp [Addr.add]
  rw [e0, List.getElem?_eq_getElem (by omega)] at h0
  obtain ⟨ep, cur, ty, fz, hb, hc⟩ := at_cell h0
  refine ⟨p.block, p.off, cur, ty, fz, ep, hb, rfl, fun k hk => ?_, fun q => by cases q⟩
  have hk' := h k (by omega)
  rw [ep, add_eq] at hk'
  simp only [World.cell?, hb] at hk'
  simpa using hk'
theorem sum_le {β γ : Type} (f : β → Nat) (g : γ → Nat) : ∀ (l : List β) (m : List γ), l.length = m.length → (∀ i (h : i < l.length) (h' : i < m.length), f l[i] ≤ g m[i]) → (l.map f).sum ≤ (m.map g).sum
  | [], [], _, _ => Nat.le_refl _
  | [], _ :: _, h, _ => by simp at h
  | _ :: _, [], h, _ => by simp at h
  | a :: l, b :: m, h, hh => by
    simp only [List.map_cons, List.sum_cons]
    have h0 := hh 0 (by simp) (by simp)
    simp only [List.getElem_cons_zero] at h0
    have := sum_le f g l m (by simpa using h) (fun i h1 h2 => by
      have := hh (i + 1) (by simp; omega) (by simp; omega)
      simpa using this)
    omega
/-- A slice of them. -/
theorem open_sl [Inhabited α] (ht : P.underlying t = some (.slice u)) (hc : P.cellsOf u = e.sz) (hu : Opens P w u e wt ok) {H : Type} {enc : TypeId × Value → H} {fuel : Nat} {cs : List Value} {x : DataW H × List MemPlace}
    (h : DataW.trod enc P w 0 (fun _ => true) true fuel t cs = some x) :
    ∃ A cap xs, cs = [.slice A xs.length cap] ∧ SL false e 0 0 c0 w A cap xs ∧ (xs.map wt).sum + 1 ≤ Rows.uptoBulk x.1 ∧ ∀ y ∈ xs, ok y := by
  rcases Deep.open_slice ht h with ⟨rfl, rfl⟩ | ⟨a, len, cap, m, n, D, Pl, rfl, _, hl, hm, hmm, rfl, hx⟩
  · exact ⟨none, 0, [], rfl, SL.nil, by simp [Rows.uptoBulk], fun y hy => by cases hy⟩
  simp only [if_true] at hmm
  subst hmm
  have hp := e.pos
  rw [hc] at hx
  have each : ∀ i, i < m → ∃ y : List Value × α, (y.1.length = e.sz ∧ ∀ k, k < e.sz → w.cell? ((a.add (i * e.sz)).add k) = y.1[k]?) ∧ e.rep 0 c0 w y.1 y.2 ∧ wt y.2 ≤ Rows.uptoBulk (D i) ∧ ok y.2 := by
    intro i hi
    obtain ⟨cs', h1, h2⟩ := hx i hi
    obtain ⟨_, g1, g2⟩ := World.cells?_some h1
    obtain ⟨y, g3, g4, g5⟩ := hu H enc n cs' _ h2
    exact ⟨(cs', y), ⟨g1, g2⟩, g3, g4, g5⟩
  obtain ⟨y, hy⟩ := Deep.choose_lt each
  let V : Nat → Value := fun q => (y (q / e.sz)).1.getD (q % e.sz) default
  have hV : ∀ i k, k < e.sz → V (i * e.sz + k) = (y i).1.getD k default := by
    intro i k hk
    show (y ((i * e.sz + k) / e.sz)).1.getD ((i * e.sz + k) % e.sz) default = _
    rw [Nat.mul_comm, Nat.mul_add_div hp, Nat.div_eq_of_lt hk, Nat.add_zero, Nat.mul_add_mod, Nat.mod_eq_of_lt hk]
  let cs := (List.range (m * e.sz)).map V
  have hcs : cs.length = m * e.sz := by simp [cs]
  have hcell : ∀ q, q < m * e.sz → w.cell? (a.add q) = cs[q]? := by
    intro q hq
    have hi : q / e.sz < m := (Nat.div_lt_iff_lt_mul hp).2 hq
    have hk : q % e.sz < e.sz := Nat.mod_lt _ hp
    obtain ⟨⟨g1, g2⟩, _⟩ := hy _ hi
    have g := g2 _ hk
    have e1 : (a.add (q / e.sz * e.sz)).add (q % e.sz) = a.add q := by
      have e2 : q / e.sz * e.sz + q % e.sz = q := Nat.div_add_mod' q e.sz
      obtain ⟨b, off, s⟩ := a
      simp only [Addr.add]
      split <;> split <;> split <;> simp_all <;> omega
    rw [e1] at g
    rw [g]
    simp only [cs, List.getElem?_map, List.getElem?_range hq, Option.map_some]
    show _ = some ((y (q / e.sz)).1.getD (q % e.sz) default)
    rw [List.getD_eq_getElem?_getD, List.getElem?_eq_getElem (by omega)]
    rfl
  refine ⟨some a, m, (List.range len).map fun i => (y i).2, by simp, ⟨cs, by simpa using hl, hm, hcs, ?_, fun n hn => ?_⟩, ?_, ?_⟩
  · rcases Nat.eq_zero_or_pos (m * e.sz) with q | q
    · left; exact List.length_eq_zero_iff.1 (by omega)
    · right; exact ⟨a, rfl, at_cells hcs q hcell⟩
  · simp only [List.length_map, List.length_range] at hn
    obtain ⟨⟨g1, _⟩, g3, _, _⟩ := hy n (by omega)
    have e1 : (cs.drop (n * e.sz)).take e.sz = (y n).1 := by
      apply List.ext_getElem?
      intro k
      by_cases hk : k < e.sz
      · have hq : n * e.sz + k < m * e.sz := by
          have : (n + 1) * e.sz ≤ m * e.sz := Nat.mul_le_mul_right _ (by omega)
          rw [Nat.succ_mul] at this; omega
        rw [List.getElem?_take_of_lt hk, List.getElem?_drop]
        simp only [cs, List.getElem?_map, List.getElem?_range hq, Option.map_some]
        rw [hV n k hk, List.getD_eq_getElem?_getD, List.getElem?_eq_getElem (by omega)]
        rfl
      · rw [List.getElem?_eq_none (by simp; omega), List.getElem?_eq_none (by omega)]
    rw [e1]
    simpa using g3
  · refine Nat.le_trans (Nat.succ_le_succ ?_) (bulk_slice _ _)
    rw [bulk_all]
    rw [List.map_map, List.map_map]
    have := sum_le (fun i => wt (y i).2) (fun i => Rows.uptoBulk (D i)) (List.range len) (List.range len) rfl (fun i h1 h2 => by
      simp only [List.length_range] at h1
      simp only [List.getElem_range]
      exact (hy i (by omega)).2.2.1)
    exact this
  · intro z hz
    obtain ⟨i, hi, rfl⟩ := List.mem_map.1 hz
    exact (hy i (by have := List.mem_range.1 hi; omega)).2.2.2
theorem opens_slice [Inhabited α] (ht : P.underlying t = some (.slice u)) (hc : P.cellsOf u = e.sz) (hu : Opens P w u e wt ok) : Opens P w t (Kslice e) (fun xs => (xs.map wt).sum + 1) (fun xs => ∀ y ∈ xs, ok y) := by
  intro H enc fuel cs x h
  obtain ⟨A, cap, xs, h1, h2, h3, h4⟩ := open_sl ht hc hu h
  exact ⟨xs, ⟨A, cap, h1, h2⟩, h3, h4⟩
end
end Go.Proofs.Ytdlokohmdnkdoaa.G
/-! The arguments of the rows, opened. -/
namespace Go.Proofs.Ytdlokohmdnkdoaa.G
open Go Go.ChangeShapes Go.WideShapes
set_option linter.unusedVariables false
theorem row_own : ownKnob Try.prog.godebug = none := by kernel_rfl
theorem row_laidOut : laidOutB Try.prog = true := by kernel_rfl
def intok (n : Int) : Prop := (Lit.int .i64 n).wf = true
theorem intok.range {n : Int} (h : intok n) : -9223372036854775808 ≤ n ∧ n ≤ 9223372036854775807 := by simpa [intok, Lit.wf, IntKind.min, IntKind.max, IntKind.signed, IntKind.bits] using h
def byteok (n : Int) : Prop := (Lit.int .u8 n).wf = true
def bytesok (xs : List Int) : Prop := ∀ n ∈ xs, byteok n
theorem byteok.range {n : Int} (h : byteok n) : 0 ≤ n ∧ n ≤ 255 := by simpa [byteok, Lit.wf, IntKind.min, IntKind.max, IntKind.signed, IntKind.bits] using h
theorem sum_one {α : Type} (xs : List α) : (xs.map fun _ => 1).sum = xs.length := by
  induction xs with
  | nil => rfl
  | cons x xs ih => simp [ih]; omega
theorem mem_sum {α : Type} (f : α → Nat) : ∀ {xs : List α} {x : α}, x ∈ xs → f x ≤ (xs.map f).sum
  | y :: xs, x, h => by
    rcases List.mem_cons.1 h with e | h
    · subst e; simp
    · have := mem_sum f h; simp only [List.map_cons, List.sum_cons]; omega
theorem len_sum {α : Type} (f : α → Nat) (hf : ∀ x, 1 ≤ f x) : ∀ xs : List α, xs.length ≤ (xs.map f).sum
  | [] => Nat.le_refl _
  | x :: xs => by have := len_sum f hf xs; have := hf x; simp only [List.map_cons, List.sum_cons, List.length_cons]; omega
theorem cells_3 : Try.prog.cellsOf 3 = 1 := by kernel_rfl
theorem cells_5 : Try.prog.cellsOf 5 = 1 := by kernel_rfl
theorem cells_27 : Try.prog.cellsOf 27 = 1 := by kernel_rfl
theorem cells_53 : Try.prog.cellsOf 53 = 5 := by kernel_rfl
theorem opens_bytes {w : World} : Opens Try.prog w 27 (Kslice (Kint .u8)) (fun xs => xs.length + 1) bytesok := by
  intro H enc fuel cs x h
  obtain ⟨y, h1, h2, h3⟩ := opens_slice (e := Kint .u8) Try.underlying27 cells_5 (opens_int Try.underlying5) H enc fuel cs x h
  have h2' : (y.map fun _ => 1).sum + 1 ≤ Rows.uptoBulk x.1 := h2
  rw [sum_one] at h2'
  exact ⟨y, h1, h2', h3⟩
abbrev wt_haulagelaw20_Op (o : haulagelaw20_Op) : Nat := o.Data.length + 1
def ok_haulagelaw20_Op (o : haulagelaw20_Op) : Prop := intok o.Who ∧ intok o.Kind ∧ intok o.Number ∧ intok o.To ∧ bytesok o.Data
set_option maxRecDepth 100000 in
theorem opens_haulagelaw20_Op {w : World} : Opens Try.prog w 53 K_haulagelaw20_Op wt_haulagelaw20_Op ok_haulagelaw20_Op := by
  intro H enc fuel cs x h
  obtain ⟨xs, n, rfl, rfl, hl, hxl, hf⟩ := DataW.trod_struct Try.underlying53 h
  rw [cells_53] at hl
  match cs, hl with
  | [v0, v1, v2, v3, v4], _ =>
    match xs, hxl with
    | [x0, x1, x2, x3, x4], _ =>
      have g0 : DataW.trod enc Try.prog w 0 (fun _ => true) true n 3 (([v0, v1, v2, v3, v4].drop 0).take (Try.prog.cellsOf 3)) = some x0 := hf 0 _ rfl
      rw [cells_3] at g0
      replace g0 : DataW.trod enc Try.prog w 0 (fun _ => true) true n 3 [v0] = some x0 := g0
      obtain ⟨y0, r0, -, k0⟩ := opens_int (w := w) Try.underlying3 H enc n _ _ g0
      have g1 : DataW.trod enc Try.prog w 0 (fun _ => true) true n 3 (([v0, v1, v2, v3, v4].drop 1).take (Try.prog.cellsOf 3)) = some x1 := hf 1 _ rfl
      rw [cells_3] at g1
      replace g1 : DataW.trod enc Try.prog w 0 (fun _ => true) true n 3 [v1] = some x1 := g1
      obtain ⟨y1, r1, -, k1⟩ := opens_int (w := w) Try.underlying3 H enc n _ _ g1
      have g2 : DataW.trod enc Try.prog w 0 (fun _ => true) true n 3 (([v0, v1, v2, v3, v4].drop 2).take (Try.prog.cellsOf 3)) = some x2 := hf 2 _ rfl
      rw [cells_3] at g2
      replace g2 : DataW.trod enc Try.prog w 0 (fun _ => true) true n 3 [v2] = some x2 := g2
      obtain ⟨y2, r2, -, k2⟩ := opens_int (w := w) Try.underlying3 H enc n _ _ g2
      have g3 : DataW.trod enc Try.prog w 0 (fun _ => true) true n 3 (([v0, v1, v2, v3, v4].drop 3).take (Try.prog.cellsOf 3)) = some x3 := hf 3 _ rfl
      rw [cells_3] at g3
      replace g3 : DataW.trod enc Try.prog w 0 (fun _ => true) true n 3 [v3] = some x3 := g3
      obtain ⟨y3, r3, -, k3⟩ := opens_int (w := w) Try.underlying3 H enc n _ _ g3
      have g4 : DataW.trod enc Try.prog w 0 (fun _ => true) true n 27 (([v0, v1, v2, v3, v4].drop 4).take (Try.prog.cellsOf 27)) = some x4 := hf 4 _ rfl
      rw [cells_27] at g4
      replace g4 : DataW.trod enc Try.prog w 0 (fun _ => true) true n 27 [v4] = some x4 := g4
      obtain ⟨y4, ⟨A4, C4, e4, s4⟩, b4, k4⟩ := opens_bytes (w := w) H enc n _ _ g4
      obtain rfl : v0 = .int .i64 y0 := List.head_eq_of_cons_eq r0
      obtain rfl : v1 = .int .i64 y1 := List.head_eq_of_cons_eq r1
      obtain rfl : v2 = .int .i64 y2 := List.head_eq_of_cons_eq r2
      obtain rfl : v3 = .int .i64 y3 := List.head_eq_of_cons_eq r3
      obtain rfl := List.head_eq_of_cons_eq e4
      refine ⟨⟨y0, y1, y2, y3, y4⟩, ⟨A4, C4, rfl, s4⟩, ?_, ⟨k0, k1, k2, k3, k4⟩⟩
      refine Nat.le_trans ?_ (bulk_agg _)
      simp only [List.map_cons, List.map_nil, Rows.uptoBulkAll]
      have q0 := bulk_one x0.1
      have q1 := bulk_one x1.1
      have q2 := bulk_one x2.1
      have q3 := bulk_one x3.1
      have q4 : y4.length + 1 ≤ Rows.uptoBulk x4.1 := b4
      show y4.length + 1 ≤ _
      omega
theorem wt_haulagelaw20_Op_pos (o : haulagelaw20_Op) : 1 ≤ wt_haulagelaw20_Op o := by unfold wt_haulagelaw20_Op; omega
/-- an argument -/
theorem arg_ops {H : Type} {enc : TypeId × Value → H} {w : World} {v : Value} {d : DataW H} {p : List MemPlace} (hv : ∃ a len cap, v = .slice a len cap) (h : DataW.Trod enc Try.prog w 0 (fun _ => true) true 47 v d p) :
    ∃ A C xs, v = .slice A xs.length C ∧ SL false K_haulagelaw20_Op 0 0 c0 w A C xs ∧ (xs.map wt_haulagelaw20_Op).sum + 1 ≤ Rows.uptoBulk d ∧ ∀ o ∈ xs, ok_haulagelaw20_Op o := by
  obtain ⟨a, len, cap, rfl⟩ := hv
  obtain ⟨fuel, hf⟩ := h
  obtain ⟨A, C, xs, e, h1, h2, h3⟩ := open_sl (e := K_haulagelaw20_Op) Try.underlying47 cells_53 opens_haulagelaw20_Op hf
  refine ⟨A, C, xs, ?_, h1, h2, h3⟩
  have e' : [Value.slice a len cap] = [.slice A xs.length C] := e
  exact List.head_eq_of_cons_eq e'
/-- an argument -/
theorem arg_keys {H : Type} {enc : TypeId × Value → H} {w : World} {v : Value} {d : DataW H} {p : List MemPlace} (hv : ∃ a len cap, v = .slice a len cap) (h : DataW.Trod enc Try.prog w 0 (fun _ => true) true 22 v d p) :
    ∃ A C xs, v = .slice A xs.length C ∧ SL false (Kslice (Kint .u8)) 0 0 c0 w A C xs ∧ (xs.map (fun x => x.length + 1)).sum + 1 ≤ Rows.uptoBulk d ∧ ∀ o ∈ xs, bytesok o := by
  obtain ⟨a, len, cap, rfl⟩ := hv
  obtain ⟨fuel, hf⟩ := h
  obtain ⟨A, C, xs, e, h1, h2, h3⟩ := open_sl (e := (Kslice (Kint .u8))) Try.underlying22 cells_27 opens_bytes hf
  refine ⟨A, C, xs, ?_, h1, h2, h3⟩
  have e' : [Value.slice a len cap] = [.slice A xs.length C] := e
  exact List.head_eq_of_cons_eq e'
end Go.Proofs.Ytdlokohmdnkdoaa.G
/-! Words of the plain laws: loops, numbers, places. -/
namespace Go.Proofs.Ytdlokohmdnkdoaa.G
open Go
set_option linter.unusedVariables false
set_option linter.unusedSimpArgs false
theorem bind_eq {α β : Type} {x : Option α} {f : α → Option β} {a : α} (h : x = some a) : x.bind f = f a := by rw [h]; rfl
theorem loop_next {S X : Type} {f : S → Option (Ctl S X)} {n : Nat} {s s' : S} (h : f s = some (.next s')) : loop f (n + 1) s = loop f n s' := by
  show (f s).bind _ = _; rw [h]; rfl
theorem loop_done {S X : Type} {f : S → Option (Ctl S X)} {n : Nat} {s : S} {x : X} (h : f s = some (.done x)) : loop f (n + 1) s = some x := by
  show (f s).bind _ = _; rw [h]; rfl
theorem loop_inv {S X : Type} {f : S → Option (Ctl S X)} {I : Nat → S → Prop} {P : X → Prop} {N : Nat}
    (step : ∀ i s, i < N → I i s → (∃ s', f s = some (.next s') ∧ I (i + 1) s') ∨ (∃ x, f s = some (.done x) ∧ P x))
    (last : ∀ s, I N s → ∃ x, f s = some (.done x) ∧ P x) : ∀ (n i : Nat) (s : S) (m : Nat), I i s → i + n = N → n < m → ∃ x, loop f m s = some x ∧ P x
  | _, _, _, 0, _, _, h => absurd h (by omega)
  | 0, i, s, m + 1, hI, hN, _ => by
    obtain rfl : i = N := by omega
    obtain ⟨x, h1, h2⟩ := last s hI
    exact ⟨x, loop_done h1, h2⟩
  | n + 1, i, s, m + 1, hI, hN, hm => by
    rcases step i s (by omega) hI with ⟨s', h1, h2⟩ | ⟨x, h1, h2⟩
    · rw [loop_next h1]
      exact loop_inv step last n (i + 1) s' m h2 (by omega) (by omega)
    · exact ⟨x, loop_done h1, h2⟩
/-- a loop that goes on to its end -/
theorem loop_run {S X : Type} {f : S → Option (Ctl S X)} {I : Nat → S → Prop} {P : X → Prop} {N : Nat} {k : Nat} {s : S}
    (step : ∀ i s, i < N → I i s → ∃ s', f s = some (.next s') ∧ I (i + 1) s') (last : ∀ s, I N s → ∃ x, f s = some (.done x) ∧ P x) (h0 : I 0 s) (hk : N < k) : ∃ x, loop f k s = some x ∧ P x :=
  loop_inv (fun i s hi h => .inl (step i s hi h)) last N 0 s k h0 (by omega) hk
theorem wr {n : Int} (h0 : -1000000000000000000 ≤ n) (h1 : n ≤ 1000000000000000000) : IntKind.i64.wrap n = n := by rw [IntKind.wrap_i64]; omega
theorem wrS (i : Nat) (h : i < 1000000000000000) : IntKind.i64.wrap ((i : Int) + 1) = ((i + 1 : Nat) : Int) := by rw [wr (by omega) (by omega)]; omega
theorem rd_eq {α : Type} [Inhabited α] {xs : List α} {i : Nat} (h : i < xs.length) : rd xs (i : Int) = xs[i] := by
  unfold rd
  rw [Int.toNat_natCast, List.getD_eq_getElem?_getD, List.getElem?_eq_getElem h]
  rfl
theorem rd_mem {α : Type} [Inhabited α] {xs : List α} {i : Int} (h0 : 0 ≤ i) (h : i < xs.length) : rd xs i ∈ xs := by
  have e : i = ((i.toNat : Nat) : Int) := by omega
  rw [e, rd_eq (by omega)]
  exact List.getElem_mem _
theorem rd_app1 {α : Type} [Inhabited α] {xs ys : List α} {i : Int} (h : i < xs.length) (h0 : 0 ≤ i) : rd (xs ++ ys) i = rd xs i := by
  have e : i = ((i.toNat : Nat) : Int) := by omega
  rw [e, rd_eq (by simp; omega), rd_eq (by omega), List.getElem_append_left (by omega)]
theorem rd_app2 {α : Type} [Inhabited α] {xs : List α} {y : α} {i : Int} (h : i = xs.length) : rd (xs ++ [y]) i = y := by
  subst h; rw [rd_eq (by simp)]; simp
theorem wf64 {n : Int} (h0 : -9223372036854775808 ≤ n) (h1 : n ≤ 9223372036854775807) : (Lit.int .i64 n).wf = true := by
  simp [Lit.wf, IntKind.min, IntKind.max, IntKind.signed, IntKind.bits]; omega
def Fuel (k : Nat) : Prop := 1099511627776 ≤ k
end Go.Proofs.Ytdlokohmdnkdoaa.G
/-! The plain laws of BagKnown and BagNothingElse. -/
namespace Go.Proofs.Ytdlokohmdnkdoaa.G
open Go
set_option linter.unusedVariables false
set_option linter.unusedSimpArgs false
theorem same_loop (a b : List Int) (hl : a.length = b.length) : ∀ (n i m : Nat), i + n = a.length → n < m → a.length < 4000000000 →
    loop (fun (s_ : Int) => haulagelaw20_same.b1 a b s_) m (i : Int) = some (if a.drop i = b.drop i then Sum.inl () else Sum.inr false)
  | _, _, 0, _, h, _ => absurd h (by omega)
  | 0, i, m + 1, h, _, _ => by
    refine loop_done ?_
    unfold haulagelaw20_same.b1
    rw [if_neg (by omega), if_pos]
    rw [List.drop_of_length_le (by omega), List.drop_of_length_le (by omega)]
  | n + 1, i, m + 1, h, hm, hb => by
    have hi : i < a.length := by omega
    have hj : i < b.length := by omega
    rw [List.drop_eq_getElem_cons hi, List.drop_eq_getElem_cons hj]
    by_cases c : a[i] = b[i]
    · rw [loop_next (s' := ((i + 1 : Nat) : Int)), same_loop a b hl n (i + 1) m (by omega) (by omega) hb]
      · simp only [c, List.cons.injEq, true_and]
      · unfold haulagelaw20_same.b1
        rw [if_pos (by omega), if_pos (by omega), if_pos (by omega), rd_eq hi, rd_eq hj, if_pos c, wrS i (by omega)]
    · rw [if_neg (by simp only [List.cons.injEq, c, false_and, not_false_eq_true])]
      refine loop_done ?_
      unfold haulagelaw20_same.b1
      rw [if_pos (by omega), if_pos (by omega), if_pos (by omega), rd_eq hi, rd_eq hj, if_neg c]
theorem same_eq {k : Nat} (hk : Fuel k) (a b : List Int) (h : a.length < 4000000000 ∨ b.length < 4000000000) : haulagelaw20_same.f k a b = some (decide (a = b)) := by
  have h24 : 1099511627776 ≤ k := hk
  unfold haulagelaw20_same.f
  by_cases c : a.length = b.length
  · rw [if_pos (by omega), show (0 : Int) = ((0 : Nat) : Int) from rfl, bind_eq (same_loop a b c a.length 0 k (by omega) (by omega) (by omega))]
    simp only [List.drop_zero]
    by_cases e : a = b
    · simp [e, haulagelaw20_same.j2]
    · simp [e]
  · rw [if_neg (by omega), decide_eq_false (fun e => c (by rw [e]))]
theorem alike_eq {k : Nat} (hk : Fuel k) (a b : api_Letter) (h : a.Data.length < 4000000000 ∨ b.Data.length < 4000000000) : haulagelaw20_alike.f k a b = some (decide (a = b)) := by
  obtain ⟨a1, a2, a3, a4⟩ := a
  obtain ⟨b1, b2, b3, b4⟩ := b
  unfold haulagelaw20_alike.f
  by_cases c1 : a1 = b1
  · rw [if_pos c1]
    by_cases c2 : a2 = b2
    · rw [if_pos c2]
      by_cases c3 : a3 = b3
      · rw [if_pos c3, bind_eq (same_eq hk _ _ h)]; simp [c1, c2, c3]
      · rw [if_neg c3]; simp [c3]
    · rw [if_neg c2]; simp [c2]
  · rw [if_neg c1]; simp [c1]
theorem ints_loop (a b : List Int) (hl : a.length = b.length) : ∀ (n i m : Nat), i + n = a.length → n < m → a.length < 4000000000 →
    loop (fun (s_ : Int) => haulagelaw20_ints.b1 a b s_) m (i : Int) = some (if a.drop i = b.drop i then Sum.inl () else Sum.inr false)
  | _, _, 0, _, h, _ => absurd h (by omega)
  | 0, i, m + 1, h, _, _ => by
    refine loop_done ?_
    unfold haulagelaw20_ints.b1
    rw [if_neg (by omega), if_pos]
    rw [List.drop_of_length_le (by omega), List.drop_of_length_le (by omega)]
  | n + 1, i, m + 1, h, hm, hb => by
    have hi : i < a.length := by omega
    have hj : i < b.length := by omega
    rw [List.drop_eq_getElem_cons hi, List.drop_eq_getElem_cons hj]
    by_cases c : a[i] = b[i]
    · rw [loop_next (s' := ((i + 1 : Nat) : Int)), ints_loop a b hl n (i + 1) m (by omega) (by omega) hb]
      · simp only [c, List.cons.injEq, true_and]
      · unfold haulagelaw20_ints.b1
        rw [if_pos (by omega), if_pos (by omega), if_pos (by omega), rd_eq hi, rd_eq hj, if_pos c, wrS i (by omega)]
    · rw [if_neg (by simp only [List.cons.injEq, c, false_and, not_false_eq_true])]
      refine loop_done ?_
      unfold haulagelaw20_ints.b1
      rw [if_pos (by omega), if_pos (by omega), if_pos (by omega), rd_eq hi, rd_eq hj, if_neg c]
theorem ints_eq {k : Nat} (hk : Fuel k) (a b : List Int) (h : a.length < 4000000000 ∨ b.length < 4000000000) : haulagelaw20_ints.f k a b = some (decide (a = b)) := by
  have h24 : 1099511627776 ≤ k := hk
  unfold haulagelaw20_ints.f
  by_cases c : a.length = b.length
  · rw [if_pos (by omega), show (0 : Int) = ((0 : Nat) : Int) from rfl, bind_eq (ints_loop a b c a.length 0 k (by omega) (by omega) (by omega))]
    simp only [List.drop_zero]
    by_cases e : a = b
    · simp [e, haulagelaw20_ints.j2]
    · simp [e]
  · rw [if_neg (by omega), decide_eq_false (fun e => c (by rw [e]))]
/-! ### the bag -/
theorem own_eq {l : api_Letter} (h : l.Data.length ≤ 140737488355328) : bag_own.f l = some l := by
  unfold bag_own.f slices_Clone.f
  rw [if_pos (by omega)]
  cases l; rfl
theorem keys_put (o : MkV api_Letter) (n : Nat) (x : api_Letter) : (o.put n x).keys ((n : Int) + 1) = o.keys n ++ [(n : Int)] := by
  unfold MkV.keys MkV.put
  have e1 : ((n : Int) + 1).toNat = n + 1 := by omega
  have e2 : (n : Int).toNat = n := by omega
  rw [e1, e2, List.range_succ, List.map_append, List.filter_append]
  congr 1
  · refine List.filter_congr fun i hi => ?_
    obtain ⟨q, hq, rfl⟩ := List.mem_map.1 hi
    have := List.mem_range.1 hq
    show (if (q : Int) = (n : Int) then some x else o.f q).isSome = _
    rw [if_neg (by omega)]
  · simp
theorem keys_del (o : MkV api_Letter) (n k : Int) (hk : k ∈ o.keys n) : ((o.del k).keys n).length + 1 = (o.keys n).length := by
  have e : (o.del k).keys n = (o.keys n).erase k := by
    rw [(rising_nodup (keys_rise o n)).erase_eq_filter]
    unfold MkV.keys MkV.del
    rw [List.filter_filter]
    refine List.filter_congr fun i hi => ?_
    show (if i = k then none else o.f i).isSome = _
    by_cases c : i = k
    · rw [if_pos c]; simp [c]
    · rw [if_neg c]; simp [c]
  rw [e, List.length_erase_of_mem hk]
  have := List.length_pos_of_mem hk
  omega
structure BI (b : Bag) (S : List api_Letter) (g t : Int) (i : Nat) : Prop where
  nx : b.next = S.length
  sl : S.length ≤ i
  st : b.under.n ≤ i
  ln : b.under.len = S.length - g
  g0 : 0 ≤ g
  gi : g ≤ i
  t0 : 0 ≤ t
  ti : t ≤ i
  tw : b.told.Twice = t
  se : b.told.Sent = S.length - t
  dd : b.told.Delivered + b.told.Dropped = g
  d0 : 0 ≤ b.told.Delivered
  d1 : 0 ≤ b.told.Dropped
  kl : ((b.under.keys b.next).length : Int) = b.under.len
  fk : ∀ k, b.under.f k = none ∨ (0 ≤ k ∧ k < S.length ∧ b.under.f k = some (rd S k))
  nk : ∀ k : Nat, k < S.length → (rd S (k : Int)).Number = k
  dl : ∀ x ∈ S, x.Data.length ≤ 1048576
theorem BI.mono {b : Bag} {S : List api_Letter} {g t : Int} {i j : Nat} (h : BI b S g t i) (hij : i ≤ j) : BI b S g t j :=
  ⟨h.nx, Nat.le_trans h.sl hij, Nat.le_trans h.st hij, h.ln, h.g0, by have := h.gi; omega, h.t0, by have := h.ti; omega, h.tw, h.se, h.dd, h.d0, h.d1, h.kl, h.fk, h.nk, h.dl⟩
theorem BI.lost {b : Bag} {S : List api_Letter} {g t : Int} {i : Nat} (h : BI b S g t i) (x : Int) : BI ⟨b.under, b.next, ⟨b.told.Sent, b.told.Twice, b.told.Delivered, b.told.Dropped, x⟩⟩ S g t i :=
  ⟨h.nx, h.sl, h.st, h.ln, h.g0, h.gi, h.t0, h.ti, h.tw, h.se, h.dd, h.d0, h.d1, h.kl, h.fk, h.nk, h.dl⟩
theorem BI.none_at {b : Bag} {S : List api_Letter} {g t : Int} {i : Nat} (h : BI b S g t i) {k : Int} (hk : ¬ (0 ≤ k ∧ k < S.length)) : b.under.f k = none := (h.fk k).elim id fun q => absurd ⟨q.1, q.2.1⟩ hk
/-- one more letter -/
theorem BI.put {b : Bag} {S : List api_Letter} {g t t' : Int} {i : Nat} (h : BI b S g t i) (l : api_Letter) (hl : l.Number = S.length) (hd : l.Data.length ≤ 1048576) (tr : api_Traffic) (h1 : tr.Twice = t') (h2 : tr.Sent = (S.length : Int) + 1 - t') (h3 : tr.Delivered = b.told.Delivered) (h4 : tr.Dropped = b.told.Dropped) (h5 : 0 ≤ t') (h6 : t' ≤ (i + 1 : Nat)) :
    BI ⟨b.under.put b.next l, b.next + 1, tr⟩ (S ++ [l]) g t' (i + 1) := by
  have hnone := h.none_at (k := b.next) (by rw [h.nx]; omega)
  have hsl := h.sl; have hst := h.st; have hln := h.ln; have hg0 := h.g0; have hgi := h.gi
  refine ⟨by simp [h.nx], by simp; omega, by show b.under.n + 1 ≤ _; omega, ?_, hg0, by omega, h5, h6, h1, by simp; omega, by rw [h3, h4]; exact h.dd, by rw [h3]; exact h.d0, by rw [h4]; exact h.d1, ?_, fun k => ?_, fun k hk => ?_, fun x hx => ?_⟩
  · show (if (b.under.f b.next).isSome then b.under.len else b.under.len + 1) = _
    rw [hnone]; simp; omega
  · show (((b.under.put b.next l).keys (b.next + 1)).length : Int) = (if (b.under.f b.next).isSome then b.under.len else b.under.len + 1)
    have := h.kl
    rw [hnone, h.nx, keys_put, ← h.nx]
    simp; omega
  · show (if k = b.next then some l else b.under.f k) = none ∨ _ ∧ _ ∧ (if k = b.next then some l else b.under.f k) = some (rd (S ++ [l]) k)
    by_cases c : k = b.next
    · rw [if_pos c, h.nx] at *
      subst c
      exact .inr ⟨by omega, by simp; omega, by rw [rd_app2 rfl]⟩
    · rw [if_neg c]
      rcases h.fk k with q | ⟨q1, q2, q3⟩
      · exact .inl q
      · exact .inr ⟨q1, by simp; omega, by rw [q3, rd_app1 q2 q1]⟩
  · simp only [List.length_append, List.length_cons, List.length_nil] at hk
    by_cases c : k = S.length
    · subst c; rw [rd_app2 rfl, hl]
    · rw [rd_app1 (by omega) (by omega)]; exact h.nk k (by omega)
  · rcases List.mem_append.1 hx with q | q
    · exact h.dl x q
    · simp at q; subst q; exact hd
/-- one less -/
theorem BI.del {b : Bag} {S : List api_Letter} {g t : Int} {i : Nat} (h : BI b S g t i) (k : Int) (hk : (b.under.f k).isSome = true) (tr : api_Traffic) (h1 : tr.Twice = t) (h2 : tr.Sent = (S.length : Int) - t) (h3 : tr.Delivered + tr.Dropped = g + 1) (h4 : 0 ≤ tr.Delivered) (h5 : 0 ≤ tr.Dropped) :
    BI ⟨b.under.del k, b.next, tr⟩ S (g + 1) t (i + 1) ∧ 0 ≤ k ∧ k < S.length ∧ b.under.f k = some (rd S k) ∧ (b.under.del k).f k = none := by
  rcases h.fk k with q | ⟨q1, q2, q3⟩
  · rw [q] at hk; cases hk
  have hg0 := h.g0; have hgi := h.gi; have hti := h.ti; have hsl := h.sl; have hst := h.st; have hln := h.ln
  have hmem : k ∈ b.under.keys b.next := (mem_keys _ _ _).2 ⟨⟨q1, by rw [h.nx]; exact q2⟩, hk⟩
  refine ⟨⟨h.nx, by omega, by show b.under.n ≤ _; omega, ?_, by omega, by omega, h.t0, by omega, h1, h2, h3, h4, h5, ?_, fun z => ?_, h.nk, h.dl⟩, q1, q2, q3, by show (if k = k then none else b.under.f k) = none; rw [if_pos rfl]⟩
  · show (if (b.under.f k).isSome then b.under.len - 1 else b.under.len) = _
    rw [if_pos hk]; omega
  · show (((b.under.del k).keys b.next).length : Int) = (if (b.under.f k).isSome then b.under.len - 1 else b.under.len)
    have := keys_del _ _ _ hmem
    have := h.kl
    rw [if_pos hk]; omega
  · show (if z = k then none else b.under.f z) = none ∨ _ ∧ _ ∧ (if z = k then none else b.under.f z) = some (rd S z)
    by_cases c : z = k
    · rw [if_pos c]; exact .inl rfl
    · rw [if_neg c]; exact h.fk z
theorem room_eq {b : Bag} {S : List api_Letter} {g t : Int} {i : Nat} (h : BI b S g t i) : (∃ b', bag_Bag_room.f (some b) = some (201, some b') ∧ BI b' S g t i) ∨ bag_Bag_room.f (some b) = some (0, some b) := by
  unfold bag_Bag_room.f
  simp only [Option.bind_some]
  by_cases c : 65536 ≤ b.under.len
  · rw [if_pos c]; exact .inl ⟨_, rfl, h.lost _⟩
  · rw [if_neg c]; exact .inr rfl
theorem put_eq {b : Bag} {S : List api_Letter} {g t : Int} {i : Nat} (h : BI b S g t i) (hi : i < 1000000000) (tr : api_Traffic) (l : api_Letter) (hd : l.Data.length ≤ 1048576) :
    bag_Bag_put.f (some ⟨b.under, b.next, tr⟩) l = some ((S.length : Int), some ⟨b.under.put b.next ⟨S.length, l.From, l.To, l.Data⟩, b.next + 1, tr⟩) := by
  have hsl := h.sl; have hst := h.st
  unfold bag_Bag_put.f
  simp only [Option.bind_some]
  rw [bind_eq (own_eq (by show l.Data.length ≤ _; omega)), if_pos ⟨wf64 (by rw [h.nx]; omega) (by rw [h.nx]; omega), by omega⟩, wr (by rw [h.nx]; omega) (by rw [h.nx]; omega)]
  simp [h.nx]
theorem send_eq {b : Bag} {S : List api_Letter} {g t : Int} {i : Nat} (h : BI b S g t i) (hi : i < 1000000000) (from_ to : Int) (data : List Int) (hd : data.length ≤ 1048576) :
    (∃ e b', bag_Bag_Send.f (some b) from_ to data = some (0, e, some b') ∧ e ≠ 0 ∧ BI b' S g t i) ∨
    (∃ b', bag_Bag_Send.f (some b) from_ to data = some ((S.length : Int), 0, some b') ∧ BI b' (S ++ [⟨S.length, from_, to, data⟩]) g t (i + 1)) := by
  have hsl := h.sl; have hti := h.ti; have ht0 := h.t0; have hse := h.se
  have main : (∃ e b', bag_Bag_Send.j1 (some b) from_ to data false = some (0, e, some b') ∧ e ≠ 0 ∧ BI b' S g t i) ∨
    (∃ b', bag_Bag_Send.j1 (some b) from_ to data false = some ((S.length : Int), 0, some b') ∧ BI b' (S ++ [⟨S.length, from_, to, data⟩]) g t (i + 1)) := by
    unfold bag_Bag_Send.j1
    rw [if_neg (by simp)]
    by_cases c : 524288 < (data.length : Int)
    · rw [if_pos c]; exact .inl ⟨3, b, rfl, by decide, h⟩
    · rw [if_neg c]
      rcases room_eq h with ⟨b', e, h'⟩ | e
      · rw [bind_eq e, if_neg (show ¬ (201 : Int) = 0 by decide)]; exact .inl ⟨201, b', rfl, by decide, h'⟩
      · rw [bind_eq e, if_pos rfl]
        simp only [Option.bind_some]
        rw [bind_eq (put_eq h hi _ _ hd)]
        refine .inr ⟨_, rfl, h.put _ rfl hd _ h.tw ?_ rfl rfl ht0 (by omega)⟩
        show IntKind.i64.wrap (b.told.Sent + 1) = _
        rw [wr (by omega) (by omega)]; omega
  have bad : bag_Bag_Send.j1 (some b) from_ to data true = some (0, 2, some b) := by unfold bag_Bag_Send.j1; rw [if_pos rfl]
  unfold bag_Bag_Send.f
  rw [if_neg (by simp)]
  by_cases c : from_ < 0
  · rw [if_pos c, bad]; exact .inl ⟨2, b, rfl, by decide, h⟩
  · rw [if_neg c]
    by_cases c2 : to < 0
    · rw [decide_eq_true c2, bad]; exact .inl ⟨2, b, rfl, by decide, h⟩
    · rw [decide_eq_false c2]; exact main
def isI (n : Int) : Prop := -9223372036854775808 ≤ n ∧ n ≤ 9223372036854775807
theorem find_eq {b : Bag} {S : List api_Letter} {g t : Int} {i : Nat} (h : BI b S g t i) {n : Int} (hn : isI n) :
    (bag_Bag_find.f (some b) n = some (⟨0, 0, 0, []⟩, 200) ∧ b.under.f n = none) ∨ (bag_Bag_find.f (some b) n = some (rd S n, 0) ∧ (b.under.f n).isSome = true ∧ 0 ≤ n ∧ n < S.length) := by
  unfold bag_Bag_find.f
  rw [if_neg (by simp)]
  simp only [Option.bind_some]
  rw [if_pos (wf64 hn.1 hn.2)]
  rcases h.fk n with q | ⟨q1, q2, q3⟩
  · rw [q]; exact .inl ⟨by simp, rfl⟩
  · rw [q3]; exact .inr ⟨by simp, rfl, q1, q2⟩
theorem deliver_eq {b : Bag} {S : List api_Letter} {g t : Int} {i : Nat} (h : BI b S g t i) (hi : i < 1000000000) {n : Int} (hn : isI n) :
    bag_Bag_Deliver.f (some b) n = some (⟨0, 0, 0, []⟩, 200, some b) ∨ (∃ b', bag_Bag_Deliver.f (some b) n = some (rd S n, 0, some b') ∧ BI b' S (g + 1) t (i + 1) ∧ 0 ≤ n ∧ n < S.length ∧ b'.under.f n = none) := by
  unfold bag_Bag_Deliver.f
  rcases find_eq h hn with ⟨e, e2⟩ | ⟨e, e2, e3⟩
  · rw [bind_eq e, if_neg (by decide)]; exact .inl rfl
  · rw [bind_eq e, if_pos rfl]
    simp only [Option.bind_some]
    rw [if_pos (wf64 hn.1 hn.2)]
    have hdd := h.dd; have hd0 := h.d0; have hd1 := h.d1; have hgi := h.gi
    have ew : IntKind.i64.wrap (b.told.Delivered + 1) = b.told.Delivered + 1 := wr (by omega) (by omega)
    rw [ew]
    obtain ⟨h1, h2, h3, h4, h5⟩ := h.del n e2 ⟨b.told.Sent, b.told.Twice, b.told.Delivered + 1, b.told.Dropped, b.told.Lost⟩ h.tw h.se (by simp only; omega) (by simp only; omega) hd1
    exact .inr ⟨_, rfl, h1, h2, h3, h5⟩
theorem drop_eq {b : Bag} {S : List api_Letter} {g t : Int} {i : Nat} (h : BI b S g t i) (hi : i < 1000000000) {n : Int} (hn : isI n) :
    bag_Bag_Drop.f (some b) n = some (200, some b) ∨ (∃ b', bag_Bag_Drop.f (some b) n = some (0, some b') ∧ BI b' S (g + 1) t (i + 1)) := by
  unfold bag_Bag_Drop.f
  rcases find_eq h hn with ⟨e, e2⟩ | ⟨e, e2, e3⟩
  · rw [bind_eq e, if_neg (by decide)]; exact .inl rfl
  · rw [bind_eq e, if_pos rfl]
    simp only [Option.bind_some]
    rw [if_pos (wf64 hn.1 hn.2)]
    have hdd := h.dd; have hd0 := h.d0; have hd1 := h.d1; have hgi := h.gi
    have ew : IntKind.i64.wrap (b.told.Dropped + 1) = b.told.Dropped + 1 := wr (by omega) (by omega)
    rw [ew]
    obtain ⟨h1, _⟩ := h.del n e2 ⟨b.told.Sent, b.told.Twice, b.told.Delivered, b.told.Dropped + 1, b.told.Lost⟩ h.tw h.se (by simp only; omega) hd0 (by simp only; omega)
    exact .inr ⟨_, rfl, h1⟩
theorem twice_eq {b : Bag} {S : List api_Letter} {g t : Int} {i : Nat} (h : BI b S g t i) (hi : i < 1000000000) {n : Int} (hn : isI n) :
    (∃ e b', bag_Bag_Twice.f (some b) n = some (0, e, some b') ∧ e ≠ 0 ∧ BI b' S g t i) ∨
    (∃ b', bag_Bag_Twice.f (some b) n = some ((S.length : Int), 0, some b') ∧ BI b' (S ++ [⟨S.length, (rd S n).From, (rd S n).To, (rd S n).Data⟩]) g (t + 1) (i + 1) ∧ 0 ≤ n ∧ n < S.length) := by
  unfold bag_Bag_Twice.f
  rcases find_eq h hn with ⟨e, e2⟩ | ⟨e, e2, e3, e4⟩
  · rw [bind_eq e, if_neg (by decide)]; exact .inl ⟨200, b, rfl, by decide, h⟩
  · rw [bind_eq e, if_pos rfl]
    have hd := h.dl _ (rd_mem e3 e4)
    have hsl := h.sl; have hti := h.ti; have ht0 := h.t0; have hse := h.se; have htw := h.tw
    rcases room_eq h with ⟨b', e, h'⟩ | e
    · rw [bind_eq e, if_neg (show ¬ (201 : Int) = 0 by decide)]; exact .inl ⟨201, b', rfl, by decide, h'⟩
    · rw [bind_eq e, if_pos rfl]
      simp only [Option.bind_some]
      rw [bind_eq (put_eq h hi _ _ hd)]
      have ew : IntKind.i64.wrap (b.told.Twice + 1) = t + 1 := by rw [wr (by omega) (by omega)]; omega
      rw [ew]
      exact .inr ⟨_, rfl, h.put ⟨S.length, (rd S n).From, (rd S n).To, (rd S n).Data⟩ rfl hd ⟨b.told.Sent, t + 1, b.told.Delivered, b.told.Dropped, b.told.Lost⟩ rfl (by simp only; omega) rfl rfl (by omega) (by omega), e3, e4⟩
theorem tidy_of {b : Bag} {S : List api_Letter} {g t : Int} {i : Nat} (h : BI b S g t i) (hi : i < 1000000000) : b.under.tidy b.next := by
  have hsl := h.sl
  refine ⟨by rw [h.nx]; omega, h.kl, fun k hk => ?_⟩
  obtain ⟨h1, h2⟩ := (mem_keys _ _ _).1 hk
  rw [h.nx] at h1
  rcases h.fk k with q | ⟨q1, q2, q3⟩
  · rw [q] at h2; cases h2
  · rw [q3, Option.getD_some]
    have e : k = ((k.toNat : Nat) : Int) := by omega
    have hn := h.nk k.toNat (by omega)
    rw [← e] at hn
    have := h.dl _ (rd_mem q1 q2)
    exact ⟨hn, by omega⟩
theorem len_eq (b : Bag) : bag_Bag_Len.f (some b) = some b.under.len := rfl
theorem counts_eq (b : Bag) : bag_Bag_Counts.f (some b) = some b.told := rfl
theorem known_true : haulagelaw20_known.f = some true := by decide +kernel
/-! ### nothing comes of nothing -/
abbrev NS : Type := (Option Bag) × (List api_Letter) × Int × Int × Int
section
variable {k : Nat} {a1 : List haulagelaw20_Op} {b : Bag} {S : List api_Letter} {g t : Int} {i : Nat}
theorem j7_eq (h : BI b S g t (i + 1)) (hi : i < 1000000000) : haulagelaw20_BagNothingElse.j7 i (some b) S g t = some (.next (some b, S, g, t, ((i + 1 : Nat) : Int))) := by
  have hsl := h.sl; have hti := h.ti; have ht0 := h.t0; have hse := h.se; have htw := h.tw; have hln := h.ln; have hdd := h.dd; have hgi := h.gi; have hg0 := h.g0
  have e1 : IntKind.i64.wrap ((S.length : Int) - g) = (S.length : Int) - g := wr (by omega) (by omega)
  have e2 : IntKind.i64.wrap (b.told.Sent + b.told.Twice) = (S.length : Int) := by rw [wr (by omega) (by omega)]; omega
  have e3 : IntKind.i64.wrap (b.told.Delivered + b.told.Dropped) = g := by rw [wr (by omega) (by omega)]; omega
  have e4 : IntKind.i64.wrap (g + b.under.len) = (S.length : Int) := by rw [wr (by omega) (by omega)]; omega
  unfold haulagelaw20_BagNothingElse.j7
  rw [bind_eq (counts_eq b), bind_eq (len_eq b), if_pos (by rw [e1]; exact hln), if_pos e2, if_pos htw, if_pos e3, bind_eq (len_eq b), e2, e3, e4]
  unfold haulagelaw20_BagNothingElse.j8
  rw [if_neg (by simp), wrS i (by omega)]
theorem step_eq (hk : Fuel k) (h : BI b S g t i) (hi : i < a1.length) (hb : a1.length < 100000000) (ho : isI (rd a1 (i : Int)).Number) (hd : (rd a1 (i : Int)).Data.length ≤ 1048576) :
    ∃ b' S' g' t', haulagelaw20_BagNothingElse.b9 k a1 (some b) S g t i = some (.next (some b', S', g', t', ((i + 1 : Nat) : Int))) ∧ BI b' S' g' t' (i + 1) := by
  have hsl := h.sl
  unfold haulagelaw20_BagNothingElse.b9
  rw [if_pos (by omega), if_pos (by omega)]
  obtain ⟨o, eo⟩ : ∃ o, rd a1 (i : Int) = o := ⟨_, rfl⟩
  rw [eo] at ho hd ⊢
  by_cases c0 : o.Kind = 0
  · rw [if_pos c0]
    rcases send_eq h (by omega) o.Number o.To o.Data hd with ⟨e, b', h1, h2, h3⟩ | ⟨b', h1, h2⟩
    · rw [bind_eq h1, bind_eq (show haulagelaw20_num.f e = some e from rfl), if_neg h2, wrS i (by omega)]
      exact ⟨_, _, _, _, rfl, h3.mono (by omega)⟩
    · rw [bind_eq h1, bind_eq (show haulagelaw20_num.f 0 = some 0 from rfl), if_pos rfl, if_pos rfl, if_pos (by simp only [List.length_cons, List.length_nil]; omega)]
      exact ⟨_, _, _, _, j7_eq h2 (by omega), h2⟩
  rw [if_neg c0]
  by_cases c3 : o.Kind = 3
  · rw [if_pos c3]
    rcases twice_eq h (by omega) ho with ⟨e, b', h1, h2, h3⟩ | ⟨b', h1, h2, h3, h4⟩
    · rw [bind_eq h1, bind_eq (show haulagelaw20_num.f e = some e from rfl), if_neg h2, wrS i (by omega)]
      exact ⟨_, _, _, _, rfl, h3.mono (by omega)⟩
    · have hti := h.ti; have ht0 := h.t0
      rw [bind_eq h1, bind_eq (show haulagelaw20_num.f 0 = some 0 from rfl), if_pos rfl, if_pos rfl, if_neg (by omega), decide_eq_false (show ¬ (S.length : Int) ≤ o.Number by omega)]
      refine ⟨_, _, _, _, ?_, h2⟩
      have ew : IntKind.i64.wrap (t + 1) = t + 1 := wr (by omega) (by omega)
      have := j7_eq h2 (by omega)
      unfold haulagelaw20_BagNothingElse.j5
      rw [if_neg (by simp), eo, if_pos ⟨h3, h4⟩, if_pos (by simp only [List.length_cons, List.length_nil]; omega), ew]
      exact this
  rw [if_neg c3]
  by_cases c1 : o.Kind = 1
  · rw [if_pos c1]
    rcases deliver_eq h (by omega) ho with h1 | ⟨b', h1, h2, h3, h4, h5⟩
    · rw [bind_eq h1, bind_eq (show haulagelaw20_num.f 200 = some 200 from rfl), if_neg (by decide), wrS i (by omega)]
      exact ⟨_, _, _, _, rfl, h.mono (by omega)⟩
    · have hdl := h.dl _ (rd_mem h3 h4)
      have hgi := h.gi; have hg0 := h.g0
      rw [bind_eq h1, bind_eq (show haulagelaw20_num.f 0 = some 0 from rfl), if_pos rfl, if_neg (by omega), if_neg (by omega), if_pos ⟨h3, h4⟩, bind_eq (alike_eq hk _ _ (.inl (by show (rd S o.Number).Data.length < _; omega)))]
      unfold haulagelaw20_BagNothingElse.j6
      rw [if_neg (by simp), eo]
      have h6 : bag_Bag_Deliver.f (some b') o.Number = some (⟨0, 0, 0, []⟩, 200, some b') := by
        rcases deliver_eq h2 (by omega) ho with q | ⟨b'', q1, q2, q3, q4, q5⟩
        · exact q
        · rcases find_eq h2 ho with ⟨e, _⟩ | ⟨e, e2, _⟩
          · unfold bag_Bag_Deliver.f at q1
            rw [bind_eq e, if_neg (by decide)] at q1
            have := congrArg (fun x => x.map fun y => y.2.1) q1
            cases this
          · rw [h5] at e2; cases e2
      have ew : IntKind.i64.wrap (g + 1) = g + 1 := wr (by omega) (by omega)
      rw [bind_eq h6, bind_eq (show haulagelaw20_num.f 200 = some 200 from rfl), if_pos rfl, ew]
      exact ⟨_, _, _, _, j7_eq h2 (by omega), h2⟩
  rw [if_neg c1]
  by_cases c2 : o.Kind = 2
  · rw [if_pos c2]
    rcases drop_eq h (by omega) ho with h1 | ⟨b', h1, h2⟩
    · rw [bind_eq h1, bind_eq (show haulagelaw20_num.f 200 = some 200 from rfl), if_neg (by decide)]
      exact ⟨_, _, _, _, j7_eq (h.mono (by omega)) (by omega), h.mono (by omega)⟩
    · have hgi := h.gi; have hg0 := h.g0
      have ew : IntKind.i64.wrap (g + 1) = g + 1 := wr (by omega) (by omega)
      rw [bind_eq h1, bind_eq (show haulagelaw20_num.f 0 = some 0 from rfl), if_pos rfl, ew]
      exact ⟨_, _, _, _, j7_eq h2 (by omega), h2⟩
  rw [if_neg c2]
  exact ⟨_, _, _, _, j7_eq (h.mono (by omega)) (by omega), h.mono (by omega)⟩
end
section
variable {k : Nat} {b : Bag} {S : List api_Letter} {g t : Int} {i : Nat}
/-- each number stands but once in a rising row -/
theorem count_loop (l : List api_Letter) (j : Nat) (hj : j < l.length) (f : List Int) (hf : f.Pairwise (· < ·)) (hb : f.length < 1000000000) :
    ∀ (n q m : Nat) (c : Int), q + n = f.length → n < m → 0 ≤ c → c + n < 1000000000 → loop (fun (s_ : Int × Int) => haulagelaw20_BagNothingElse.b12 l j f s_.1 s_.2) m (c, (q : Int)) = some (c + if (l[j]).Number ∈ f.drop q then 1 else 0)
  | _, _, 0, _, _, h, _, _ => absurd h (by omega)
  | 0, q, m + 1, c, h, _, _, _ => by
    refine loop_done ?_
    unfold haulagelaw20_BagNothingElse.b12
    rw [if_neg (by simp only; omega), List.drop_of_length_le (by omega)]
    simp
  | n + 1, q, m + 1, c, h, hm, h0, hc => by
    have hq : q < f.length := by omega
    have hd := List.drop_eq_getElem_cons hq
    have hfd : (f.drop q).Pairwise (· < ·) := List.Pairwise.drop hf
    rw [hd] at hfd ⊢
    obtain ⟨g1, g2⟩ := List.pairwise_cons.1 hfd
    by_cases e : f[q] = (l[j]).Number
    · rw [loop_next (s' := (c + 1, ((q + 1 : Nat) : Int))), count_loop l j hj f hf hb n (q + 1) m (c + 1) (by omega) (by omega) (by omega) (by omega)]
      · rw [if_neg (fun hm => by have := g1 _ hm; omega), if_pos (by simp [e])]
        simp
      · show haulagelaw20_BagNothingElse.b12 l j f c q = _
        unfold haulagelaw20_BagNothingElse.b12
        rw [if_pos (by omega), if_pos (by omega), if_pos (by omega), rd_eq hq, rd_eq hj, if_pos e, wr (by omega) (by omega), wrS q (by omega)]
    · rw [loop_next (s' := (c, ((q + 1 : Nat) : Int))), count_loop l j hj f hf hb n (q + 1) m c (by omega) (by omega) h0 (by omega)]
      · have : ((l[j]).Number ∈ f[q] :: f.drop (q + 1)) ↔ (l[j]).Number ∈ f.drop (q + 1) := by
          rw [List.mem_cons]
          exact ⟨fun h => h.elim (fun h => absurd h.symm e) id, .inr⟩
        simp only [this]
      · show haulagelaw20_BagNothingElse.b12 l j f c q = _
        unfold haulagelaw20_BagNothingElse.b12
        rw [if_pos (by omega), if_pos (by omega), if_pos (by omega), rd_eq hq, rd_eq hj, if_neg e, wrS q (by omega)]
theorem end_eq (hk : Fuel k) (h : BI b S g t i) (hi : i < 100000000) : haulagelaw20_BagNothingElse.j10 k (some b) S = some true := by
  have h24 : 1099511627776 ≤ k := hk
  have htidy := tidy_of h (by omega)
  have hW : bag_Bag_Waiting.f (some b) = some (b.under.all b.next) := if_pos htidy
  have hF : ∀ to, bag_Bag_For.f (some b) to = some ((b.under.keys b.next).filter fun k => decide (((b.under.f k).getD default).To = to)) := fun to => if_pos htidy
  obtain ⟨ks, hks⟩ : ∃ ks, b.under.keys b.next = ks := ⟨_, rfl⟩
  have hrise : ks.Pairwise (· < ·) := hks ▸ keys_rise _ _
  have hkey : ∀ x ∈ ks, 0 ≤ x ∧ x < S.length ∧ b.under.f x = some (rd S x) ∧ (rd S x).Number = x := fun x hx => by
    obtain ⟨h1, h2⟩ := (mem_keys _ _ _).1 (hks.symm ▸ hx)
    rcases h.fk x with q | ⟨q1, q2, q3⟩
    · rw [q] at h2; cases h2
    · have e : x = ((x.toNat : Nat) : Int) := by omega
      have hn := h.nk x.toNat (by omega)
      rw [← e] at hn
      exact ⟨q1, q2, q3, hn⟩
  have hall : b.under.all b.next = ks.map fun x => rd S x := by
    unfold MkV.all
    rw [hks]
    exact List.map_congr_left fun x hx => by rw [(hkey x hx).2.2.1]; rfl
  have hkl := h.kl
  rw [hks] at hkl
  have hln := h.ln; have hg0 := h.g0; have hsl := h.sl
  have hkb : ks.length ≤ i := by omega
  rw [hall] at hW
  unfold haulagelaw20_BagNothingElse.j10
  rw [bind_eq hW, bind_eq (len_eq b), if_pos (by rw [List.length_map]; exact hkl)]
  obtain ⟨x, hx, hp⟩ := loop_run (k := k) (s := (0 : Int)) (f := fun (s_ : Int) => haulagelaw20_BagNothingElse.b14 k (some b) S (ks.map fun x => rd S x) s_) (N := ks.length) (I := fun j s => s = (j : Int)) (P := fun x => x = .inl ()) (fun j s hj hs => by
    subst hs
    have hjl : j < (ks.map fun x => rd S x).length := by simpa using hj
    have ej : rd (ks.map fun x => rd S x) (j : Int) = rd S ks[j] := by rw [rd_eq hjl]; simp
    obtain ⟨k1, k2, k3, k4⟩ := hkey ks[j] (List.getElem_mem _)
    have hdl := h.dl _ (rd_mem k1 k2)
    have in1 : (0 : Int) ≤ j ∧ (j : Int) < ((ks.map fun x => rd S x).length : Int) := by omega
    have fin : haulagelaw20_BagNothingElse.j11 k (some b) (ks.map fun x => rd S x) j (!decide (rd S ks[j] = rd S (rd S ks[j]).Number)) = some (.next ((j + 1 : Nat) : Int)) := by
      unfold haulagelaw20_BagNothingElse.j11
      rw [if_neg (by rw [k4]; simp), if_pos in1, ej, bind_eq (hF _), hks]
      have hfr : (ks.filter fun k => decide (((b.under.f k).getD default).To = (rd S ks[j]).To)).Pairwise (· < ·) := List.Pairwise.filter _ hrise
      have hfl : (ks.filter fun k => decide (((b.under.f k).getD default).To = (rd S ks[j]).To)).length ≤ ks.length := List.length_filter_le _ _
      rw [show ((0 : Int), (0 : Int)) = ((0 : Int), ((0 : Nat) : Int)) from rfl, bind_eq (count_loop (ks.map fun x => rd S x) j hjl _ hfr (by omega) (ks.filter fun k => decide (((b.under.f k).getD default).To = (rd S ks[j]).To)).length 0 k 0 (by omega) (by omega) (by omega) (by omega))]
      have hmem : ((ks.map fun x => rd S x)[j]'hjl).Number ∈ (ks.filter fun k => decide (((b.under.f k).getD default).To = (rd S ks[j]).To)).drop 0 := by
        rw [List.drop_zero]
        simp only [List.getElem_map]
        rw [k4]
        exact List.mem_filter.2 ⟨List.getElem_mem _, by rw [k3]; simp⟩
      rw [if_pos hmem]
      unfold haulagelaw20_BagNothingElse.j13
      rw [if_pos (by omega), wrS j (by omega)]
    refine ⟨((j + 1 : Nat) : Int), ?_, rfl⟩
    have alk := alike_eq hk (rd S ks[j]) (rd S (rd S ks[j]).Number) (.inl (by omega))
    have c1 : ¬ ((S.length : Int) ≤ (rd S ks[j]).Number) := by omega
    have c2 : ¬ ((rd S ks[j]).Number < 0) := by omega
    have c3 : 0 ≤ (rd S ks[j]).Number ∧ (rd S ks[j]).Number < (S.length : Int) := by omega
    unfold haulagelaw20_BagNothingElse.b14
    rw [if_pos in1.2]
    by_cases j0 : 0 < (j : Int)
    · have ew : IntKind.i64.wrap ((j : Int) - 1) = ((j - 1 : Nat) : Int) := by rw [wr (by omega) (by omega)]; omega
      have hjl' : j - 1 < (ks.map fun x => rd S x).length := by omega
      have ej' : rd (ks.map fun x => rd S x) ((j - 1 : Nat) : Int) = rd S ks[j - 1] := by rw [rd_eq hjl']; simp
      have hlt : ks[j - 1] < ks[j] := List.pairwise_iff_getElem.1 hrise (j - 1) j (by omega) (by omega) (by omega)
      have k5 := (hkey ks[j - 1] (List.getElem_mem _)).2.2.2
      have c0 : ¬ ((rd S ks[j]).Number ≤ (rd S ks[j - 1]).Number) := by rw [k4, k5]; omega
      rw [if_pos j0, if_pos in1, ew, if_pos (by omega), ej, ej', if_neg c0, if_pos in1, if_neg c1, if_pos in1, if_neg c2, if_pos in1, if_pos in1, if_pos c3, bind_eq alk]
      exact fin
    · rw [if_neg j0, if_pos in1, ej, if_neg c1, if_pos in1, if_neg c2, if_pos in1, if_pos in1, if_pos c3, bind_eq alk]
      exact fin) (fun s hs => by
    subst hs
    refine ⟨.inl (), ?_, rfl⟩
    unfold haulagelaw20_BagNothingElse.b14
    rw [if_neg (by rw [List.length_map]; omega)]) rfl (by omega)
  rw [bind_eq hx, hp]
  rfl
end
theorem BagNothingElse_true {k : Nat} (hk : Fuel k) {a1 : List haulagelaw20_Op} (hb : a1.length ≤ 1048576) (ho : ∀ o ∈ a1, isI o.Number ∧ o.Data.length ≤ 1048576) : haulagelaw20_BagNothingElse.f k a1 = some true := by
  have h24 : 1099511627776 ≤ k := hk
  unfold haulagelaw20_BagNothingElse.f
  rw [bind_eq known_true, if_pos rfl, bind_eq (show bag_New.f = some (some ⟨⟨fun _ => none, 0, 0⟩, 0, ⟨0, 0, 0, 0, 0⟩⟩) from rfl)]
  obtain ⟨x, hx, b, S, hp, hBI⟩ := loop_run (k := k) (f := fun (s_ : NS) => haulagelaw20_BagNothingElse.b9 k a1 s_.1 s_.2.1 s_.2.2.1 s_.2.2.2.1 s_.2.2.2.2) (s := (some ⟨⟨fun _ => none, 0, 0⟩, 0, ⟨0, 0, 0, 0, 0⟩⟩, [], 0, 0, 0)) (N := a1.length)
    (I := fun i s => ∃ b S g t, s = (some b, S, g, t, (i : Int)) ∧ BI b S g t i) (P := fun x => ∃ b S, x = .inl (some b, S) ∧ ∃ g t, BI b S g t a1.length) (fun i s hi ⟨b, S, g, t, hs, hI⟩ => by
      subst hs
      have hm : rd a1 (i : Int) ∈ a1 := rd_mem (by omega) (by omega)
      obtain ⟨b', S', g', t', h1, h2⟩ := step_eq hk hI hi (by omega) (ho _ hm).1 (ho _ hm).2
      exact ⟨_, h1, b', S', g', t', rfl, h2⟩) (fun s ⟨b, S, g, t, hs, hI⟩ => by
      subst hs
      refine ⟨.inl (some b, S), ?_, b, S, rfl, g, t, hI⟩
      show haulagelaw20_BagNothingElse.b9 k a1 (some b) S g t (a1.length : Int) = _
      unfold haulagelaw20_BagNothingElse.b9
      rw [if_neg (by omega)]) ⟨_, _, _, _, rfl, ⟨rfl, by simp, Nat.le_refl _, rfl, by decide, by decide, by decide, by decide, rfl, rfl, rfl, by decide, by decide, rfl, fun _ => .inl rfl, fun k hk => by simp at hk, fun x hx => by cases hx⟩⟩ (by omega)
  obtain ⟨g, t, hBI⟩ := hBI
  subst hp
  rw [bind_eq hx]
  exact end_eq hk hBI (by omega)
/-! ### the known one -/
theorem long_send (b : Bag) (from_ to : Int) (h : 0 ≤ from_ ∧ 0 ≤ to) (data : List Int) (hd : 524288 < data.length) : bag_Bag_Send.f (some b) from_ to data = some (0, 3, some b) := by
  unfold bag_Bag_Send.f bag_Bag_Send.j1
  rw [if_neg (by simp), if_neg (by omega), decide_eq_false (by omega), if_neg (by simp), if_pos (by omega)]
theorem bad_send (b : Bag) (from_ to : Int) (h : ¬ (0 ≤ to)) (h2 : 0 ≤ from_) (data : List Int) : bag_Bag_Send.f (some b) from_ to data = some (0, 2, some b) := by
  unfold bag_Bag_Send.f bag_Bag_Send.j1
  rw [if_neg (by simp), if_neg (by omega), decide_eq_true (by omega), if_pos rfl]
def bg0 : Bag := ⟨⟨fun _ => none, 0, 0⟩, 0, ⟨0, 0, 0, 0, 0⟩⟩
def bg1 : Bag := ⟨bg0.under.put 0 ⟨0, 0, 1, [97]⟩, 1, ⟨1, 0, 0, 0, 0⟩⟩
def bg2 : Bag := ⟨bg1.under.put 1 ⟨1, 1, 0, [98]⟩, 2, ⟨2, 0, 0, 0, 0⟩⟩
def bg3 : Bag := ⟨bg2.under.put 2 ⟨2, 0, 1, []⟩, 3, ⟨3, 0, 0, 0, 0⟩⟩
def bg4 : Bag := ⟨bg3.under.put 3 ⟨3, 1, 0, [98]⟩, 4, ⟨3, 1, 0, 0, 0⟩⟩
def bg5 : Bag := ⟨bg4.under.del 3, 4, ⟨3, 1, 1, 0, 0⟩⟩
def bg6 : Bag := ⟨bg5.under.del 0, 4, ⟨3, 1, 1, 1, 0⟩⟩
theorem BagKnown_true {k : Nat} (hk : Fuel k) : haulagelaw20_BagKnown.f k = some true := by
  have s1 : bag_Bag_Send.f (some bg0) 0 1 [97] = some (0, 0, some bg1) := rfl
  have s2 : bag_Bag_Send.f (some bg1) 1 0 [98] = some (1, 0, some bg2) := rfl
  have s3 : bag_Bag_Send.f (some bg2) 0 1 [] = some (2, 0, some bg3) := rfl
  have s4 : bag_Bag_Twice.f (some bg3) 1 = some (3, 0, some bg4) := rfl
  have s5 : bag_Bag_Waiting.f (some bg4) = some [⟨0, 0, 1, [97]⟩, ⟨1, 1, 0, [98]⟩, ⟨2, 0, 1, []⟩, ⟨3, 1, 0, [98]⟩] := by decide +kernel
  have s6 : bag_Bag_For.f (some bg4) 1 = some [0, 2] := by decide +kernel
  have s7 : bag_Bag_For.f (some bg4) 7 = some [] := by decide +kernel
  have d1 : bag_Bag_Deliver.f (some bg4) 3 = some (⟨3, 1, 0, [98]⟩, 0, some bg5) := rfl
  have d2 : bag_Bag_Deliver.f (some bg5) 3 = some (⟨0, 0, 0, []⟩, 200, some bg5) := rfl
  have d3 : bag_Bag_Drop.f (some bg5) 0 = some (0, some bg6) := rfl
  have d4 : bag_Bag_Len.f (some bg6) = some 2 := rfl
  have d5 : bag_Bag_Twice.f (some bg6) 0 = some (0, 200, some bg6) := rfl
  have d6 : bag_Bag_Send.f (some bg6) (-1) 0 [] = some (0, 2, some bg6) := rfl
  have d7 := bad_send bg6 0 (-1) (by decide) (by decide) (List.replicate (524289 : Int).toNat (0 : Int))
  have d8 := long_send bg6 0 0 (by decide) (List.replicate (524289 : Int).toNat (0 : Int)) (by rw [List.length_replicate]; decide)
  have n : ∀ a, haulagelaw20_num.f a = some a := fun _ => rfl
  have gm : (0 : Int) ≤ 524289 ∧ (524289 : Int) ≤ 524289 ∧ (524289 : Int) * (1 : Nat) ≤ 140737488355328 := by decide
  have hj2 : haulagelaw20_BagKnown.j2 (0, 3, some bg6) false = some true := by
    unfold haulagelaw20_BagKnown.j2
    rw [if_neg (by simp), bind_eq (counts_eq bg6)]
    exact Eq.trans (if_pos rfl) rfl
  have hj1 : haulagelaw20_BagKnown.j1 k (3, 0, some bg4) false = some true := by
    unfold haulagelaw20_BagKnown.j1
    rw [if_neg (by simp)]
    refine Eq.trans (bind_eq d1) ?_
    refine Eq.trans (bind_eq d2) ?_
    refine Eq.trans (bind_eq d3) ?_
    refine Eq.trans (bind_eq d4) ?_
    refine Eq.trans (bind_eq d5) ?_
    refine Eq.trans (bind_eq d6) ?_
    refine Eq.trans (if_pos gm) ?_
    refine Eq.trans (bind_eq d7) ?_
    refine Eq.trans (if_pos gm) ?_
    refine Eq.trans (bind_eq d8) ?_
    refine Eq.trans (bind_eq (n 0)) ?_
    refine Eq.trans (if_pos rfl) ?_
    refine Eq.trans (bind_eq (alike_eq hk ⟨3, 1, 0, [98]⟩ ⟨3, 1, 0, [98]⟩ (.inl (by decide)))) ?_
    refine Eq.trans (if_pos (by simp)) ?_
    refine Eq.trans (bind_eq (n 200)) ?_
    refine Eq.trans (if_pos rfl) ?_
    refine Eq.trans (bind_eq (n 0)) ?_
    refine Eq.trans (if_pos rfl) ?_
    refine Eq.trans (if_pos rfl) ?_
    refine Eq.trans (bind_eq (n 200)) ?_
    refine Eq.trans (if_pos rfl) ?_
    refine Eq.trans (bind_eq (n 2)) ?_
    refine Eq.trans (if_pos rfl) ?_
    refine Eq.trans (bind_eq (n 2)) ?_
    refine Eq.trans (if_pos rfl) ?_
    refine Eq.trans (bind_eq (n 3)) ?_
    exact hj2
  unfold haulagelaw20_BagKnown.f
  rw [bind_eq known_true, if_pos rfl]
  refine Eq.trans (bind_eq (show bag_New.f = some (some bg0) from rfl)) ?_
  refine Eq.trans (bind_eq s1) ?_
  refine Eq.trans (bind_eq s2) ?_
  refine Eq.trans (bind_eq s3) ?_
  refine Eq.trans (bind_eq s4) ?_
  refine Eq.trans (bind_eq s5) ?_
  refine Eq.trans (if_pos rfl) ?_
  refine Eq.trans (if_pos (by decide)) ?_
  refine Eq.trans (if_pos rfl) ?_
  refine Eq.trans (if_pos (by decide)) ?_
  refine Eq.trans (if_pos rfl) ?_
  refine Eq.trans (bind_eq s6) ?_
  refine Eq.trans (bind_eq (ints_eq hk _ _ (.inl (by decide)))) ?_
  refine Eq.trans (if_pos (by simp)) ?_
  refine Eq.trans (bind_eq s7) ?_
  exact hj1
end Go.Proofs.Ytdlokohmdnkdoaa.G
/- The row of 'BagKnown' (its '..UptoSaid'): whatever the input of bulk at most 1048576, the law returns true and the input reads as it did. -/
namespace Go.Proofs.Ytdlokohmdnkdoaa.bagKnown
open Go.ChangeShapes Go.WideShapes Go.ChangeAt Go.RowKit
set_option linter.unusedVariables false
set_option maxRecDepth 100000 in
theorem contract (H : Type) (enc : TypeId × Value → H) (W : World) (base : Nat) (args : Array Value) (ds gs : List (DataW H)) (before : List MemPlace)
    (hval : ∀ (j : Nat) t v, Try.f6.params[j]? = some t → args[j]? = some v → Value.okWide Try.prog W .any base t v)
    (hW : DataW.Whole enc Try.prog Try.f6.params.toList Rows.bagKnownSpec.vars false W args.toList ds gs before) (hk : Rows.uptoSmall H (ds ++ gs) = true) :
    Calls Try.prog 6 args W fun e W' => ∃ v, e = .returned v ∧ Rows.bagKnownSpec.post enc Try.prog Try.f6 false true false false W args v W' := by
  have hW' := hW
  obtain ⟨p, q, hA0, hV, rfl, hfz, hnd⟩ := hW
  have hA : DataW.TrodAll enc Try.prog W 0 (fun _ => true) true Try.f6.params.toList args.toList ds p := hA0
  rw [Try.params6] at hA hval
  obtain ⟨hargs, rfl, rfl⟩ := trodAll_nil hA
  obtain rfl : args = #[] := by cases args; simp_all
  obtain ⟨rfl, rfl⟩ := trodVars_none hV
  have hb : Rows.uptoBulkAll [] ≤ 1048576 := of_decide_eq_true hk
  simp only [Rows.uptoBulkAll] at hb
  refine (G.haulagelaw20_BagKnown.calls 1099511627776 (m := 1) (c0 := G.c0) (w0 := W) (Nat.lt_succ_self 0) (fun _ _ => Nat.lt_succ_self 0)  true (G.BagKnown_true (k := 1099511627776) (Nat.le_refl _))).mono fun e W' ⟨c_, he, ev_, _⟩ => ?_
  subst he
  have bel : Below W.heap.size W W' := G.Ev.below ev_
  exact ⟨_, rfl, _, _, _, [], _, [], hW', trodAll_mk1 (shut_bool Try.underlying4 _), trodAll_mk0, rfl, bel.frame _, fun h => by cases h⟩
set_option maxRecDepth 100000 in
theorem lifted (os : Os) (started : os.Started) (H : Type) (enc : TypeId × Value → H) (F : Stop.Interp) :
    ReturnsInHanded {} Try.checked os 6 .any ((Rows.OpenSpec.upto Rows.bagKnownSpec).pre6 enc Try.prog Try.f6 Rows.bagKnownUptoRow.domain false) (((Rows.OpenSpec.upto Rows.bagKnownSpec).at F).post enc Try.prog Try.f6 false true false false) := by
  refine returnsInHanded_of_cond (C := Try.checked) (s := Rows.OpenSpec.upto Rows.bagKnownSpec) (k := Rows.uptoSmall) rfl G.row_own started (by kernel_rfl) Try.func6
    (OpenSpec.witness (enc := enc) (C := Try.checked) (s := Rows.OpenSpec.upto Rows.bagKnownSpec) (k := Rows.uptoSmall) rfl false ⟨#[], #[], []⟩ 8 (by kernel_rfl) (by kernel_rfl) (by kernel_rfl)
      (x := ([], [], [])) (by kernel_rfl) rfl (by kernel_rfl)) ?_
  intro W base args ds gs before hval hW _ hk _
  exact contract H enc W base args ds gs before hval hW hk
theorem over : Rows.bagKnownUptoRow.holds Try.pinned (Rows.OpenSpec.upto Rows.bagKnownSpec) :=
  OpenClaim.holds_of_cond 6 Try.f6 rfl rfl rfl rfl rfl rfl rfl ⟨rfl, rfl, rfl, rfl, rfl⟩ rfl rfl rfl rfl rfl (by kernel_rfl) Try.func6 (by kernel_rfl)
    (of_decide_eq_true (by kernel_rfl)) (by unfold Func.isWrapper; first | (rw [if_pos (by decide +kernel)]; kernel_rfl) | (rw [if_neg (by decide +kernel)]; exact ⟨rfl, rfl⟩))
    (fun os started H enc _ F => lifted os started H enc F)
theorem proved : Rows.BagKnownUptoSaid := over
end Go.Proofs.Ytdlokohmdnkdoaa.bagKnown
namespace Go.Proofs.Ytdlokohmdnkdoaa
/-- The row, under a short name, for the claim. -/
theorem bagKnown_holds : Rows.BagKnownUptoSaid := bagKnown.proved
end Go.Proofs.Ytdlokohmdnkdoaa
