/- The row of 'TableSwaps', its '..UptoSaid': whatever the input of bulk at most 1048576, the law returns true and the input reads as it did; its walk, its plain law, the row. -/
import Derived.Test.YtcolmmjcdlmcoaaMB
import Derived.Test.YtcolmmjcdlmcoaaMC5
import Derived.Test.YtcolmmjcdlmcoaaMC4
import Derived.Test.YtcolmmjcdlmcoaaMC2
import Derived.Test.YtcolmmjcdlmcoaaMC3
import Derived.Test.YtcolmmjcdlmcoaaMT
import Derived.Test.YtcolmmjcdlmcoaaRows
import Derived.WalkKit
import Derived.ProofKit
import Derived.OpenShut
import Derived.JoinedCond
import Derived.Below
import Derived.ChangeOld
namespace Go.Proofs.Ytcolmmjcdlmcoaa.G
open Go Go.RowKit
set_option linter.unusedVariables false
set_option linter.unusedSimpArgs false
set_option maxRecDepth 100000 in
set_option maxHeartbeats 4000000 in
theorem haulagelaw13_TableSwaps.calls (k : Nat) {m : Nat} {c0 : Nat → Nat} {w0 : World} {A2 : Option Addr} {C3 : Nat} {A6 : Option Addr} {C7 : Nat} {A10 : Option Addr} {C11 : Nat} {A14 : Option Addr} {C15 : Nat} {a1 : List api_Op} {a5 : List Int} {a9 : List Int} {a13 : List api_Op} (hm0 : 0 < m) (B0 : CB m c0 w0) (h4 : SL false K_api_Op 0 0 c0 w0 A2 C3 a1) (h8 : SL false (Kint .u8) 0 0 c0 w0 A6 C7 a5) (h12 : SL false (Kint .u8) 0 0 c0 w0 A10 C11 a9) (h16 : SL false K_api_Op 0 0 c0 w0 A14 C15 a13) (r : Bool) (H : haulagelaw13_TableSwaps.f k a1 a5 a9 a13 = some r) : Calls Try.prog 3 #[.slice A2 a1.length C3, .slice A6 a5.length C7, .slice A10 a9.length C11, .slice A14 a13.length C15] w0 (fun e w_ => ∃ (c_ : Nat → Nat), e = .returned (.bool r) ∧ Ev (fun x => False) c0 w0 c_ w_ ∧ CB m c_ w_) := by
  unfold haulagelaw13_TableSwaps.f at H
  have B := B0.mono (show m ≤ m + 7 by omega)
  have E : Ev (fun x => False ∨ m ≤ x) c0 w0 c0 w0 := Ev.refl
  refine enter (N := 158) (l := [.slice A2 a1.length C3, .slice A6 a5.length C7, .slice A10 a9.length C11, .slice A14 a13.length C15]) Try.func3 rfl rfl (Nat.le_of_ble_eq_true rfl) fun a F => ?_
  refine wp_seq_k fun K17 hK17 => ?_
  refine reg ?_
  refine q_val F rfl rfl (by decide) (r_assign F rfl) fun a F => ?_
  refine nil ?_
  refine hK17 _ _ ?_
  refine wp_seq_k fun K18 hK18 => ?_
  refine wp_seq_k fun K19 hK19 => ?_
  refine reg ?_
  obtain ⟨t20, q21, H⟩ := bind_some H
  refine q_call F rfl rfl (by decide) (r_call F Try.func12 rfl (by kernel_rfl) rfl) (haulagelaw13_awake.calls k (m := m + 7) (by omega) B _ q21) ?_
  rintro e w23 ⟨c22, rfl, E24, B25⟩
  refine ⟨_, rfl, fun a F => ?_⟩
  have B := B25
  have h4 := SL.ev h4 E24 (fun q => q.elim) (fun q => q.elim)
  have h8 := SL.ev h8 E24 (fun q => q.elim) (fun q => q.elim)
  have h12 := SL.ev h12 E24 (fun q => q.elim) (fun q => q.elim)
  have h16 := SL.ev h16 E24 (fun q => q.elim) (fun q => q.elim)
  have E := E.trans E24 (fun x q => q.elim)
  refine q_val F rfl rfl (by decide) (r_not F rfl) fun a F => ?_
  refine nil ?_
  refine hK19 _ _ ?_
  by_cases hb27 : t20 = true
  · have H := (if_pos hb27).symm.trans H
    refine wp_cond_false ((F.ev rfl).trans (congrArg Value.bool (congrArg not hb27))) ?_
    refine wp_skip ?_
    refine hK18 _ _ ?_
    refine wp_seq_k fun K29 hK29 => ?_
    refine reg ?_
    refine q_val F rfl rfl (by decide) (r_move F rfl) fun a F => ?_
    obtain ⟨t30, q31, H⟩ := bind_some H
    refine q_call F rfl rfl (by decide) (r_call F Try.func13 rfl (by kernel_rfl) rfl) (haulagelaw13_made.calls k (m := m + 7) (by omega) B h4 (by omega) (m + 1) (by omega) _ q31) ?_
    rintro e w33 ⟨c32, p36, rfl, E34, B35, h37⟩
    refine ⟨_, rfl, fun a F => ?_⟩
    have B := B35
    have h4 := SL.ev h4 E34 (fun q => q.elim) (fun q => q.elim)
    have h8 := SL.ev h8 E34 (fun q => q.elim) (fun q => q.elim)
    have h12 := SL.ev h12 E34 (fun q => q.elim) (fun q => q.elim)
    have h16 := SL.ev h16 E34 (fun q => q.elim) (fun q => q.elim)
    have E := E.trans E34 (fun x q => q.elim)
    refine q_val F rfl rfl (by decide) (r_assign F rfl) fun a F => ?_
    refine nil ?_
    refine hK29 _ _ ?_
    refine wp_seq_k fun K39 hK39 => ?_
    refine reg ?_
    refine q_val F rfl rfl (by decide) (r_move F rfl) fun a F => ?_
    refine q_val F rfl rfl (by decide) (r_move F rfl) fun a F => ?_
    obtain ⟨t40, q41, H⟩ := bind_some H
    refine q_call F rfl rfl (by decide) (r_call F Try.func15 rfl (by kernel_rfl) rfl) (haulagelaw13_get.calls (m := m + 7) (by omega) B h8 0 (by omega) _ q41) ?_
    rintro e w43 ⟨c42, A46, C47, A49, C50, rfl, E44, B45, h48, h51⟩
    refine ⟨_, rfl, fun a F => ?_⟩
    have B := B45
    have h4 := SL.ev h4 E44 (fun q => q.elim) (fun q => q.elim)
    have h8 := SL.ev h8 E44 (fun q => q.elim) (fun q => q.elim)
    have h12 := SL.ev h12 E44 (fun q => q.elim) (fun q => q.elim)
    have h16 := SL.ev h16 E44 (fun q => q.elim) (fun q => q.elim)
    have h37 := TB.ev h37 E44 (fun q => q.elim) (fun q => q.elim)
    have E := E.trans E44 (fun x q => q.elim)
    obtain ⟨t53, q54, H⟩ := bind_some H
    refine q_call F rfl rfl (by decide) (r_call F Try.func14 rfl (by kernel_rfl) rfl) (table_Table_Do.calls k (m := m + 7) (by omega) B h37 h48 h51.r (by omega) _ q54) ?_
    rintro e w56 ⟨c55, A59, C60, A62, C63, rfl, E57, B58, h61, h64, h65⟩
    refine ⟨_, rfl, fun a F => ?_⟩
    have B := B58
    have h4 := SL.ev h4 E57 (by show ¬ (0 = m + 1); omega) (by show ¬ (0 = m + 1); omega)
    have h8 := SL.ev h8 E57 (by show ¬ (0 = m + 1); omega) (by show ¬ (0 = m + 1); omega)
    have h12 := SL.ev h12 E57 (by show ¬ (0 = m + 1); omega) (by show ¬ (0 = m + 1); omega)
    have h16 := SL.ev h16 E57 (by show ¬ (0 = m + 1); omega) (by show ¬ (0 = m + 1); omega)
    have h48 := SL.ev h48 E57 (by show ¬ (0 = m + 1); omega) (by show ¬ (0 = m + 1); omega)
    have h51 := SL.ev h51 E57 (by show ¬ (0 = m + 1); omega) (by show ¬ (0 = m + 1); omega)
    have E := E.trans E57 (fun x q => by replace q : x = m + 1 := q; show False ∨ m ≤ x; omega)
    refine q_val F rfl rfl (by decide) (r_move F rfl) fun a F => ?_
    refine q_val F rfl rfl (by decide) (r_extract F rfl rfl) fun a F => ?_
    refine q_val F rfl rfl (by decide) (r_extract F rfl rfl) fun a F => ?_
    refine q_eff F rfl rfl (by decide) (e_alloc F zv_28 c55 (m + 2)) ?_
    rintro v w68 a ⟨c67, qa69, rfl, E70, h71, B72⟩ F
    have B := B72 _ B (by omega)
    have h4 := SL.ev h4 E70 (fun q => q.elim) (fun q => q.elim)
    have h8 := SL.ev h8 E70 (fun q => q.elim) (fun q => q.elim)
    have h12 := SL.ev h12 E70 (fun q => q.elim) (fun q => q.elim)
    have h16 := SL.ev h16 E70 (fun q => q.elim) (fun q => q.elim)
    have h48 := SL.ev h48 E70 (fun q => q.elim) (fun q => q.elim)
    have h51 := SL.ev h51 E70 (fun q => q.elim) (fun q => q.elim)
    have h61 := SL.ev h61 E70 (fun q => q.elim) (fun q => q.elim)
    have h64 := SL.ev h64 E70 (fun q => q.elim) (fun q => q.elim)
    have h65 := TB.ev h65 E70 (fun q => q.elim) (fun q => q.elim)
    have E := E.trans E70 (fun x q => q.elim)
    have h71 : AT true (m + 2) c67 w68 qa69 [.bool false, .slice none 0 0, .slice none 0 0, .int .i64 0, .int .i64 0] := h71
    refine q_eff0 F rfl rfl (e_storeN0 (us := [.bool t53.1.Done, .slice A59 t53.1.Key.length C60, .slice A62 t53.1.Value.length C63, .int .i64 t53.1.Rev, .int .i64 t53.1.At]) F rfl rfl sz_28 h71 (Nat.le_of_ble_eq_true rfl) (one_all rfl)) ?_
    rintro w74 a ⟨E75, h71, Z76⟩ F
    have B := B.size Z76
    have h4 := SL.ev h4 E75 (by show ¬ (0 = m + 2); omega) (by show ¬ (0 = m + 2); omega)
    have h8 := SL.ev h8 E75 (by show ¬ (0 = m + 2); omega) (by show ¬ (0 = m + 2); omega)
    have h12 := SL.ev h12 E75 (by show ¬ (0 = m + 2); omega) (by show ¬ (0 = m + 2); omega)
    have h16 := SL.ev h16 E75 (by show ¬ (0 = m + 2); omega) (by show ¬ (0 = m + 2); omega)
    have h48 := SL.ev h48 E75 (by show ¬ (0 = m + 2); omega) (by show ¬ (0 = m + 2); omega)
    have h51 := SL.ev h51 E75 (by show ¬ (0 = m + 2); omega) (by show ¬ (0 = m + 2); omega)
    have h61 := SL.ev h61 E75 (by show ¬ (0 = m + 2); omega) (by show ¬ (0 = m + 2); omega)
    have h64 := SL.ev h64 E75 (by show ¬ (0 = m + 2); omega) (by show ¬ (0 = m + 2); omega)
    have h65 := TB.ev h65 E75 (by show ¬ (m + 1 = m + 2); omega) (by show ¬ (0 = m + 2); omega)
    have E := E.trans E75 (fun x q => by replace q : x = m + 2 := q; show False ∨ m ≤ x; omega)
    have h71 : AT true (m + 2) c67 w74 qa69 [.bool t53.1.Done, .slice A59 t53.1.Key.length C60, .slice A62 t53.1.Value.length C63, .int .i64 t53.1.Rev, .int .i64 t53.1.At] := h71
    refine q_val F rfl rfl (by decide) (r_assign F rfl) fun a F => ?_
    refine nil ?_
    refine hK39 _ _ ?_
    refine wp_seq_k fun K77 hK77 => ?_
    refine wp_seq_k fun K78 hK78 => ?_
    refine reg ?_
    refine q_val F rfl rfl (by decide) (r_move F rfl) fun a F => ?_
    refine q_val F rfl rfl (by decide) (r_neq F rfl rfl) fun a F => ?_
    refine nil ?_
    refine hK78 _ _ ?_
    by_cases hb79 : t53.2.1 = 0
    · have H := (if_pos hb79).symm.trans H
      refine wp_cond_false ((F.ev rfl).trans (congrArg Value.bool (congrArg not (decide_eq_true hb79)))) ?_
      refine wp_skip ?_
      refine hK77 _ _ ?_
      refine wp_seq_k fun K101 hK101 => ?_
      refine reg ?_
      refine q_val F rfl rfl (by decide) (r_assign F rfl) fun a F => ?_
      refine nil ?_
      refine hK101 _ _ ?_
      refine wp_seq_k fun K102 hK102 => ?_
      refine wp_seq_k fun K103 hK103 => ?_
      refine reg ?_
      refine q_val F rfl rfl (by decide) (r_assign F rfl) fun a F => ?_
      refine nil ?_
      refine hK103 _ _ ?_
      refine wp_block ?_
      obtain ⟨x225, HL, HR224⟩ := bind_some H
      have J320 : ∀ (c321 : Nat → Nat) (w322 : World) (a : Act) (o318 : Option Tab) (b319 : Bool), Fr a 158 [(1, .slice A6 a5.length C7), (2, .slice A10 a9.length C11), (9, .pointer p36), (10, .pointer (some qa69)), (12, .bool b319)] → Ev (fun x => False ∨ m ≤ x) c0 w0 c321 w322 → CB (m + 7) c321 w322 → AT true (m + 2) c321 w322 qa69 [.bool t53.1.Done, .slice A59 t53.1.Key.length C60, .slice A62 t53.1.Value.length C63, .int .i64 t53.1.Rev, .int .i64 t53.1.At] → SL false (Kint .u8) 0 0 c321 w322 A6 C7 a5 → SL false (Kint .u8) 0 0 c321 w322 A10 C11 a9 → SL false (Kint .u8) 0 0 c321 w322 A59 C60 t53.1.Key → SL false (Kint .u8) 0 0 c321 w322 A62 C63 t53.1.Value → TB (m + 1) c321 w322 p36 o318 → haulagelaw13_TableSwaps.j4 k a5 a9 t53 o318 b319 = some r → K102 a w322 := by
        intro c321 w322 a o318 b319 F E B h71 h8 h12 h61 h64 h317 H
        unfold haulagelaw13_TableSwaps.j4 at H
        refine hK102 _ _ ?_
        refine wp_seq_k fun K323 hK323 => ?_
        refine reg ?_
        refine q_val F rfl rfl (by decide) (r_move F rfl) fun a F => ?_
        refine q_val F rfl rfl (by decide) (r_move F rfl) fun a F => ?_
        refine q_val F rfl rfl (by decide) (r_fieldAddr F rfl ff_28_3) fun a F => ?_
        refine q_val F rfl rfl (by decide) (r_load F rfl ag_3 (AT.cell h71 rfl)) fun a F => ?_
        refine q_val F rfl rfl (by decide) (r_build (v := .agg #[.int .i64 4, .slice A6 a5.length C7, .slice A10 a9.length C11, .int .i64 t53.1.Rev]) F [(0, .int .i64 4), (1, .slice A6 a5.length C7), (2, .slice A10 a9.length C11), (3, .int .i64 t53.1.Rev)] (by exact ⟨rfl, rfl, rfl, rfl, rfl, rfl, rfl, rfl, trivial⟩) (fun w => by kernel_rfl)) fun a F => ?_
        refine q_eff F rfl rfl (by decide) (e_alloc F zv_33 c321 (m + 4)) ?_
        rintro v w325 a ⟨c324, qa326, rfl, E327, h328, B329⟩ F
        have B := B329 _ B (by omega)
        have h71 := AT.ev h71 E327 (fun q => q.elim)
        have h8 := SL.ev h8 E327 (fun q => q.elim) (fun q => q.elim)
        have h12 := SL.ev h12 E327 (fun q => q.elim) (fun q => q.elim)
        have h61 := SL.ev h61 E327 (fun q => q.elim) (fun q => q.elim)
        have h64 := SL.ev h64 E327 (fun q => q.elim) (fun q => q.elim)
        have h317 := TB.ev h317 E327 (fun q => q.elim) (fun q => q.elim)
        have E := E.trans E327 (fun x q => q.elim)
        have h328 : AT true (m + 4) c324 w325 qa326 [.int .i64 0, .slice none 0 0, .slice none 0 0, .int .i64 0] := h328
        refine q_eff0 F rfl rfl (e_storeN0 (us := [.int .i64 4, .slice A6 a5.length C7, .slice A10 a9.length C11, .int .i64 t53.1.Rev]) F rfl rfl sz_33 h328 (Nat.le_of_ble_eq_true rfl) (one_all rfl)) ?_
        rintro w331 a ⟨E332, h328, Z333⟩ F
        have B := B.size Z333
        have h71 := AT.ev h71 E332 (by show ¬ (m + 2 = m + 4); omega)
        have h8 := SL.ev h8 E332 (by show ¬ (0 = m + 4); omega) (by show ¬ (0 = m + 4); omega)
        have h12 := SL.ev h12 E332 (by show ¬ (0 = m + 4); omega) (by show ¬ (0 = m + 4); omega)
        have h61 := SL.ev h61 E332 (by show ¬ (0 = m + 4); omega) (by show ¬ (0 = m + 4); omega)
        have h64 := SL.ev h64 E332 (by show ¬ (0 = m + 4); omega) (by show ¬ (0 = m + 4); omega)
        have h317 := TB.ev h317 E332 (by show ¬ (m + 1 = m + 4); omega) (by show ¬ (0 = m + 4); omega)
        have E := E.trans E332 (fun x q => by replace q : x = m + 4 := q; show False ∨ m ≤ x; omega)
        have h328 : AT true (m + 4) c324 w331 qa326 [.int .i64 4, .slice A6 a5.length C7, .slice A10 a9.length C11, .int .i64 t53.1.Rev] := h328
        refine nil ?_
        refine hK323 _ _ ?_
        refine wp_seq_k fun K334 hK334 => ?_
        refine reg ?_
        refine q_val F rfl rfl (by decide) (r_move F rfl) fun a F => ?_
        refine q_val F rfl rfl (by decide) (r_loads (cs := [.int .i64 4, .slice A6 a5.length C7, .slice A10 a9.length C11, .int .i64 t53.1.Rev]) F rfl ag_33 sz_33 h328) fun a F => ?_
        obtain ⟨t335, q336, H⟩ := bind_some H
        refine q_call F rfl rfl (by decide) (r_call F Try.func14 rfl (by kernel_rfl) rfl) (table_Table_Do.calls k (m := m + 7) (by omega) B h317 h8 h12 (by omega) _ q336) ?_
        rintro e w338 ⟨c337, A341, C342, A344, C345, rfl, E339, B340, h343, h346, h347⟩
        refine ⟨_, rfl, fun a F => ?_⟩
        have B := B340
        have h71 := AT.ev h71 E339 (by show ¬ (m + 2 = m + 1); omega)
        have h8 := SL.ev h8 E339 (by show ¬ (0 = m + 1); omega) (by show ¬ (0 = m + 1); omega)
        have h12 := SL.ev h12 E339 (by show ¬ (0 = m + 1); omega) (by show ¬ (0 = m + 1); omega)
        have h61 := SL.ev h61 E339 (by show ¬ (0 = m + 1); omega) (by show ¬ (0 = m + 1); omega)
        have h64 := SL.ev h64 E339 (by show ¬ (0 = m + 1); omega) (by show ¬ (0 = m + 1); omega)
        have h328 := AT.ev h328 E339 (by show ¬ (m + 4 = m + 1); omega)
        have E := E.trans E339 (fun x q => by replace q : x = m + 1 := q; show False ∨ m ≤ x; omega)
        refine q_val F rfl rfl (by decide) (r_move F rfl) fun a F => ?_
        refine q_val F rfl rfl (by decide) (r_extract F rfl rfl) fun a F => ?_
        refine q_val F rfl rfl (by decide) (r_extract F rfl rfl) fun a F => ?_
        refine q_eff F rfl rfl (by decide) (e_alloc F zv_28 c337 (m + 5)) ?_
        rintro v w350 a ⟨c349, qa351, rfl, E352, h353, B354⟩ F
        have B := B354 _ B (by omega)
        have h71 := AT.ev h71 E352 (fun q => q.elim)
        have h8 := SL.ev h8 E352 (fun q => q.elim) (fun q => q.elim)
        have h12 := SL.ev h12 E352 (fun q => q.elim) (fun q => q.elim)
        have h61 := SL.ev h61 E352 (fun q => q.elim) (fun q => q.elim)
        have h64 := SL.ev h64 E352 (fun q => q.elim) (fun q => q.elim)
        have h328 := AT.ev h328 E352 (fun q => q.elim)
        have h343 := SL.ev h343 E352 (fun q => q.elim) (fun q => q.elim)
        have h346 := SL.ev h346 E352 (fun q => q.elim) (fun q => q.elim)
        have h347 := TB.ev h347 E352 (fun q => q.elim) (fun q => q.elim)
        have E := E.trans E352 (fun x q => q.elim)
        have h353 : AT true (m + 5) c349 w350 qa351 [.bool false, .slice none 0 0, .slice none 0 0, .int .i64 0, .int .i64 0] := h353
        refine q_eff0 F rfl rfl (e_storeN0 (us := [.bool t335.1.Done, .slice A341 t335.1.Key.length C342, .slice A344 t335.1.Value.length C345, .int .i64 t335.1.Rev, .int .i64 t335.1.At]) F rfl rfl sz_28 h353 (Nat.le_of_ble_eq_true rfl) (one_all rfl)) ?_
        rintro w356 a ⟨E357, h353, Z358⟩ F
        have B := B.size Z358
        have h71 := AT.ev h71 E357 (by show ¬ (m + 2 = m + 5); omega)
        have h8 := SL.ev h8 E357 (by show ¬ (0 = m + 5); omega) (by show ¬ (0 = m + 5); omega)
        have h12 := SL.ev h12 E357 (by show ¬ (0 = m + 5); omega) (by show ¬ (0 = m + 5); omega)
        have h61 := SL.ev h61 E357 (by show ¬ (0 = m + 5); omega) (by show ¬ (0 = m + 5); omega)
        have h64 := SL.ev h64 E357 (by show ¬ (0 = m + 5); omega) (by show ¬ (0 = m + 5); omega)
        have h328 := AT.ev h328 E357 (by show ¬ (m + 4 = m + 5); omega)
        have h343 := SL.ev h343 E357 (by show ¬ (0 = m + 5); omega) (by show ¬ (0 = m + 5); omega)
        have h346 := SL.ev h346 E357 (by show ¬ (0 = m + 5); omega) (by show ¬ (0 = m + 5); omega)
        have h347 := TB.ev h347 E357 (by show ¬ (m + 1 = m + 5); omega) (by show ¬ (0 = m + 5); omega)
        have E := E.trans E357 (fun x q => by replace q : x = m + 5 := q; show False ∨ m ≤ x; omega)
        have h353 : AT true (m + 5) c349 w356 qa351 [.bool t335.1.Done, .slice A341 t335.1.Key.length C342, .slice A344 t335.1.Value.length C345, .int .i64 t335.1.Rev, .int .i64 t335.1.At] := h353
        refine q_val F rfl rfl (by decide) (r_assign F rfl) fun a F => ?_
        refine nil ?_
        refine hK334 _ _ ?_
        refine wp_seq_k fun K359 hK359 => ?_
        refine wp_seq_k fun K360 hK360 => ?_
        refine reg ?_
        refine q_val F rfl rfl (by decide) (r_move F rfl) fun a F => ?_
        refine q_val F rfl rfl (by decide) (r_neq F rfl rfl) fun a F => ?_
        refine nil ?_
        refine hK360 _ _ ?_
        by_cases hb361 : t335.2.1 = 0
        · have H := (if_pos hb361).symm.trans H
          refine wp_cond_false ((F.ev rfl).trans (congrArg Value.bool (congrArg not (decide_eq_true hb361)))) ?_
          refine wp_skip ?_
          refine hK359 _ _ ?_
          refine wp_seq_k fun K363 hK363 => ?_
          refine reg ?_
          refine q_val F rfl rfl (by decide) (r_move F rfl) fun a F => ?_
          refine q_val F rfl rfl (by decide) (r_move F rfl) fun a F => ?_
          obtain ⟨t364, q365, H⟩ := bind_some H
          refine q_call F rfl rfl (by decide) (r_call F Try.func15 rfl (by kernel_rfl) rfl) (haulagelaw13_get.calls (m := m + 7) (by omega) B h8 0 (by omega) _ q365) ?_
          rintro e w367 ⟨c366, A370, C371, A373, C374, rfl, E368, B369, h372, h375⟩
          refine ⟨_, rfl, fun a F => ?_⟩
          have B := B369
          have h71 := AT.ev h71 E368 (fun q => q.elim)
          have h8 := SL.ev h8 E368 (fun q => q.elim) (fun q => q.elim)
          have h12 := SL.ev h12 E368 (fun q => q.elim) (fun q => q.elim)
          have h61 := SL.ev h61 E368 (fun q => q.elim) (fun q => q.elim)
          have h64 := SL.ev h64 E368 (fun q => q.elim) (fun q => q.elim)
          have h328 := AT.ev h328 E368 (fun q => q.elim)
          have h343 := SL.ev h343 E368 (fun q => q.elim) (fun q => q.elim)
          have h346 := SL.ev h346 E368 (fun q => q.elim) (fun q => q.elim)
          have h347 := TB.ev h347 E368 (fun q => q.elim) (fun q => q.elim)
          have h353 := AT.ev h353 E368 (fun q => q.elim)
          have E := E.trans E368 (fun x q => q.elim)
          obtain ⟨t377, q378, H⟩ := bind_some H
          refine q_call F rfl rfl (by decide) (r_call F Try.func14 rfl (by kernel_rfl) rfl) (table_Table_Do.calls k (m := m + 7) (by omega) B h347 h372 h375.r (by omega) _ q378) ?_
          rintro e w380 ⟨c379, A383, C384, A386, C387, rfl, E381, B382, h385, h388, h389⟩
          refine ⟨_, rfl, fun a F => ?_⟩
          have B := B382
          have h71 := AT.ev h71 E381 (by show ¬ (m + 2 = m + 1); omega)
          have h8 := SL.ev h8 E381 (by show ¬ (0 = m + 1); omega) (by show ¬ (0 = m + 1); omega)
          have h12 := SL.ev h12 E381 (by show ¬ (0 = m + 1); omega) (by show ¬ (0 = m + 1); omega)
          have h61 := SL.ev h61 E381 (by show ¬ (0 = m + 1); omega) (by show ¬ (0 = m + 1); omega)
          have h64 := SL.ev h64 E381 (by show ¬ (0 = m + 1); omega) (by show ¬ (0 = m + 1); omega)
          have h328 := AT.ev h328 E381 (by show ¬ (m + 4 = m + 1); omega)
          have h343 := SL.ev h343 E381 (by show ¬ (0 = m + 1); omega) (by show ¬ (0 = m + 1); omega)
          have h346 := SL.ev h346 E381 (by show ¬ (0 = m + 1); omega) (by show ¬ (0 = m + 1); omega)
          have h353 := AT.ev h353 E381 (by show ¬ (m + 5 = m + 1); omega)
          have h372 := SL.ev h372 E381 (by show ¬ (0 = m + 1); omega) (by show ¬ (0 = m + 1); omega)
          have h375 := SL.ev h375 E381 (by show ¬ (0 = m + 1); omega) (by show ¬ (0 = m + 1); omega)
          have E := E.trans E381 (fun x q => by replace q : x = m + 1 := q; show False ∨ m ≤ x; omega)
          refine q_val F rfl rfl (by decide) (r_move F rfl) fun a F => ?_
          refine q_val F rfl rfl (by decide) (r_extract F rfl rfl) fun a F => ?_
          refine q_val F rfl rfl (by decide) (r_extract F rfl rfl) fun a F => ?_
          refine q_eff F rfl rfl (by decide) (e_alloc F zv_28 c379 (m + 6)) ?_
          rintro v w392 a ⟨c391, qa393, rfl, E394, h395, B396⟩ F
          have B := B396 _ B (by omega)
          have h71 := AT.ev h71 E394 (fun q => q.elim)
          have h8 := SL.ev h8 E394 (fun q => q.elim) (fun q => q.elim)
          have h12 := SL.ev h12 E394 (fun q => q.elim) (fun q => q.elim)
          have h61 := SL.ev h61 E394 (fun q => q.elim) (fun q => q.elim)
          have h64 := SL.ev h64 E394 (fun q => q.elim) (fun q => q.elim)
          have h328 := AT.ev h328 E394 (fun q => q.elim)
          have h343 := SL.ev h343 E394 (fun q => q.elim) (fun q => q.elim)
          have h346 := SL.ev h346 E394 (fun q => q.elim) (fun q => q.elim)
          have h353 := AT.ev h353 E394 (fun q => q.elim)
          have h372 := SL.ev h372 E394 (fun q => q.elim) (fun q => q.elim)
          have h375 := SL.ev h375 E394 (fun q => q.elim) (fun q => q.elim)
          have h385 := SL.ev h385 E394 (fun q => q.elim) (fun q => q.elim)
          have h388 := SL.ev h388 E394 (fun q => q.elim) (fun q => q.elim)
          have h389 := TB.ev h389 E394 (fun q => q.elim) (fun q => q.elim)
          have E := E.trans E394 (fun x q => q.elim)
          have h395 : AT true (m + 6) c391 w392 qa393 [.bool false, .slice none 0 0, .slice none 0 0, .int .i64 0, .int .i64 0] := h395
          refine q_eff0 F rfl rfl (e_storeN0 (us := [.bool t377.1.Done, .slice A383 t377.1.Key.length C384, .slice A386 t377.1.Value.length C387, .int .i64 t377.1.Rev, .int .i64 t377.1.At]) F rfl rfl sz_28 h395 (Nat.le_of_ble_eq_true rfl) (one_all rfl)) ?_
          rintro w398 a ⟨E399, h395, Z400⟩ F
          have B := B.size Z400
          have h71 := AT.ev h71 E399 (by show ¬ (m + 2 = m + 6); omega)
          have h8 := SL.ev h8 E399 (by show ¬ (0 = m + 6); omega) (by show ¬ (0 = m + 6); omega)
          have h12 := SL.ev h12 E399 (by show ¬ (0 = m + 6); omega) (by show ¬ (0 = m + 6); omega)
          have h61 := SL.ev h61 E399 (by show ¬ (0 = m + 6); omega) (by show ¬ (0 = m + 6); omega)
          have h64 := SL.ev h64 E399 (by show ¬ (0 = m + 6); omega) (by show ¬ (0 = m + 6); omega)
          have h328 := AT.ev h328 E399 (by show ¬ (m + 4 = m + 6); omega)
          have h343 := SL.ev h343 E399 (by show ¬ (0 = m + 6); omega) (by show ¬ (0 = m + 6); omega)
          have h346 := SL.ev h346 E399 (by show ¬ (0 = m + 6); omega) (by show ¬ (0 = m + 6); omega)
          have h353 := AT.ev h353 E399 (by show ¬ (m + 5 = m + 6); omega)
          have h372 := SL.ev h372 E399 (by show ¬ (0 = m + 6); omega) (by show ¬ (0 = m + 6); omega)
          have h375 := SL.ev h375 E399 (by show ¬ (0 = m + 6); omega) (by show ¬ (0 = m + 6); omega)
          have h385 := SL.ev h385 E399 (by show ¬ (0 = m + 6); omega) (by show ¬ (0 = m + 6); omega)
          have h388 := SL.ev h388 E399 (by show ¬ (0 = m + 6); omega) (by show ¬ (0 = m + 6); omega)
          have h389 := TB.ev h389 E399 (by show ¬ (m + 1 = m + 6); omega) (by show ¬ (0 = m + 6); omega)
          have E := E.trans E399 (fun x q => by replace q : x = m + 6 := q; show False ∨ m ≤ x; omega)
          have h395 : AT true (m + 6) c391 w398 qa393 [.bool t377.1.Done, .slice A383 t377.1.Key.length C384, .slice A386 t377.1.Value.length C387, .int .i64 t377.1.Rev, .int .i64 t377.1.At] := h395
          refine q_val F rfl rfl (by decide) (r_assign F rfl) fun a F => ?_
          refine nil ?_
          refine hK363 _ _ ?_
          refine wp_seq_k fun K401 hK401 => ?_
          refine wp_seq_k fun K402 hK402 => ?_
          refine reg ?_
          refine q_val F rfl rfl (by decide) (r_move F rfl) fun a F => ?_
          refine q_val F rfl rfl (by decide) (r_neq F rfl rfl) fun a F => ?_
          refine nil ?_
          refine hK402 _ _ ?_
          by_cases hb403 : t377.2.1 = 0
          · have H := (if_pos hb403).symm.trans H
            refine wp_cond_false ((F.ev rfl).trans (congrArg Value.bool (congrArg not (decide_eq_true hb403)))) ?_
            refine wp_skip ?_
            refine hK401 _ _ ?_
            refine wp_seq_k fun K405 hK405 => ?_
            refine wp_seq_k fun K406 hK406 => ?_
            refine reg ?_
            refine q_val F rfl rfl (by decide) (r_fieldAddr F rfl ff_28_0) fun a F => ?_
            refine q_val F rfl rfl (by decide) (r_load F rfl ag_4 (AT.cell h353 rfl)) fun a F => ?_
            refine nil ?_
            refine hK406 _ _ ?_
            by_cases hb407 : t335.1.Done = true
            · have H := (if_pos hb407).symm.trans H
              refine wp_cond_true ((F.ev rfl).trans (congrArg Value.bool hb407)) ?_
              refine wp_seq_k fun K408 hK408 => ?_
              refine reg ?_
              refine q_val F rfl rfl (by decide) (r_fieldAddr F rfl ff_28_0) fun a F => ?_
              refine q_val F rfl rfl (by decide) (r_load F rfl ag_4 (AT.cell h395 rfl)) fun a F => ?_
              refine q_val F rfl rfl (by decide) (r_move F rfl) fun a F => ?_
              by_cases hb409 : t377.1.Done = true
              · have H := (if_pos hb409).symm.trans H
                refine q_yes F rfl (by decide) rfl hb409 ?_
                refine q_val F rfl rfl (by decide) (r_fieldAddr F rfl ff_28_2) fun a F => ?_
                refine q_yes F rfl (by decide) rfl hb409 ?_
                refine q_val F rfl rfl (by decide) (r_load F rfl ag_23 (AT.cell h395 rfl)) fun a F => ?_
                refine q_yes F rfl (by decide) rfl hb409 ?_
                refine q_val F rfl rfl (by decide) (r_move F rfl) fun a F => ?_
                obtain ⟨t410, q411, H⟩ := bind_some H
                refine q_yes F rfl (by decide) rfl hb409 ?_
                refine q_call F rfl rfl (by decide) (r_call F Try.func18 rfl (by kernel_rfl) rfl) (haulagelaw13_same.calls k (m := m + 7) (by omega) B h388 h12 _ q411) ?_
                rintro e w413 ⟨c412, rfl, E414, B415⟩
                refine ⟨_, rfl, fun a F => ?_⟩
                have B := B415
                have h71 := AT.ev h71 E414 (fun q => q.elim)
                have h8 := SL.ev h8 E414 (fun q => q.elim) (fun q => q.elim)
                have h12 := SL.ev h12 E414 (fun q => q.elim) (fun q => q.elim)
                have h61 := SL.ev h61 E414 (fun q => q.elim) (fun q => q.elim)
                have h64 := SL.ev h64 E414 (fun q => q.elim) (fun q => q.elim)
                have h328 := AT.ev h328 E414 (fun q => q.elim)
                have h343 := SL.ev h343 E414 (fun q => q.elim) (fun q => q.elim)
                have h346 := SL.ev h346 E414 (fun q => q.elim) (fun q => q.elim)
                have h353 := AT.ev h353 E414 (fun q => q.elim)
                have h372 := SL.ev h372 E414 (fun q => q.elim) (fun q => q.elim)
                have h375 := SL.ev h375 E414 (fun q => q.elim) (fun q => q.elim)
                have h385 := SL.ev h385 E414 (fun q => q.elim) (fun q => q.elim)
                have h388 := SL.ev h388 E414 (fun q => q.elim) (fun q => q.elim)
                have h389 := TB.ev h389 E414 (fun q => q.elim) (fun q => q.elim)
                have h395 := AT.ev h395 E414 (fun q => q.elim)
                have E := E.trans E414 (fun x q => q.elim)
                refine q_val F rfl rfl (by decide) (r_pick_t F rfl hb409 rfl) fun a F => ?_
                refine q_val F rfl rfl (by decide) (r_move F rfl) fun a F => ?_
                by_cases hb417 : t410 = true
                · have H := (if_pos hb417).symm.trans H
                  refine q_yes F rfl (by decide) rfl hb417 ?_
                  refine q_val F rfl rfl (by decide) (r_fieldAddr F rfl ff_28_3) fun a F => ?_
                  refine q_yes F rfl (by decide) rfl hb417 ?_
                  refine q_val F rfl rfl (by decide) (r_load F rfl ag_3 (AT.cell h395 rfl)) fun a F => ?_
                  refine q_yes F rfl (by decide) rfl hb417 ?_
                  refine q_val F rfl rfl (by decide) (r_fieldAddr F rfl ff_28_4) fun a F => ?_
                  refine q_yes F rfl (by decide) rfl hb417 ?_
                  refine q_val F rfl rfl (by decide) (r_load F rfl ag_3 (AT.cell h353 rfl)) fun a F => ?_
                  refine q_yes F rfl (by decide) rfl hb417 ?_
                  refine q_val F rfl rfl (by decide) (r_eql F rfl rfl) fun a F => ?_
                  refine q_val F rfl rfl (by decide) (r_pick_t F rfl hb417 rfl) fun a F => ?_
                  refine q_val F rfl rfl (by decide) (r_move F rfl) fun a F => ?_
                  by_cases hb418 : t377.1.Rev = t335.1.At
                  · have H := (if_pos hb418).symm.trans H
                    refine q_yes F rfl (by decide) rfl (decide_eq_true hb418) ?_
                    refine q_val F rfl rfl (by decide) (r_move F rfl) fun a F => ?_
                    refine q_yes F rfl (by decide) rfl (decide_eq_true hb418) ?_
                    refine q_val F rfl rfl (by decide) (r_not F rfl) fun a F => ?_
                    refine q_yes F rfl (by decide) rfl (decide_eq_true hb418) ?_
                    refine q_val F rfl rfl (by decide) (r_move F rfl) fun a F => ?_
                    by_cases hb419 : b319 = true
                    · have H := (if_pos hb419).symm.trans H
                      refine q_yes F rfl (by decide) rfl (congrArg not hb419) ?_
                      refine q_val F rfl rfl (by decide) (r_fieldAddr F rfl ff_28_0) fun a F => ?_
                      refine q_yes F rfl (by decide) rfl (congrArg not hb419) ?_
                      refine q_val F rfl rfl (by decide) (r_load F rfl ag_4 (AT.cell h71 rfl)) fun a F => ?_
                      refine q_yes F rfl (by decide) rfl (congrArg not hb419) ?_
                      refine q_val F rfl rfl (by decide) (r_not F rfl) fun a F => ?_
                      refine q_yes F rfl (by decide) rfl (congrArg not hb419) ?_
                      refine q_val F rfl rfl (by decide) (r_move F rfl) fun a F => ?_
                      by_cases hb420 : t53.1.Done = true
                      · have H := (if_pos hb420).symm.trans H
                        refine q_no F rfl (by decide) rfl (congrArg not hb420) (by decide) fun a F => ?_
                        refine q_no F rfl (by decide) rfl (congrArg not hb420) (by decide) fun a F => ?_
                        refine q_no F rfl (by decide) rfl (congrArg not hb420) (by decide) fun a F => ?_
                        refine q_yes F rfl (by decide) rfl (congrArg not hb419) ?_
                        refine q_val F rfl rfl (by decide) (r_pick_f F rfl (congrArg not hb420) rfl) fun a F => ?_
                        refine q_yes F rfl (by decide) rfl (decide_eq_true hb418) ?_
                        refine q_val F rfl rfl (by decide) (r_pick_f F rfl (congrArg not hb419) rfl) fun a F => ?_
                        refine q_val F rfl rfl (by decide) (r_pick_t F rfl (decide_eq_true hb418) rfl) fun a F => ?_
                        refine q_val F rfl rfl (by decide) (r_assign F rfl) fun a F => ?_
                        refine nil ?_
                        refine hK408 _ _ ?_
                        refine wp_ret ?_
                        refine thenR ?_
                        have H := Option.some.inj H
                        subst H
                        refine out1 F rfl rfl ?_
                        exact ⟨fun b_ => (fun x_ => if x_ < m then x_ else 0) (c412 b_), rfl, E.leave B0 (fun x_ => if x_ < m then x_ else 0) (by intro x_ hx_; show (if x_ < m then x_ else 0) = x_; ((repeat' split) <;> omega)), (fun b_ hb_ => by show (if (c412 b_) < m then (c412 b_) else 0) < m; ((repeat' split) <;> omega))⟩
                      · have H := (if_neg hb420).symm.trans H
                        refine q_yes F rfl (by decide) rfl (congrArg not (bfalse hb420)) ?_
                        refine q_val F rfl rfl (by decide) (r_fieldAddr F rfl ff_28_3) fun a F => ?_
                        refine q_yes F rfl (by decide) rfl (congrArg not (bfalse hb420)) ?_
                        refine q_val F rfl rfl (by decide) (r_load F rfl ag_3 (AT.cell h71 rfl)) fun a F => ?_
                        refine q_yes F rfl (by decide) rfl (congrArg not (bfalse hb420)) ?_
                        refine q_val F rfl rfl (by decide) (r_eql F rfl rfl) fun a F => ?_
                        refine q_yes F rfl (by decide) rfl (congrArg not hb419) ?_
                        refine q_val F rfl rfl (by decide) (r_pick_t F rfl (congrArg not (bfalse hb420)) rfl) fun a F => ?_
                        refine q_yes F rfl (by decide) rfl (decide_eq_true hb418) ?_
                        refine q_val F rfl rfl (by decide) (r_pick_f F rfl (congrArg not hb419) rfl) fun a F => ?_
                        refine q_val F rfl rfl (by decide) (r_pick_t F rfl (decide_eq_true hb418) rfl) fun a F => ?_
                        refine q_val F rfl rfl (by decide) (r_assign F rfl) fun a F => ?_
                        refine nil ?_
                        refine hK408 _ _ ?_
                        refine wp_ret ?_
                        refine thenR ?_
                        have H := Option.some.inj H
                        subst H
                        refine out1 F rfl rfl ?_
                        exact ⟨fun b_ => (fun x_ => if x_ < m then x_ else 0) (c412 b_), rfl, E.leave B0 (fun x_ => if x_ < m then x_ else 0) (by intro x_ hx_; show (if x_ < m then x_ else 0) = x_; ((repeat' split) <;> omega)), (fun b_ hb_ => by show (if (c412 b_) < m then (c412 b_) else 0) < m; ((repeat' split) <;> omega))⟩
                    · have H := (if_neg hb419).symm.trans H
                      refine q_no F rfl (by decide) rfl (congrArg not (bfalse hb419)) (by decide) fun a F => ?_
                      refine q_no F rfl (by decide) rfl (congrArg not (bfalse hb419)) (by decide) fun a F => ?_
                      refine q_no F rfl (by decide) rfl (congrArg not (bfalse hb419)) (by decide) fun a F => ?_
                      refine q_no F rfl (by decide) rfl (congrArg not (bfalse hb419)) (by decide) fun a F => ?_
                      refine q_nu F rfl (by decide) rfl (by decide) fun a F => ?_
                      refine q_nu F rfl (by decide) rfl (by decide) fun a F => ?_
                      refine q_nu F rfl (by decide) rfl (by decide) fun a F => ?_
                      refine q_no F rfl (by decide) rfl (congrArg not (bfalse hb419)) (by decide) fun a F => ?_
                      refine q_yes F rfl (by decide) rfl (decide_eq_true hb418) ?_
                      refine q_val F rfl rfl (by decide) (r_pick_t F rfl (congrArg not (bfalse hb419)) rfl) fun a F => ?_
                      refine q_val F rfl rfl (by decide) (r_pick_t F rfl (decide_eq_true hb418) rfl) fun a F => ?_
                      refine q_val F rfl rfl (by decide) (r_assign F rfl) fun a F => ?_
                      refine nil ?_
                      refine hK408 _ _ ?_
                      refine wp_ret ?_
                      refine thenR ?_
                      have H := Option.some.inj H
                      subst H
                      refine out1 F rfl rfl ?_
                      exact ⟨fun b_ => (fun x_ => if x_ < m then x_ else 0) (c412 b_), rfl, E.leave B0 (fun x_ => if x_ < m then x_ else 0) (by intro x_ hx_; show (if x_ < m then x_ else 0) = x_; ((repeat' split) <;> omega)), (fun b_ hb_ => by show (if (c412 b_) < m then (c412 b_) else 0) < m; ((repeat' split) <;> omega))⟩
                  · have H := (if_neg hb418).symm.trans H
                    refine q_no F rfl (by decide) rfl (decide_eq_false hb418) (by decide) fun a F => ?_
                    refine q_no F rfl (by decide) rfl (decide_eq_false hb418) (by decide) fun a F => ?_
                    refine q_no F rfl (by decide) rfl (decide_eq_false hb418) (by decide) fun a F => ?_
                    refine q_nu F rfl (by decide) rfl (by decide) fun a F => ?_
                    refine q_nu F rfl (by decide) rfl (by decide) fun a F => ?_
                    refine q_nu F rfl (by decide) rfl (by decide) fun a F => ?_
                    refine q_nu F rfl (by decide) rfl (by decide) fun a F => ?_
                    refine q_nu F rfl (by decide) rfl (by decide) fun a F => ?_
                    refine q_nu F rfl (by decide) rfl (by decide) fun a F => ?_
                    refine q_nu F rfl (by decide) rfl (by decide) fun a F => ?_
                    refine q_nu F rfl (by decide) rfl (by decide) fun a F => ?_
                    refine q_no F rfl (by decide) rfl (decide_eq_false hb418) (by decide) fun a F => ?_
                    refine q_val F rfl rfl (by decide) (r_pick_f F rfl (decide_eq_false hb418) rfl) fun a F => ?_
                    refine q_val F rfl rfl (by decide) (r_assign F rfl) fun a F => ?_
                    refine nil ?_
                    refine hK408 _ _ ?_
                    refine wp_ret ?_
                    refine thenR ?_
                    have H := Option.some.inj H
                    subst H
                    refine out1 F rfl rfl ?_
                    exact ⟨fun b_ => (fun x_ => if x_ < m then x_ else 0) (c412 b_), rfl, E.leave B0 (fun x_ => if x_ < m then x_ else 0) (by intro x_ hx_; show (if x_ < m then x_ else 0) = x_; ((repeat' split) <;> omega)), (fun b_ hb_ => by show (if (c412 b_) < m then (c412 b_) else 0) < m; ((repeat' split) <;> omega))⟩
                · have H := (if_neg hb417).symm.trans H
                  refine q_no F rfl (by decide) rfl (bfalse hb417) (by decide) fun a F => ?_
                  refine q_no F rfl (by decide) rfl (bfalse hb417) (by decide) fun a F => ?_
                  refine q_no F rfl (by decide) rfl (bfalse hb417) (by decide) fun a F => ?_
                  refine q_no F rfl (by decide) rfl (bfalse hb417) (by decide) fun a F => ?_
                  refine q_no F rfl (by decide) rfl (bfalse hb417) (by decide) fun a F => ?_
                  refine q_val F rfl rfl (by decide) (r_pick_f F rfl (bfalse hb417) rfl) fun a F => ?_
                  refine q_val F rfl rfl (by decide) (r_move F rfl) fun a F => ?_
                  refine q_no F rfl (by decide) rfl rfl (by decide) fun a F => ?_
                  refine q_no F rfl (by decide) rfl rfl (by decide) fun a F => ?_
                  refine q_no F rfl (by decide) rfl rfl (by decide) fun a F => ?_
                  refine q_nu F rfl (by decide) rfl (by decide) fun a F => ?_
                  refine q_nu F rfl (by decide) rfl (by decide) fun a F => ?_
                  refine q_nu F rfl (by decide) rfl (by decide) fun a F => ?_
                  refine q_nu F rfl (by decide) rfl (by decide) fun a F => ?_
                  refine q_nu F rfl (by decide) rfl (by decide) fun a F => ?_
                  refine q_nu F rfl (by decide) rfl (by decide) fun a F => ?_
                  refine q_nu F rfl (by decide) rfl (by decide) fun a F => ?_
                  refine q_nu F rfl (by decide) rfl (by decide) fun a F => ?_
                  refine q_no F rfl (by decide) rfl rfl (by decide) fun a F => ?_
                  refine q_val F rfl rfl (by decide) (r_pick_f F rfl rfl rfl) fun a F => ?_
                  refine q_val F rfl rfl (by decide) (r_assign F rfl) fun a F => ?_
                  refine nil ?_
                  refine hK408 _ _ ?_
                  refine wp_ret ?_
                  refine thenR ?_
                  have H := Option.some.inj H
                  subst H
                  refine out1 F rfl rfl ?_
                  exact ⟨fun b_ => (fun x_ => if x_ < m then x_ else 0) (c412 b_), rfl, E.leave B0 (fun x_ => if x_ < m then x_ else 0) (by intro x_ hx_; show (if x_ < m then x_ else 0) = x_; ((repeat' split) <;> omega)), (fun b_ hb_ => by show (if (c412 b_) < m then (c412 b_) else 0) < m; ((repeat' split) <;> omega))⟩
              · have H := (if_neg hb409).symm.trans H
                refine q_no F rfl (by decide) rfl (bfalse hb409) (by decide) fun a F => ?_
                refine q_no F rfl (by decide) rfl (bfalse hb409) (by decide) fun a F => ?_
                refine q_no F rfl (by decide) rfl (bfalse hb409) (by decide) fun a F => ?_
                refine q_no F rfl (by decide) rfl (bfalse hb409) (by decide) fun a F => ?_
                refine q_val F rfl rfl (by decide) (r_pick_f F rfl (bfalse hb409) rfl) fun a F => ?_
                refine q_val F rfl rfl (by decide) (r_move F rfl) fun a F => ?_
                refine q_no F rfl (by decide) rfl rfl (by decide) fun a F => ?_
                refine q_no F rfl (by decide) rfl rfl (by decide) fun a F => ?_
                refine q_no F rfl (by decide) rfl rfl (by decide) fun a F => ?_
                refine q_no F rfl (by decide) rfl rfl (by decide) fun a F => ?_
                refine q_no F rfl (by decide) rfl rfl (by decide) fun a F => ?_
                refine q_val F rfl rfl (by decide) (r_pick_f F rfl rfl rfl) fun a F => ?_
                refine q_val F rfl rfl (by decide) (r_move F rfl) fun a F => ?_
                refine q_no F rfl (by decide) rfl rfl (by decide) fun a F => ?_
                refine q_no F rfl (by decide) rfl rfl (by decide) fun a F => ?_
                refine q_no F rfl (by decide) rfl rfl (by decide) fun a F => ?_
                refine q_nu F rfl (by decide) rfl (by decide) fun a F => ?_
                refine q_nu F rfl (by decide) rfl (by decide) fun a F => ?_
                refine q_nu F rfl (by decide) rfl (by decide) fun a F => ?_
                refine q_nu F rfl (by decide) rfl (by decide) fun a F => ?_
                refine q_nu F rfl (by decide) rfl (by decide) fun a F => ?_
                refine q_nu F rfl (by decide) rfl (by decide) fun a F => ?_
                refine q_nu F rfl (by decide) rfl (by decide) fun a F => ?_
                refine q_nu F rfl (by decide) rfl (by decide) fun a F => ?_
                refine q_no F rfl (by decide) rfl rfl (by decide) fun a F => ?_
                refine q_val F rfl rfl (by decide) (r_pick_f F rfl rfl rfl) fun a F => ?_
                refine q_val F rfl rfl (by decide) (r_assign F rfl) fun a F => ?_
                refine nil ?_
                refine hK408 _ _ ?_
                refine wp_ret ?_
                refine thenR ?_
                have H := Option.some.inj H
                subst H
                refine out1 F rfl rfl ?_
                exact ⟨fun b_ => (fun x_ => if x_ < m then x_ else 0) (c391 b_), rfl, E.leave B0 (fun x_ => if x_ < m then x_ else 0) (by intro x_ hx_; show (if x_ < m then x_ else 0) = x_; ((repeat' split) <;> omega)), (fun b_ hb_ => by show (if (c391 b_) < m then (c391 b_) else 0) < m; ((repeat' split) <;> omega))⟩
            · have H := (if_neg hb407).symm.trans H
              refine wp_cond_false ((F.ev rfl).trans (congrArg Value.bool (bfalse hb407))) ?_
              refine wp_skip ?_
              refine hK405 _ _ ?_
              refine wp_seq_k fun K421 hK421 => ?_
              refine reg ?_
              refine q_val F rfl rfl (by decide) (r_move F rfl) fun a F => ?_
              refine q_val F rfl rfl (by decide) (r_move F rfl) fun a F => ?_
              by_cases hb422 : b319 = true
              · have H := (if_pos hb422).symm.trans H
                refine q_yes F rfl (by decide) rfl hb422 ?_
                refine q_val F rfl rfl (by decide) (r_fieldAddr F rfl ff_28_3) fun a F => ?_
                refine q_yes F rfl (by decide) rfl hb422 ?_
                refine q_val F rfl rfl (by decide) (r_load F rfl ag_3 (AT.cell h395 rfl)) fun a F => ?_
                refine q_yes F rfl (by decide) rfl hb422 ?_
                refine q_val F rfl rfl (by decide) (r_fieldAddr F rfl ff_28_3) fun a F => ?_
                refine q_yes F rfl (by decide) rfl hb422 ?_
                refine q_val F rfl rfl (by decide) (r_load F rfl ag_3 (AT.cell h353 rfl)) fun a F => ?_
                refine q_yes F rfl (by decide) rfl hb422 ?_
                refine q_val F rfl rfl (by decide) (r_eql F rfl rfl) fun a F => ?_
                refine q_val F rfl rfl (by decide) (r_pick_t F rfl hb422 rfl) fun a F => ?_
                refine q_val F rfl rfl (by decide) (r_move F rfl) fun a F => ?_
                by_cases hb423 : t377.1.Rev = t335.1.Rev
                · have H := (if_pos hb423).symm.trans H
                  refine q_yes F rfl (by decide) rfl (decide_eq_true hb423) ?_
                  refine q_val F rfl rfl (by decide) (r_fieldAddr F rfl ff_28_2) fun a F => ?_
                  refine q_yes F rfl (by decide) rfl (decide_eq_true hb423) ?_
                  refine q_val F rfl rfl (by decide) (r_load F rfl ag_23 (AT.cell h395 rfl)) fun a F => ?_
                  refine q_yes F rfl (by decide) rfl (decide_eq_true hb423) ?_
                  refine q_val F rfl rfl (by decide) (r_fieldAddr F rfl ff_28_2) fun a F => ?_
                  refine q_yes F rfl (by decide) rfl (decide_eq_true hb423) ?_
                  refine q_val F rfl rfl (by decide) (r_load F rfl ag_23 (AT.cell h353 rfl)) fun a F => ?_
                  obtain ⟨t424, q425, H⟩ := bind_some H
                  refine q_yes F rfl (by decide) rfl (decide_eq_true hb423) ?_
                  refine q_call F rfl rfl (by decide) (r_call F Try.func18 rfl (by kernel_rfl) rfl) (haulagelaw13_same.calls k (m := m + 7) (by omega) B h388 h346 _ q425) ?_
                  rintro e w427 ⟨c426, rfl, E428, B429⟩
                  refine ⟨_, rfl, fun a F => ?_⟩
                  have B := B429
                  have h71 := AT.ev h71 E428 (fun q => q.elim)
                  have h8 := SL.ev h8 E428 (fun q => q.elim) (fun q => q.elim)
                  have h12 := SL.ev h12 E428 (fun q => q.elim) (fun q => q.elim)
                  have h61 := SL.ev h61 E428 (fun q => q.elim) (fun q => q.elim)
                  have h64 := SL.ev h64 E428 (fun q => q.elim) (fun q => q.elim)
                  have h328 := AT.ev h328 E428 (fun q => q.elim)
                  have h343 := SL.ev h343 E428 (fun q => q.elim) (fun q => q.elim)
                  have h346 := SL.ev h346 E428 (fun q => q.elim) (fun q => q.elim)
                  have h353 := AT.ev h353 E428 (fun q => q.elim)
                  have h372 := SL.ev h372 E428 (fun q => q.elim) (fun q => q.elim)
                  have h375 := SL.ev h375 E428 (fun q => q.elim) (fun q => q.elim)
                  have h385 := SL.ev h385 E428 (fun q => q.elim) (fun q => q.elim)
                  have h388 := SL.ev h388 E428 (fun q => q.elim) (fun q => q.elim)
                  have h389 := TB.ev h389 E428 (fun q => q.elim) (fun q => q.elim)
                  have h395 := AT.ev h395 E428 (fun q => q.elim)
                  have E := E.trans E428 (fun x q => q.elim)
                  refine q_val F rfl rfl (by decide) (r_pick_t F rfl (decide_eq_true hb423) rfl) fun a F => ?_
                  refine q_val F rfl rfl (by decide) (r_move F rfl) fun a F => ?_
                  by_cases hb431 : t424 = true
                  · have H := (if_pos hb431).symm.trans H
                    refine q_yes F rfl (by decide) rfl hb431 ?_
                    refine q_val F rfl rfl (by decide) (r_fieldAddr F rfl ff_28_3) fun a F => ?_
                    refine q_yes F rfl (by decide) rfl hb431 ?_
                    refine q_val F rfl rfl (by decide) (r_load F rfl ag_3 (AT.cell h71 rfl)) fun a F => ?_
                    refine q_yes F rfl (by decide) rfl hb431 ?_
                    refine q_val F rfl rfl (by decide) (r_gtr F rfl rfl) fun a F => ?_
                    refine q_yes F rfl (by decide) rfl hb431 ?_
                    refine q_val F rfl rfl (by decide) (r_move F rfl) fun a F => ?_
                    by_cases hb432 : 0 < t53.1.Rev
                    · have H := (if_pos hb432).symm.trans H
                      refine q_no F rfl (by decide) rfl (decide_eq_true hb432) (by decide) fun a F => ?_
                      refine q_no F rfl (by decide) rfl (decide_eq_true hb432) (by decide) fun a F => ?_
                      refine q_yes F rfl (by decide) rfl hb431 ?_
                      refine q_val F rfl rfl (by decide) (r_pick_t F rfl (decide_eq_true hb432) rfl) fun a F => ?_
                      refine q_val F rfl rfl (by decide) (r_pick_t F rfl hb431 rfl) fun a F => ?_
                      refine q_val F rfl rfl (by decide) (r_assign F rfl) fun a F => ?_
                      refine nil ?_
                      refine hK421 _ _ ?_
                      refine wp_ret ?_
                      have H := Option.some.inj H
                      subst H
                      refine out1 F rfl rfl ?_
                      exact ⟨fun b_ => (fun x_ => if x_ < m then x_ else 0) (c426 b_), rfl, E.leave B0 (fun x_ => if x_ < m then x_ else 0) (by intro x_ hx_; show (if x_ < m then x_ else 0) = x_; ((repeat' split) <;> omega)), (fun b_ hb_ => by show (if (c426 b_) < m then (c426 b_) else 0) < m; ((repeat' split) <;> omega))⟩
                    · have H := (if_neg hb432).symm.trans H
                      refine q_yes F rfl (by decide) rfl (decide_eq_false hb432) ?_
                      refine q_val F rfl rfl (by decide) (r_fieldAddr F rfl ff_28_0) fun a F => ?_
                      refine q_yes F rfl (by decide) rfl (decide_eq_false hb432) ?_
                      refine q_val F rfl rfl (by decide) (r_load F rfl ag_4 (AT.cell h395 rfl)) fun a F => ?_
                      refine q_yes F rfl (by decide) rfl hb431 ?_
                      refine q_val F rfl rfl (by decide) (r_pick_f F rfl (decide_eq_false hb432) rfl) fun a F => ?_
                      refine q_val F rfl rfl (by decide) (r_pick_t F rfl hb431 rfl) fun a F => ?_
                      refine q_val F rfl rfl (by decide) (r_assign F rfl) fun a F => ?_
                      refine nil ?_
                      refine hK421 _ _ ?_
                      refine wp_ret ?_
                      have H := Option.some.inj H
                      subst H
                      refine out1 F rfl rfl ?_
                      exact ⟨fun b_ => (fun x_ => if x_ < m then x_ else 0) (c426 b_), rfl, E.leave B0 (fun x_ => if x_ < m then x_ else 0) (by intro x_ hx_; show (if x_ < m then x_ else 0) = x_; ((repeat' split) <;> omega)), (fun b_ hb_ => by show (if (c426 b_) < m then (c426 b_) else 0) < m; ((repeat' split) <;> omega))⟩
                  · have H := (if_neg hb431).symm.trans H
                    refine q_no F rfl (by decide) rfl (bfalse hb431) (by decide) fun a F => ?_
                    refine q_no F rfl (by decide) rfl (bfalse hb431) (by decide) fun a F => ?_
                    refine q_no F rfl (by decide) rfl (bfalse hb431) (by decide) fun a F => ?_
                    refine q_no F rfl (by decide) rfl (bfalse hb431) (by decide) fun a F => ?_
                    refine q_nu F rfl (by decide) rfl (by decide) fun a F => ?_
                    refine q_nu F rfl (by decide) rfl (by decide) fun a F => ?_
                    refine q_no F rfl (by decide) rfl (bfalse hb431) (by decide) fun a F => ?_
                    refine q_val F rfl rfl (by decide) (r_pick_f F rfl (bfalse hb431) rfl) fun a F => ?_
                    refine q_val F rfl rfl (by decide) (r_assign F rfl) fun a F => ?_
                    refine nil ?_
                    refine hK421 _ _ ?_
                    refine wp_ret ?_
                    have H := Option.some.inj H
                    subst H
                    refine out1 F rfl rfl ?_
                    exact ⟨fun b_ => (fun x_ => if x_ < m then x_ else 0) (c426 b_), rfl, E.leave B0 (fun x_ => if x_ < m then x_ else 0) (by intro x_ hx_; show (if x_ < m then x_ else 0) = x_; ((repeat' split) <;> omega)), (fun b_ hb_ => by show (if (c426 b_) < m then (c426 b_) else 0) < m; ((repeat' split) <;> omega))⟩
                · have H := (if_neg hb423).symm.trans H
                  refine q_no F rfl (by decide) rfl (decide_eq_false hb423) (by decide) fun a F => ?_
                  refine q_no F rfl (by decide) rfl (decide_eq_false hb423) (by decide) fun a F => ?_
                  refine q_no F rfl (by decide) rfl (decide_eq_false hb423) (by decide) fun a F => ?_
                  refine q_no F rfl (by decide) rfl (decide_eq_false hb423) (by decide) fun a F => ?_
                  refine q_no F rfl (by decide) rfl (decide_eq_false hb423) (by decide) fun a F => ?_
                  refine q_val F rfl rfl (by decide) (r_pick_f F rfl (decide_eq_false hb423) rfl) fun a F => ?_
                  refine q_val F rfl rfl (by decide) (r_move F rfl) fun a F => ?_
                  refine q_no F rfl (by decide) rfl rfl (by decide) fun a F => ?_
                  refine q_no F rfl (by decide) rfl rfl (by decide) fun a F => ?_
                  refine q_no F rfl (by decide) rfl rfl (by decide) fun a F => ?_
                  refine q_no F rfl (by decide) rfl rfl (by decide) fun a F => ?_
                  refine q_nu F rfl (by decide) rfl (by decide) fun a F => ?_
                  refine q_nu F rfl (by decide) rfl (by decide) fun a F => ?_
                  refine q_no F rfl (by decide) rfl rfl (by decide) fun a F => ?_
                  refine q_val F rfl rfl (by decide) (r_pick_f F rfl rfl rfl) fun a F => ?_
                  refine q_val F rfl rfl (by decide) (r_assign F rfl) fun a F => ?_
                  refine nil ?_
                  refine hK421 _ _ ?_
                  refine wp_ret ?_
                  have H := Option.some.inj H
                  subst H
                  refine out1 F rfl rfl ?_
                  exact ⟨fun b_ => (fun x_ => if x_ < m then x_ else 0) (c391 b_), rfl, E.leave B0 (fun x_ => if x_ < m then x_ else 0) (by intro x_ hx_; show (if x_ < m then x_ else 0) = x_; ((repeat' split) <;> omega)), (fun b_ hb_ => by show (if (c391 b_) < m then (c391 b_) else 0) < m; ((repeat' split) <;> omega))⟩
              · have H := (if_neg hb422).symm.trans H
                refine q_no F rfl (by decide) rfl (bfalse hb422) (by decide) fun a F => ?_
                refine q_no F rfl (by decide) rfl (bfalse hb422) (by decide) fun a F => ?_
                refine q_no F rfl (by decide) rfl (bfalse hb422) (by decide) fun a F => ?_
                refine q_no F rfl (by decide) rfl (bfalse hb422) (by decide) fun a F => ?_
                refine q_no F rfl (by decide) rfl (bfalse hb422) (by decide) fun a F => ?_
                refine q_val F rfl rfl (by decide) (r_pick_f F rfl (bfalse hb422) rfl) fun a F => ?_
                refine q_val F rfl rfl (by decide) (r_move F rfl) fun a F => ?_
                refine q_no F rfl (by decide) rfl rfl (by decide) fun a F => ?_
                refine q_no F rfl (by decide) rfl rfl (by decide) fun a F => ?_
                refine q_no F rfl (by decide) rfl rfl (by decide) fun a F => ?_
                refine q_no F rfl (by decide) rfl rfl (by decide) fun a F => ?_
                refine q_no F rfl (by decide) rfl rfl (by decide) fun a F => ?_
                refine q_val F rfl rfl (by decide) (r_pick_f F rfl rfl rfl) fun a F => ?_
                refine q_val F rfl rfl (by decide) (r_move F rfl) fun a F => ?_
                refine q_no F rfl (by decide) rfl rfl (by decide) fun a F => ?_
                refine q_no F rfl (by decide) rfl rfl (by decide) fun a F => ?_
                refine q_no F rfl (by decide) rfl rfl (by decide) fun a F => ?_
                refine q_no F rfl (by decide) rfl rfl (by decide) fun a F => ?_
                refine q_nu F rfl (by decide) rfl (by decide) fun a F => ?_
                refine q_nu F rfl (by decide) rfl (by decide) fun a F => ?_
                refine q_no F rfl (by decide) rfl rfl (by decide) fun a F => ?_
                refine q_val F rfl rfl (by decide) (r_pick_f F rfl rfl rfl) fun a F => ?_
                refine q_val F rfl rfl (by decide) (r_assign F rfl) fun a F => ?_
                refine nil ?_
                refine hK421 _ _ ?_
                refine wp_ret ?_
                have H := Option.some.inj H
                subst H
                refine out1 F rfl rfl ?_
                exact ⟨fun b_ => (fun x_ => if x_ < m then x_ else 0) (c391 b_), rfl, E.leave B0 (fun x_ => if x_ < m then x_ else 0) (by intro x_ hx_; show (if x_ < m then x_ else 0) = x_; ((repeat' split) <;> omega)), (fun b_ hb_ => by show (if (c391 b_) < m then (c391 b_) else 0) < m; ((repeat' split) <;> omega))⟩
          · have H := (if_neg hb403).symm.trans H
            refine wp_cond_true ((F.ev rfl).trans (congrArg Value.bool (congrArg not (decide_eq_false hb403)))) ?_
            refine wp_seq_k fun K404 hK404 => ?_
            refine reg ?_
            refine q_val F rfl rfl (by decide) (r_assign F rfl) fun a F => ?_
            refine nil ?_
            refine hK404 _ _ ?_
            refine wp_ret ?_
            refine thenR ?_
            have H := Option.some.inj H
            subst H
            refine out1 F rfl rfl ?_
            exact ⟨fun b_ => (fun x_ => if x_ < m then x_ else 0) (c391 b_), rfl, E.leave B0 (fun x_ => if x_ < m then x_ else 0) (by intro x_ hx_; show (if x_ < m then x_ else 0) = x_; ((repeat' split) <;> omega)), (fun b_ hb_ => by show (if (c391 b_) < m then (c391 b_) else 0) < m; ((repeat' split) <;> omega))⟩
        · have H := (if_neg hb361).symm.trans H
          refine wp_cond_true ((F.ev rfl).trans (congrArg Value.bool (congrArg not (decide_eq_false hb361)))) ?_
          refine wp_seq_k fun K362 hK362 => ?_
          refine reg ?_
          refine q_val F rfl rfl (by decide) (r_move F rfl) fun a F => ?_
          refine q_val F rfl rfl (by decide) (r_lensl F Try.underlying23 rfl) fun a F => ?_
          refine q_val F rfl rfl (by decide) (r_gtr F rfl rfl) fun a F => ?_
          refine q_val F rfl rfl (by decide) (r_assign F rfl) fun a F => ?_
          refine nil ?_
          refine hK362 _ _ ?_
          refine wp_ret ?_
          refine thenR ?_
          have H := Option.some.inj H
          subst H
          refine out1 F rfl rfl ?_
          exact ⟨fun b_ => (fun x_ => if x_ < m then x_ else 0) (c349 b_), rfl, E.leave B0 (fun x_ => if x_ < m then x_ else 0) (by intro x_ hx_; show (if x_ < m then x_ else 0) = x_; ((repeat' split) <;> omega)), (fun b_ hb_ => by show (if (c349 b_) < m then (c349 b_) else 0) < m; ((repeat' split) <;> omega))⟩
      refine loop_fuel (I := fun n a w => ∃ (o213 : Option Tab) (b214 : Bool) (i215 : Int) (c : Nat → Nat), Fr a 158 [(1, .slice A6 a5.length C7), (2, .slice A10 a9.length C11), (3, .slice A14 a13.length C15), (9, .pointer p36), (10, .pointer (some qa69)), (12, .bool b214), (13, .int .i64 i215)] ∧ Ev (fun x => False ∨ m ≤ x) c0 w0 c w ∧ CB (m + 7) c w ∧ AT true (m + 2) c w qa69 [.bool t53.1.Done, .slice A59 t53.1.Key.length C60, .slice A62 t53.1.Value.length C63, .int .i64 t53.1.Rev, .int .i64 t53.1.At] ∧ SL false (Kint .u8) 0 0 c w A6 C7 a5 ∧ SL false (Kint .u8) 0 0 c w A10 C11 a9 ∧ SL false K_api_Op 0 0 c w A14 C15 a13 ∧ SL false (Kint .u8) 0 0 c w A59 C60 t53.1.Key ∧ SL false (Kint .u8) 0 0 c w A62 C63 t53.1.Value ∧ TB (m + 1) c w p36 o213 ∧ loop (fun (s_ : (Option Tab) × Bool × Int) => haulagelaw13_TableSwaps.b3 k a5 a13 s_.1 s_.2.1 s_.2.2) n (o213, b214, i215) = some x225) (k := k) ⟨t53.2.2, false, 0, c67, F.sub ⟨rfl, rfl, rfl, rfl, rfl, rfl, rfl, trivial⟩, E, B, h71, h8, h12, h16, h61, h64, h65, HL⟩ ?_
      clear HL H E F B
      intro n222 X218 hX218 a w217 ⟨o213, b214, i215, c216, F, E, B, h71, h8, h12, h16, h61, h64, h212, HL⟩
      obtain ⟨n223, ctl221, rfl, HB, HN219, HD220⟩ := loop_some HL
      have H : haulagelaw13_TableSwaps.b3 k a5 a13 o213 b214 i215 = some ctl221 := HB
      clear HB HL
      unfold haulagelaw13_TableSwaps.b3 at H
      refine wp_seq_k fun K226 hK226 => ?_
      refine wp_seq_k fun K227 hK227 => ?_
      refine reg ?_
      refine q_val F rfl rfl (by decide) (r_move F rfl) fun a F => ?_
      refine q_val F rfl rfl (by decide) (r_move F rfl) fun a F => ?_
      refine q_val F rfl rfl (by decide) (r_lensl F Try.underlying22 rfl) fun a F => ?_
      refine q_val F rfl rfl (by decide) (r_lss F rfl rfl) fun a F => ?_
      refine nil ?_
      refine hK227 _ _ ?_
      by_cases hb228 : i215 < (a13.length : Int)
      · have H := (if_pos hb228).symm.trans H
        refine wp_cond_true ((F.ev rfl).trans (congrArg Value.bool (decide_eq_true hb228))) ?_
        refine wp_skip ?_
        refine hK226 _ _ ?_
        refine wp_seq_k fun K229 hK229 => ?_
        refine wp_block ?_
        refine wp_seq_k fun K230 hK230 => ?_
        refine reg ?_
        refine q_val F rfl rfl (by decide) (r_move F rfl) fun a F => ?_
        refine q_val F rfl rfl (by decide) (r_move F rfl) fun a F => ?_
        refine q_val F rfl rfl (by decide) (r_move F rfl) fun a F => ?_
        obtain ⟨g231, H⟩ := ifN H
        obtain ⟨ad232, cs233, e234, h235, r236⟩ := SL.at h16 i215 g231.1 g231.2
        obtain ⟨A237, C238, A240, C241, rfl, h239, h242⟩ := r236
        have h239 := SL.fl (i' := 0) h239 (fun q => q)
        have h242 := SL.fl (i' := 0) h242 (fun q => q)
        obtain ⟨qa243, qqa243⟩ : ∃ q, q = (ad232.add (i215.toNat * 4)) := ⟨_, rfl⟩
        have h235 : AT false 0 c216 w217 qa243 [.int .i64 ((rd a13 i215).Kind), .slice A237 ((rd a13 i215).Key).length C238, .slice A240 ((rd a13 i215).Value).length C241, .int .i64 ((rd a13 i215).Rev)] := by rw [qqa243]; exact h235
        refine q_val F rfl rfl (by decide) (r_indexAddr' F Try.underlying22 sz_33 rfl rfl g231.1 g231.2 e234 qqa243) fun a F => ?_
        refine q_val F rfl rfl (by decide) (r_loads (cs := [.int .i64 ((rd a13 i215).Kind), .slice A237 ((rd a13 i215).Key).length C238, .slice A240 ((rd a13 i215).Value).length C241, .int .i64 ((rd a13 i215).Rev)]) F rfl ag_33 sz_33 h235) fun a F => ?_
        obtain ⟨t135, q136, H⟩ := bind_some H
        refine q_call F rfl rfl (by decide) (r_call F Try.func14 rfl (by kernel_rfl) rfl) (table_Table_Do.calls k (m := m + 7) (by omega) B h212 h239 h242 (by omega) _ q136) ?_
        rintro e w246 ⟨c245, A249, C250, A252, C253, rfl, E247, B248, h251, h254, h255⟩
        refine ⟨_, rfl, fun a F => ?_⟩
        have B := B248
        have h71 := AT.ev h71 E247 (by show ¬ (m + 2 = m + 1); omega)
        have h8 := SL.ev h8 E247 (by show ¬ (0 = m + 1); omega) (by show ¬ (0 = m + 1); omega)
        have h12 := SL.ev h12 E247 (by show ¬ (0 = m + 1); omega) (by show ¬ (0 = m + 1); omega)
        have h16 := SL.ev h16 E247 (by show ¬ (0 = m + 1); omega) (by show ¬ (0 = m + 1); omega)
        have h61 := SL.ev h61 E247 (by show ¬ (0 = m + 1); omega) (by show ¬ (0 = m + 1); omega)
        have h64 := SL.ev h64 E247 (by show ¬ (0 = m + 1); omega) (by show ¬ (0 = m + 1); omega)
        have h239 := SL.ev h239 E247 (by show ¬ (0 = m + 1); omega) (by show ¬ (0 = m + 1); omega)
        have h242 := SL.ev h242 E247 (by show ¬ (0 = m + 1); omega) (by show ¬ (0 = m + 1); omega)
        have h235 := AT.ev h235 E247 (by show ¬ (0 = m + 1); omega)
        have E := E.trans E247 (fun x q => by replace q : x = m + 1 := q; show False ∨ m ≤ x; omega)
        refine q_val F rfl rfl (by decide) (r_move F rfl) fun a F => ?_
        refine q_val F rfl rfl (by decide) (r_extract F rfl rfl) fun a F => ?_
        refine q_val F rfl rfl (by decide) (r_extract F rfl rfl) fun a F => ?_
        refine q_eff F rfl rfl (by decide) (e_alloc F zv_28 c245 (m + 3)) ?_
        rintro v w258 a ⟨c257, qa151, rfl, E259, h153, B260⟩ F
        have B := B260 _ B (by omega)
        have h71 := AT.ev h71 E259 (fun q => q.elim)
        have h8 := SL.ev h8 E259 (fun q => q.elim) (fun q => q.elim)
        have h12 := SL.ev h12 E259 (fun q => q.elim) (fun q => q.elim)
        have h16 := SL.ev h16 E259 (fun q => q.elim) (fun q => q.elim)
        have h61 := SL.ev h61 E259 (fun q => q.elim) (fun q => q.elim)
        have h64 := SL.ev h64 E259 (fun q => q.elim) (fun q => q.elim)
        have h239 := SL.ev h239 E259 (fun q => q.elim) (fun q => q.elim)
        have h242 := SL.ev h242 E259 (fun q => q.elim) (fun q => q.elim)
        have h235 := AT.ev h235 E259 (fun q => q.elim)
        have h251 := SL.ev h251 E259 (fun q => q.elim) (fun q => q.elim)
        have h254 := SL.ev h254 E259 (fun q => q.elim) (fun q => q.elim)
        have h255 := TB.ev h255 E259 (fun q => q.elim) (fun q => q.elim)
        have E := E.trans E259 (fun x q => q.elim)
        have h153 : AT true (m + 3) c257 w258 qa151 [.bool false, .slice none 0 0, .slice none 0 0, .int .i64 0, .int .i64 0] := h153
        refine q_eff0 F rfl rfl (e_storeN0 (us := [.bool t135.1.Done, .slice A249 t135.1.Key.length C250, .slice A252 t135.1.Value.length C253, .int .i64 t135.1.Rev, .int .i64 t135.1.At]) F rfl rfl sz_28 h153 (Nat.le_of_ble_eq_true rfl) (one_all rfl)) ?_
        rintro w261 a ⟨E262, h153, Z263⟩ F
        have B := B.size Z263
        have h71 := AT.ev h71 E262 (by show ¬ (m + 2 = m + 3); omega)
        have h8 := SL.ev h8 E262 (by show ¬ (0 = m + 3); omega) (by show ¬ (0 = m + 3); omega)
        have h12 := SL.ev h12 E262 (by show ¬ (0 = m + 3); omega) (by show ¬ (0 = m + 3); omega)
        have h16 := SL.ev h16 E262 (by show ¬ (0 = m + 3); omega) (by show ¬ (0 = m + 3); omega)
        have h61 := SL.ev h61 E262 (by show ¬ (0 = m + 3); omega) (by show ¬ (0 = m + 3); omega)
        have h64 := SL.ev h64 E262 (by show ¬ (0 = m + 3); omega) (by show ¬ (0 = m + 3); omega)
        have h239 := SL.ev h239 E262 (by show ¬ (0 = m + 3); omega) (by show ¬ (0 = m + 3); omega)
        have h242 := SL.ev h242 E262 (by show ¬ (0 = m + 3); omega) (by show ¬ (0 = m + 3); omega)
        have h235 := AT.ev h235 E262 (by show ¬ (0 = m + 3); omega)
        have h251 := SL.ev h251 E262 (by show ¬ (0 = m + 3); omega) (by show ¬ (0 = m + 3); omega)
        have h254 := SL.ev h254 E262 (by show ¬ (0 = m + 3); omega) (by show ¬ (0 = m + 3); omega)
        have h255 := TB.ev h255 E262 (by show ¬ (m + 1 = m + 3); omega) (by show ¬ (0 = m + 3); omega)
        have E := E.trans E262 (fun x q => by replace q : x = m + 3 := q; show False ∨ m ≤ x; omega)
        have h153 : AT true (m + 3) c257 w261 qa151 [.bool t135.1.Done, .slice A249 t135.1.Key.length C250, .slice A252 t135.1.Value.length C253, .int .i64 t135.1.Rev, .int .i64 t135.1.At] := h153
        refine q_val F rfl rfl (by decide) (r_assign F rfl) fun a F => ?_
        refine nil ?_
        refine hK230 _ _ ?_
        refine wp_seq_k fun K264 hK264 => ?_
        refine wp_seq_k fun K265 hK265 => ?_
        have J307 : ∀ (c308 : Nat → Nat) (w309 : World) (a : Act) (b306 : Bool), Fr a 158 [(1, .slice A6 a5.length C7), (2, .slice A10 a9.length C11), (3, .slice A14 a13.length C15), (9, .pointer p36), (10, .pointer (some qa69)), (12, .bool b214), (13, .int .i64 i215), (14, .pointer (some qa151)), (72, .bool b306)] → Ev (fun x => False ∨ m ≤ x) c0 w0 c308 w309 → CB (m + 7) c308 w309 → AT true (m + 2) c308 w309 qa69 [.bool t53.1.Done, .slice A59 t53.1.Key.length C60, .slice A62 t53.1.Value.length C63, .int .i64 t53.1.Rev, .int .i64 t53.1.At] → AT true (m + 3) c308 w309 qa151 [.bool t135.1.Done, .slice A249 t135.1.Key.length C250, .slice A252 t135.1.Value.length C253, .int .i64 t135.1.Rev, .int .i64 t135.1.At] → SL false (Kint .u8) 0 0 c308 w309 A6 C7 a5 → SL false (Kint .u8) 0 0 c308 w309 A10 C11 a9 → SL false K_api_Op 0 0 c308 w309 A14 C15 a13 → TB (m + 1) c308 w309 p36 t135.2.2 → SL false (Kint .u8) 0 0 c308 w309 A59 C60 t53.1.Key → SL false (Kint .u8) 0 0 c308 w309 A62 C63 t53.1.Value → SL false (Kint .u8) 0 0 c308 w309 A249 C250 t135.1.Key → SL false (Kint .u8) 0 0 c308 w309 A252 C253 t135.1.Value → haulagelaw13_TableSwaps.j2 t135 b214 i215 b306 = some ctl221 → K265 a w309 := by
          intro c308 w309 a b306 F E B h71 h153 h8 h12 h16 h255 h61 h64 h251 h254 H
          unfold haulagelaw13_TableSwaps.j2 at H
          refine hK265 _ _ ?_
          by_cases hb310 : b306 = true
          · have H := (if_pos hb310).symm.trans H
            refine wp_cond_true ((F.ev rfl).trans (congrArg Value.bool hb310)) ?_
            refine wp_exit ?_
            refine thenE ?_
            refine inbE ?_
            refine hK229 _ _ ?_
            refine reg ?_
            refine q_val F rfl rfl (by decide) (r_move F rfl) fun a F => ?_
            refine q_val F rfl rfl (by decide) (r_add F rfl rfl) fun a F => ?_
            refine q_val F rfl rfl (by decide) (r_assign F rfl) fun a F => ?_
            refine nil ?_
            have H := HN219 _ (Option.some.inj H).symm
            exact hX218 _ _ _ (Nat.lt_succ_self _) ⟨t135.2.2, b214, (IntKind.i64.wrap (i215 + 1)), c308, F.sub ⟨rfl, rfl, rfl, rfl, rfl, rfl, rfl, trivial⟩, E, B, h71, h8, h12, h16, h61, h64, h255, H⟩
          · have H := (if_neg hb310).symm.trans H
            refine wp_cond_false ((F.ev rfl).trans (congrArg Value.bool (bfalse hb310))) ?_
            refine wp_skip ?_
            refine hK264 _ _ ?_
            refine reg ?_
            refine q_val F rfl rfl (by decide) (r_move F rfl) fun a F => ?_
            refine q_val F rfl rfl (by decide) (r_move F rfl) fun a F => ?_
            by_cases hb311 : b214 = true
            · have H := (if_pos hb311).symm.trans H
              refine q_no F rfl (by decide) rfl hb311 (by decide) fun a F => ?_
              refine q_no F rfl (by decide) rfl hb311 (by decide) fun a F => ?_
              refine q_val F rfl rfl (by decide) (r_pick_t F rfl hb311 rfl) fun a F => ?_
              refine q_val F rfl rfl (by decide) (r_assign F rfl) fun a F => ?_
              refine nil ?_
              refine hK229 _ _ ?_
              refine reg ?_
              refine q_val F rfl rfl (by decide) (r_move F rfl) fun a F => ?_
              refine q_val F rfl rfl (by decide) (r_add F rfl rfl) fun a F => ?_
              refine q_val F rfl rfl (by decide) (r_assign F rfl) fun a F => ?_
              refine nil ?_
              have H := HN219 _ (Option.some.inj H).symm
              exact hX218 _ _ _ (Nat.lt_succ_self _) ⟨t135.2.2, true, (IntKind.i64.wrap (i215 + 1)), c308, F.sub ⟨rfl, rfl, rfl, rfl, rfl, rfl, rfl, trivial⟩, E, B, h71, h8, h12, h16, h61, h64, h255, H⟩
            · have H := (if_neg hb311).symm.trans H
              refine q_yes F rfl (by decide) rfl (bfalse hb311) ?_
              refine q_val F rfl rfl (by decide) (r_fieldAddr F rfl ff_28_0) fun a F => ?_
              refine q_yes F rfl (by decide) rfl (bfalse hb311) ?_
              refine q_val F rfl rfl (by decide) (r_load F rfl ag_4 (AT.cell h153 rfl)) fun a F => ?_
              refine q_val F rfl rfl (by decide) (r_pick_f F rfl (bfalse hb311) rfl) fun a F => ?_
              refine q_val F rfl rfl (by decide) (r_assign F rfl) fun a F => ?_
              refine nil ?_
              refine hK229 _ _ ?_
              refine reg ?_
              refine q_val F rfl rfl (by decide) (r_move F rfl) fun a F => ?_
              refine q_val F rfl rfl (by decide) (r_add F rfl rfl) fun a F => ?_
              refine q_val F rfl rfl (by decide) (r_assign F rfl) fun a F => ?_
              refine nil ?_
              have H := HN219 _ (Option.some.inj H).symm
              exact hX218 _ _ _ (Nat.lt_succ_self _) ⟨t135.2.2, t135.1.Done, (IntKind.i64.wrap (i215 + 1)), c308, F.sub ⟨rfl, rfl, rfl, rfl, rfl, rfl, rfl, trivial⟩, E, B, h71, h8, h12, h16, h61, h64, h255, H⟩
        refine reg ?_
        refine q_val F rfl rfl (by decide) (r_move F rfl) fun a F => ?_
        refine q_val F rfl rfl (by decide) (r_neq F rfl rfl) fun a F => ?_
        refine q_val F rfl rfl (by decide) (r_move F rfl) fun a F => ?_
        by_cases hb266 : t135.2.1 = 0
        · have H := (if_pos hb266).symm.trans H
          refine q_yes F rfl (by decide) rfl (congrArg not (decide_eq_true hb266)) ?_
          refine q_val F rfl rfl (by decide) (r_move F rfl) fun a F => ?_
          refine q_yes F rfl (by decide) rfl (congrArg not (decide_eq_true hb266)) ?_
          refine q_val F rfl rfl (by decide) (r_move F rfl) fun a F => ?_
          obtain ⟨g267, H⟩ := ifN H
          obtain ⟨ad268, cs269, e270, h271, r272⟩ := SL.at h16 i215 g267.1 g267.2
          obtain ⟨A273, C274, A276, C277, rfl, h275, h278⟩ := r272
          have h275 := SL.fl (i' := 0) h275 (fun q => q)
          have h278 := SL.fl (i' := 0) h278 (fun q => q)
          obtain ⟨qa279, qqa279⟩ : ∃ q, q = (ad268.add (i215.toNat * 4)) := ⟨_, rfl⟩
          have h271 : AT false 0 c257 w261 qa279 [.int .i64 ((rd a13 i215).Kind), .slice A273 ((rd a13 i215).Key).length C274, .slice A276 ((rd a13 i215).Value).length C277, .int .i64 ((rd a13 i215).Rev)] := by rw [qqa279]; exact h271
          refine q_yes F rfl (by decide) rfl (congrArg not (decide_eq_true hb266)) ?_
          refine q_val F rfl rfl (by decide) (r_indexAddr' F Try.underlying22 sz_33 rfl rfl g267.1 g267.2 e270 qqa279) fun a F => ?_
          refine q_yes F rfl (by decide) rfl (congrArg not (decide_eq_true hb266)) ?_
          refine q_val F rfl rfl (by decide) (r_loads (cs := [.int .i64 ((rd a13 i215).Kind), .slice A273 ((rd a13 i215).Key).length C274, .slice A276 ((rd a13 i215).Value).length C277, .int .i64 ((rd a13 i215).Rev)]) F rfl ag_33 sz_33 h271) fun a F => ?_
          obtain ⟨t176, q177, H⟩ := bind_some H
          refine q_yes F rfl (by decide) rfl (congrArg not (decide_eq_true hb266)) ?_
          refine q_call F rfl rfl (by decide) (r_call F Try.func17 rfl (by kernel_rfl) rfl) (haulagelaw13_writes.calls (m := m + 7) (by omega) B h275 h278 _ q177) ?_
          rintro e w282 ⟨c281, rfl, E283, B284⟩
          refine ⟨_, rfl, fun a F => ?_⟩
          have B := B284
          have h71 := AT.ev h71 E283 (fun q => q.elim)
          have h8 := SL.ev h8 E283 (fun q => q.elim) (fun q => q.elim)
          have h12 := SL.ev h12 E283 (fun q => q.elim) (fun q => q.elim)
          have h16 := SL.ev h16 E283 (fun q => q.elim) (fun q => q.elim)
          have h61 := SL.ev h61 E283 (fun q => q.elim) (fun q => q.elim)
          have h64 := SL.ev h64 E283 (fun q => q.elim) (fun q => q.elim)
          have h239 := SL.ev h239 E283 (fun q => q.elim) (fun q => q.elim)
          have h242 := SL.ev h242 E283 (fun q => q.elim) (fun q => q.elim)
          have h235 := AT.ev h235 E283 (fun q => q.elim)
          have h251 := SL.ev h251 E283 (fun q => q.elim) (fun q => q.elim)
          have h254 := SL.ev h254 E283 (fun q => q.elim) (fun q => q.elim)
          have h255 := TB.ev h255 E283 (fun q => q.elim) (fun q => q.elim)
          have h153 := AT.ev h153 E283 (fun q => q.elim)
          have h275 := SL.ev h275 E283 (fun q => q.elim) (fun q => q.elim)
          have h278 := SL.ev h278 E283 (fun q => q.elim) (fun q => q.elim)
          have h271 := AT.ev h271 E283 (fun q => q.elim)
          have E := E.trans E283 (fun x q => q.elim)
          refine q_yes F rfl (by decide) rfl (congrArg not (decide_eq_true hb266)) ?_
          refine q_val F rfl rfl (by decide) (r_not F rfl) fun a F => ?_
          refine q_val F rfl rfl (by decide) (r_pick_f F rfl (congrArg not (decide_eq_true hb266)) rfl) fun a F => ?_
          refine q_val F rfl rfl (by decide) (r_move F rfl) fun a F => ?_
          by_cases hb286 : t176 = true
          · have H := (if_pos hb286).symm.trans H
            refine q_yes F rfl (by decide) rfl (congrArg not hb286) ?_
            refine q_val F rfl rfl (by decide) (r_move F rfl) fun a F => ?_
            refine q_yes F rfl (by decide) rfl (congrArg not hb286) ?_
            refine q_val F rfl rfl (by decide) (r_move F rfl) fun a F => ?_
            obtain ⟨g287, H⟩ := ifN H
            obtain ⟨ad288, cs289, e290, h291, r292⟩ := SL.at h16 i215 g287.1 g287.2
            obtain ⟨A293, C294, A296, C297, rfl, h295, h298⟩ := r292
            have h295 := SL.fl (i' := 0) h295 (fun q => q)
            have h298 := SL.fl (i' := 0) h298 (fun q => q)
            obtain ⟨qa299, qqa299⟩ : ∃ q, q = (ad288.add (i215.toNat * 4)) := ⟨_, rfl⟩
            have h291 : AT false 0 c281 w282 qa299 [.int .i64 ((rd a13 i215).Kind), .slice A293 ((rd a13 i215).Key).length C294, .slice A296 ((rd a13 i215).Value).length C297, .int .i64 ((rd a13 i215).Rev)] := by rw [qqa299]; exact h291
            refine q_yes F rfl (by decide) rfl (congrArg not hb286) ?_
            refine q_val F rfl rfl (by decide) (r_indexAddr' F Try.underlying22 sz_33 rfl rfl g287.1 g287.2 e290 qqa299) fun a F => ?_
            refine q_yes F rfl (by decide) rfl (congrArg not hb286) ?_
            refine q_val F rfl rfl (by decide) (r_fieldAddr F rfl ff_33_1) fun a F => ?_
            refine q_yes F rfl (by decide) rfl (congrArg not hb286) ?_
            refine q_val F rfl rfl (by decide) (r_load F rfl ag_23 (AT.cell h291 rfl)) fun a F => ?_
            refine q_yes F rfl (by decide) rfl (congrArg not hb286) ?_
            refine q_val F rfl rfl (by decide) (r_move F rfl) fun a F => ?_
            obtain ⟨t198, q199, H⟩ := bind_some H
            refine q_yes F rfl (by decide) rfl (congrArg not hb286) ?_
            refine q_call F rfl rfl (by decide) (r_call F Try.func18 rfl (by kernel_rfl) rfl) (haulagelaw13_same.calls k (m := m + 7) (by omega) B h295 h8 _ q199) ?_
            rintro e w302 ⟨c301, rfl, E303, B304⟩
            refine ⟨_, rfl, fun a F => ?_⟩
            have B := B304
            have h71 := AT.ev h71 E303 (fun q => q.elim)
            have h8 := SL.ev h8 E303 (fun q => q.elim) (fun q => q.elim)
            have h12 := SL.ev h12 E303 (fun q => q.elim) (fun q => q.elim)
            have h16 := SL.ev h16 E303 (fun q => q.elim) (fun q => q.elim)
            have h61 := SL.ev h61 E303 (fun q => q.elim) (fun q => q.elim)
            have h64 := SL.ev h64 E303 (fun q => q.elim) (fun q => q.elim)
            have h239 := SL.ev h239 E303 (fun q => q.elim) (fun q => q.elim)
            have h242 := SL.ev h242 E303 (fun q => q.elim) (fun q => q.elim)
            have h235 := AT.ev h235 E303 (fun q => q.elim)
            have h251 := SL.ev h251 E303 (fun q => q.elim) (fun q => q.elim)
            have h254 := SL.ev h254 E303 (fun q => q.elim) (fun q => q.elim)
            have h255 := TB.ev h255 E303 (fun q => q.elim) (fun q => q.elim)
            have h153 := AT.ev h153 E303 (fun q => q.elim)
            have h275 := SL.ev h275 E303 (fun q => q.elim) (fun q => q.elim)
            have h278 := SL.ev h278 E303 (fun q => q.elim) (fun q => q.elim)
            have h271 := AT.ev h271 E303 (fun q => q.elim)
            have h295 := SL.ev h295 E303 (fun q => q.elim) (fun q => q.elim)
            have h298 := SL.ev h298 E303 (fun q => q.elim) (fun q => q.elim)
            have h291 := AT.ev h291 E303 (fun q => q.elim)
            have E := E.trans E303 (fun x q => q.elim)
            refine q_yes F rfl (by decide) rfl (congrArg not hb286) ?_
            refine q_val F rfl rfl (by decide) (r_not F rfl) fun a F => ?_
            refine q_val F rfl rfl (by decide) (r_pick_f F rfl (congrArg not hb286) rfl) fun a F => ?_
            refine nil ?_
            exact J307 c301 w302 a (!t198) (F.sub ⟨rfl, rfl, rfl, rfl, rfl, rfl, rfl, rfl, rfl, trivial⟩) E B h71 h153 h8 h12 h16 h255 h61 h64 h251 h254 H
          · have H := (if_neg hb286).symm.trans H
            refine q_no F rfl (by decide) rfl (congrArg not (bfalse hb286)) (by decide) fun a F => ?_
            refine q_no F rfl (by decide) rfl (congrArg not (bfalse hb286)) (by decide) fun a F => ?_
            refine q_no F rfl (by decide) rfl (congrArg not (bfalse hb286)) (by decide) fun a F => ?_
            refine q_no F rfl (by decide) rfl (congrArg not (bfalse hb286)) (by decide) fun a F => ?_
            refine q_no F rfl (by decide) rfl (congrArg not (bfalse hb286)) (by decide) fun a F => ?_
            refine q_no F rfl (by decide) rfl (congrArg not (bfalse hb286)) (by decide) fun a F => ?_
            refine q_no F rfl (by decide) rfl (congrArg not (bfalse hb286)) (by decide) fun a F => ?_
            refine q_no F rfl (by decide) rfl (congrArg not (bfalse hb286)) (by decide) fun a F => ?_
            refine q_val F rfl rfl (by decide) (r_pick_t F rfl (congrArg not (bfalse hb286)) rfl) fun a F => ?_
            refine nil ?_
            exact J307 c281 w282 a true (F.sub ⟨rfl, rfl, rfl, rfl, rfl, rfl, rfl, rfl, rfl, trivial⟩) E B h71 h153 h8 h12 h16 h255 h61 h64 h251 h254 H
        · have H := (if_neg hb266).symm.trans H
          refine q_no F rfl (by decide) rfl (congrArg not (decide_eq_false hb266)) (by decide) fun a F => ?_
          refine q_no F rfl (by decide) rfl (congrArg not (decide_eq_false hb266)) (by decide) fun a F => ?_
          refine q_no F rfl (by decide) rfl (congrArg not (decide_eq_false hb266)) (by decide) fun a F => ?_
          refine q_no F rfl (by decide) rfl (congrArg not (decide_eq_false hb266)) (by decide) fun a F => ?_
          refine q_no F rfl (by decide) rfl (congrArg not (decide_eq_false hb266)) (by decide) fun a F => ?_
          refine q_no F rfl (by decide) rfl (congrArg not (decide_eq_false hb266)) (by decide) fun a F => ?_
          refine q_val F rfl rfl (by decide) (r_pick_t F rfl (congrArg not (decide_eq_false hb266)) rfl) fun a F => ?_
          refine q_val F rfl rfl (by decide) (r_move F rfl) fun a F => ?_
          refine q_no F rfl (by decide) rfl rfl (by decide) fun a F => ?_
          refine q_no F rfl (by decide) rfl rfl (by decide) fun a F => ?_
          refine q_no F rfl (by decide) rfl rfl (by decide) fun a F => ?_
          refine q_no F rfl (by decide) rfl rfl (by decide) fun a F => ?_
          refine q_no F rfl (by decide) rfl rfl (by decide) fun a F => ?_
          refine q_no F rfl (by decide) rfl rfl (by decide) fun a F => ?_
          refine q_no F rfl (by decide) rfl rfl (by decide) fun a F => ?_
          refine q_no F rfl (by decide) rfl rfl (by decide) fun a F => ?_
          refine q_val F rfl rfl (by decide) (r_pick_t F rfl rfl rfl) fun a F => ?_
          refine nil ?_
          exact J307 c257 w261 a true (F.sub ⟨rfl, rfl, rfl, rfl, rfl, rfl, rfl, rfl, rfl, trivial⟩) E B h71 h153 h8 h12 h16 h255 h61 h64 h251 h254 H
      · have H := (if_neg hb228).symm.trans H
        refine wp_cond_false ((F.ev rfl).trans (congrArg Value.bool (decide_eq_false hb228))) ?_
        refine wp_exit ?_
        refine thenE ?_
        refine thenE ?_
        refine inbE ?_
        have hx_ := HD220 _ (Option.some.inj H).symm
        have H := HR224
        rw [← hx_] at H
        exact J320 c216 w217 a o213 b214 (F.sub ⟨rfl, rfl, rfl, rfl, rfl, trivial⟩) E B h71 h8 h12 h61 h64 h212 H
    · have H := (if_neg hb79).symm.trans H
      refine wp_cond_true ((F.ev rfl).trans (congrArg Value.bool (congrArg not (decide_eq_false hb79)))) ?_
      refine wp_seq_k fun K80 hK80 => ?_
      refine reg ?_
      refine q_val F rfl rfl (by decide) (r_move F rfl) fun a F => ?_
      obtain ⟨t81, q82, H⟩ := bind_some H
      refine q_call F rfl rfl (by decide) (r_call F Try.func15 rfl (by kernel_rfl) rfl) (haulagelaw13_get.calls (m := m + 7) (by omega) B h8 0 (by omega) _ q82) ?_
      rintro e w84 ⟨c83, A87, C88, A90, C91, rfl, E85, B86, h89, h92⟩
      refine ⟨_, rfl, fun a F => ?_⟩
      have B := B86
      have h4 := SL.ev h4 E85 (fun q => q.elim) (fun q => q.elim)
      have h8 := SL.ev h8 E85 (fun q => q.elim) (fun q => q.elim)
      have h12 := SL.ev h12 E85 (fun q => q.elim) (fun q => q.elim)
      have h16 := SL.ev h16 E85 (fun q => q.elim) (fun q => q.elim)
      have h48 := SL.ev h48 E85 (fun q => q.elim) (fun q => q.elim)
      have h51 := SL.ev h51 E85 (fun q => q.elim) (fun q => q.elim)
      have h61 := SL.ev h61 E85 (fun q => q.elim) (fun q => q.elim)
      have h64 := SL.ev h64 E85 (fun q => q.elim) (fun q => q.elim)
      have h65 := TB.ev h65 E85 (fun q => q.elim) (fun q => q.elim)
      have h71 := AT.ev h71 E85 (fun q => q.elim)
      have E := E.trans E85 (fun x q => q.elim)
      obtain ⟨t94, q95, H⟩ := bind_some H
      refine q_call F rfl rfl (by decide) (r_call F Try.func16 rfl (by kernel_rfl) rfl) (table_Right.calls (m := m + 7) (by omega) B h89 h92.r _ q95) ?_
      rintro e w97 ⟨c96, rfl, E98, B99⟩
      refine ⟨_, rfl, fun a F => ?_⟩
      have B := B99
      have h4 := SL.ev h4 E98 (fun q => q.elim) (fun q => q.elim)
      have h8 := SL.ev h8 E98 (fun q => q.elim) (fun q => q.elim)
      have h12 := SL.ev h12 E98 (fun q => q.elim) (fun q => q.elim)
      have h16 := SL.ev h16 E98 (fun q => q.elim) (fun q => q.elim)
      have h48 := SL.ev h48 E98 (fun q => q.elim) (fun q => q.elim)
      have h51 := SL.ev h51 E98 (fun q => q.elim) (fun q => q.elim)
      have h61 := SL.ev h61 E98 (fun q => q.elim) (fun q => q.elim)
      have h64 := SL.ev h64 E98 (fun q => q.elim) (fun q => q.elim)
      have h65 := TB.ev h65 E98 (fun q => q.elim) (fun q => q.elim)
      have h71 := AT.ev h71 E98 (fun q => q.elim)
      have h89 := SL.ev h89 E98 (fun q => q.elim) (fun q => q.elim)
      have h92 := SL.ev h92 E98 (fun q => q.elim) (fun q => q.elim)
      have E := E.trans E98 (fun x q => q.elim)
      refine q_val F rfl rfl (by decide) (r_not F rfl) fun a F => ?_
      refine q_val F rfl rfl (by decide) (r_assign F rfl) fun a F => ?_
      refine nil ?_
      refine hK80 _ _ ?_
      refine wp_ret ?_
      refine thenR ?_
      have H := Option.some.inj H
      subst H
      refine out1 F rfl rfl ?_
      exact ⟨fun b_ => (fun x_ => if x_ < m then x_ else 0) (c96 b_), rfl, E.leave B0 (fun x_ => if x_ < m then x_ else 0) (by intro x_ hx_; show (if x_ < m then x_ else 0) = x_; ((repeat' split) <;> omega)), (fun b_ hb_ => by show (if (c96 b_) < m then (c96 b_) else 0) < m; ((repeat' split) <;> omega))⟩
  · have H := (if_neg hb27).symm.trans H
    refine wp_cond_true ((F.ev rfl).trans (congrArg Value.bool (congrArg not (bfalse hb27)))) ?_
    refine wp_seq_k fun K28 hK28 => ?_
    refine reg ?_
    refine q_val F rfl rfl (by decide) (r_assign F rfl) fun a F => ?_
    refine nil ?_
    refine hK28 _ _ ?_
    refine wp_ret ?_
    refine thenR ?_
    have H := Option.some.inj H
    subst H
    refine out1 F rfl rfl ?_
    exact ⟨fun b_ => (fun x_ => if x_ < m then x_ else 0) (c22 b_), rfl, E.leave B0 (fun x_ => if x_ < m then x_ else 0) (by intro x_ hx_; show (if x_ < m then x_ else 0) = x_; ((repeat' split) <;> omega)), (fun b_ hb_ => by show (if (c22 b_) < m then (c22 b_) else 0) < m; ((repeat' split) <;> omega))⟩
end Go.Proofs.Ytcolmmjcdlmcoaa.G
/-! awake; TableCopies; TableSwaps. -/
namespace Go.Proofs.Ytcolmmjcdlmcoaa.G
open Go
set_option linter.unusedVariables false
set_option linter.unusedSimpArgs false
theorem loop_inv {S X : Type} {f : S → Option (Ctl S X)} {I : Nat → S → Prop} {P : X → Prop} {N : Nat}
    (step : ∀ i s, i < N → I i s → (∃ s', f s = some (.next s') ∧ I (i + 1) s') ∨ (∃ x, f s = some (.done x) ∧ P x))
    (last : ∀ s, I N s → ∃ x, f s = some (.done x) ∧ P x) : ∀ (n i : Nat) (s : S) (m : Nat), I i s → i + n = N → n < m → ∃ x, loop f m s = some x ∧ P x
  | _, _, _, 0, _, _, h => absurd h (by omega)
  | 0, i, s, m + 1, hI, hN, _ => by
    obtain rfl : i = N := by omega
    obtain ⟨x, h1, h2⟩ := last s hI
    exact ⟨x, loop_done h1, h2⟩
  | n + 1, i, s, m + 1, hI, hN, hm => by
    rcases step i s (by omega) hI with ⟨s', h1, h2⟩ | ⟨x, h1, h2⟩
    · rw [loop_next h1]
      exact loop_inv step last n (i + 1) s' m h2 (by omega) (by omega)
    · exact ⟨x, loop_done h1, h2⟩
theorem act1 : act [] 0 (api_Op.mk 2 [97] [49] 0) = (⟨true, [], [], 0, 1⟩, 0, [(bs [97], ⟨[49], 1⟩)], 1) := by
  simp [act, right, keyok, look, ins, told]
theorem act2 : act [(bs [97], ⟨[49], 1⟩)] 1 (api_Op.mk 2 [97] [50] 0) = (⟨true, sb (bs [97]), [49], 1, 2⟩, 0, [(bs [97], ⟨[50], 2⟩)], 2) := by
  simp [act, right, keyok, look, ins, told, lt_irr]
theorem act3 : act [(bs [97], ⟨[50], 2⟩)] 2 (api_Op.mk 1 [97] [] 0) = (⟨true, sb (bs [97]), [50], 2, 2⟩, 0, [(bs [97], ⟨[50], 2⟩)], 2) := by
  simp [act, right, keyok, look, ins, told, lt_irr]
theorem act4 : act [(bs [97], ⟨[50], 2⟩)] 2 (api_Op.mk 0 [] [] 0) = (zeroA, 131, [(bs [97], ⟨[50], 2⟩)], 2) := by
  simp [act, right, keyok]
theorem awake_eq {k : Nat} (hk : Fuel k) : haulagelaw13_awake.f k = some true := by
  obtain ⟨t0, e0, R0⟩ := new_rep
  obtain ⟨t1, e1, R1⟩ := do_eq hk (by omega) R0 (api_Op.mk 2 [97] [49] 0)
  rw [act1] at e1 R1
  obtain ⟨t2, e2, R2⟩ := do_eq hk (by simp) R1 (api_Op.mk 2 [97] [50] 0)
  rw [act2] at e2 R2
  obtain ⟨t3, e3, R3⟩ := do_eq hk (by simp) R2 (api_Op.mk 1 [97] [] 0)
  rw [act3] at e3 R3
  obtain ⟨t4, e4, R4⟩ := do_eq hk (by simp) R3 (api_Op.mk 0 [] [] 0)
  rw [act4] at e4 R4
  have R4' : RepS t4 ([(bs [97], ⟨[50], 2⟩)], 2) := R4
  have eb := bytes_eq hk (by simp) R4'
  have ef : form ([(bs [97], ⟨[50], 2⟩)], 2) = [2, 1, 1, 97, 1, 50, 2] := by decide
  unfold haulagelaw13_awake.f haulagelaw13_put.f haulagelaw13_get.f
  rw [bind_eq e0, Option.bind_some, bind_eq e1, Option.bind_some, bind_eq e2, Option.bind_some, bind_eq e3, bind_eq e4]
  simp only [if_true]
  rw [bind_eq (same_eq hk _ _ (by simp)), if_pos (by simp), bind_eq (same_eq hk _ _ (by simp)), if_pos (by simp), bind_eq eb, ef, bind_eq (same_eq hk _ _ (by simp))]
  simp
/-! ### TableCopies -/
theorem run_lt {ops : List api_Op} {n : Nat} (h : ops.length < n) : (run ([], 0) ops).2 < n := by
  have := run_r ops ([], 0)
  simp only at this; omega
theorem half {k : Nat} (hk : Fuel k) {ahead ops : List api_Op} {i : Nat} {t : Option Tab} (hl : ahead.length + ops.length < 4000000) (hR : RepS t (run ([], 0) (ahead ++ ops.take i))) :
    (i < ops.length → ∃ x y t', table_Table_Do.f k t (rd ops (i : Int)) = some (x, y, t') ∧ RepS t' (run ([], 0) (ahead ++ ops.take (i + 1)))) ∧ (¬ i < ops.length → RepS t (run ([], 0) (ahead ++ ops.take (i + 1)))) := by
  refine ⟨fun h => ?_, fun h => ?_⟩
  · have hr : (run ([], 0) (ahead ++ ops.take i)).2 < 4000000 := run_lt (by simp; omega)
    obtain ⟨t', e, R⟩ := do_step hk (by omega) hR ops[i]
    refine ⟨_, _, t', by rw [rd_eq h]; exact e, ?_⟩
    rw [take_one h, ← List.append_assoc, run_snoc]; exact R
  · rw [List.take_of_length_le (by omega)] at hR ⊢; exact hR
theorem form_short {s : St} (hs : s.2 < 4194304) {t : Option Tab} (hR : RepS t s) : (form s).length < 4000000000 := by
  obtain ⟨rows, rfl, hw, hl, hI⟩ := hR
  have hlen := hI.len
  have hsz := sz_le hI.ent
  have h1 := nm_le s.2; have h2 := nm_le s.1.length
  have f1 := fm_len s.2; have f2 := fm_len s.1.length
  have hfl := flat_len s.1
  unfold form
  simp only [List.length_append]; omega
theorem TableCopies_true {k : Nat} (hk : Fuel k) (ahead one two : List api_Op) (h1 : ahead.length + one.length < 4000000) (h2 : ahead.length + two.length < 4000000) :
    haulagelaw13_TableCopies.f k ahead one two = some true := by
  have h24 : 1099511627776 ≤ k := hk
  obtain ⟨t, et, Rt⟩ := made_eq hk ahead (by omega)
  unfold haulagelaw13_TableCopies.f
  rw [bind_eq (awake_eq hk), if_pos rfl, bind_eq et, bind_eq (copy_eq Rt)]
  have hns : Option.isNone t = false := by obtain ⟨rows, rfl, _⟩ := Rt; rfl
  rw [if_neg (by rw [hns]; simp)]
  have L := loop_inv (f := fun (s_ : (Option Tab) × (Option Tab) × Int) => haulagelaw13_TableCopies.b5 k one two s_.1 s_.2.1 s_.2.2)
    (I := fun i s => s.2.2 = (i : Int) ∧ RepS s.1 (run ([], 0) (ahead ++ one.take i)) ∧ RepS s.2.1 (run ([], 0) (ahead ++ two.take i)))
    (P := fun x => RepS x.1 (run ([], 0) (ahead ++ one)) ∧ RepS x.2 (run ([], 0) (ahead ++ two))) (N := max one.length two.length) ?_ ?_ (max one.length two.length) 0 (t, t, 0) k ⟨rfl, by simpa using Rt, by simpa using Rt⟩ (by omega) (by omega)
  · obtain ⟨x, ex, r1, r2⟩ := L
    rw [bind_eq ex]
    unfold haulagelaw13_TableCopies.j6
    obtain ⟨v, ev, Rv⟩ := made_eq hk (ahead ++ one) (by simp; omega)
    obtain ⟨w, ew, Rw⟩ := made_eq hk (ahead ++ two) (by simp; omega)
    have g1 : (run ([], 0) (ahead ++ one)).2 < 4194304 := run_lt (by simp; omega)
    have g2 : (run ([], 0) (ahead ++ two)).2 < 4194304 := run_lt (by simp; omega)
    simp only [List.nil_append]
    rw [if_pos (by omega), if_pos (by omega), bind_eq ev, if_pos (by omega), if_pos (by omega), bind_eq ew, bind_eq (bytes_eq hk g1 r1), bind_eq (bytes_eq hk g1 Rv)]
    rw [bind_eq (same_eq hk _ _ (Or.inl (form_short g1 r1))), if_pos (by simp), bind_eq (bytes_eq hk g2 r2), bind_eq (bytes_eq hk g2 Rw), bind_eq (same_eq hk _ _ (Or.inl (form_short g2 r2)))]
    simp
  · rintro i ⟨a, b, c⟩ hi ⟨rfl, r1, r2⟩
    left
    simp only at r1 r2
    have m1 := half hk h1 r1
    have m2 := half hk h2 r2
    have hj : ∀ a', RepS a' (run ([], 0) (ahead ++ one.take (i + 1))) → ∃ s', haulagelaw13_TableCopies.j4 k two b (i : Int) a' = some (.next s') ∧ s'.2.2 = ((i + 1 : Nat) : Int) ∧ RepS s'.1 (run ([], 0) (ahead ++ one.take (i + 1))) ∧ RepS s'.2.1 (run ([], 0) (ahead ++ two.take (i + 1))) := by
      intro a' ra
      unfold haulagelaw13_TableCopies.j4
      by_cases c : i < two.length
      · obtain ⟨x, y, b', eb, rb⟩ := m2.1 c
        rw [if_pos (by omega), if_pos (by omega), bind_eq eb, wrS i (by omega)]
        exact ⟨_, rfl, rfl, ra, rb⟩
      · rw [if_neg (by omega), wrS i (by omega)]
        exact ⟨_, rfl, rfl, ra, m2.2 c⟩
    have hb : haulagelaw13_TableCopies.b5 k one two a b (i : Int) = haulagelaw13_TableCopies.j3 k one two a b (i : Int) true := by
      unfold haulagelaw13_TableCopies.b5
      by_cases c : i < one.length
      · rw [if_pos (by omega)]
      · rw [if_neg (by omega), decide_eq_true (by omega)]
    show ∃ s', haulagelaw13_TableCopies.b5 k one two a b (i : Int) = _ ∧ _
    rw [hb]
    unfold haulagelaw13_TableCopies.j3
    rw [if_pos rfl]
    by_cases c : i < one.length
    · obtain ⟨x, y, a', ea, ra⟩ := m1.1 c
      rw [if_pos (by omega), if_pos (by omega), bind_eq ea]
      exact hj a' ra
    · rw [if_neg (by omega)]
      exact hj a (m1.2 c)
  · rintro ⟨a, b, c⟩ ⟨rfl, r1, r2⟩
    simp only at r1 r2
    rw [List.take_of_length_le (by omega)] at r1 r2
    refine ⟨(a, b), ?_, r1, r2⟩
    show haulagelaw13_TableCopies.b5 k one two a b ((max one.length two.length : Nat) : Int) = _
    have q1 := Nat.le_max_left one.length two.length; have q2 := Nat.le_max_right one.length two.length
    unfold haulagelaw13_TableCopies.b5 haulagelaw13_TableCopies.j3
    rw [if_neg (by omega), decide_eq_false (by omega), if_neg (by simp)]
end Go.Proofs.Ytcolmmjcdlmcoaa.G
/-! TableSwaps. -/
namespace Go.Proofs.Ytcolmmjcdlmcoaa.G
open Go
set_option linter.unusedVariables false
set_option linter.unusedSimpArgs false
theorem step_ge (s : St) (o : api_Op) : s.2 ≤ (stepS s o).2 := by rcases step_r s o with h | h <;> omega
theorem run_ge : ∀ (ops : List api_Op) (s : St), s.2 ≤ (run s ops).2
  | [], s => Nat.le_refl _
  | o :: ops, s => Nat.le_trans (step_ge s o) (run_ge ops (stepS s o))
theorem act_right {L : List Ent} {r : Nat} {o : api_Op} : (act L r o).2.1 = if right o = true then 0 else 131 := by
  unfold act
  cases right o <;> simp
  repeat' split
  all_goals rfl
theorem act_other {L : List Ent} {r : Nat} {o : api_Op} {K : ByteArray} (hI : Inv L r) (h : right o = false ∨ isW o = false ∨ bs o.Key ≠ K) : look K (act L r o).2.2.1 = look K L := by
  unfold act
  split
  · rfl
  · rename_i c0
    split
    · rfl
    · rename_i c5
      split
      · rfl
      · rename_i c1
        have hk : bs o.Key ≠ K := by
          rcases h with h | h | h
          · exact absurd h c0
          · have hr : right o = true := by simpa using c0
            have := (right_key hr).2.2.2
            unfold isW at h
            simp at h
            omega
          · exact h
        split
        · exact look_del_ne (Ne.symm hk) L hI.ord
        · split
          · exact look_ins_ne _ (Ne.symm hk) L
          · rfl
theorem act_key {L : List Ent} {r : Nat} {o : api_Op} (hI : Inv L r) (h : right o = true) (hw : isW o = true) :
    ((act L r o).1.Done = false → look (bs o.Key) (act L r o).2.2.1 = look (bs o.Key) L) ∧
    ((act L r o).1.Done = true → look (bs o.Key) (act L r o).2.2.1 = none ∨ ∃ c, look (bs o.Key) (act L r o).2.2.1 = some c ∧ c.rev = (r : Int) + 1) := by
  have hkind : o.Kind ≠ 5 ∧ o.Kind ≠ 1 := by
    unfold isW at hw
    simp at hw
    omega
  unfold act
  rw [if_neg (by simp [h]), if_neg hkind.1, if_neg hkind.2]
  split
  · refine ⟨fun hd => ?_, fun _ => Or.inl (look_del L hI.ord)⟩
    cases hq : look (bs o.Key) L with
    | none => rw [del_none L hq]; exact hq
    | some c => rw [hq] at hd; simp [told] at hd
  · split
    · refine ⟨fun hd => by simp at hd, fun _ => Or.inr ⟨_, look_ins _ _ L, rfl⟩⟩
    · exact ⟨fun _ => rfl, fun hd => by simp at hd⟩
def brange (xs : List Int) : Prop := ∀ n ∈ xs, 0 ≤ n ∧ n ≤ 255
theorem sb_bs {xs : List Int} (h : brange xs) : sb (bs xs) = xs := by
  unfold sb bs
  simp only [List.map_map]
  have : ∀ l : List Int, brange l → l.map ((fun b : UInt8 => (b.toNat : Int)) ∘ fun n => UInt8.ofNat n.toNat) = l := by
    intro l
    induction l with
    | nil => intro _; rfl
    | cons a l ih =>
      intro hl
      have ha := hl a (by simp)
      rw [List.map_cons, ih (fun n hn => hl n (by simp [hn]))]
      congr 1
      show ((UInt8.ofNat a.toNat).toNat : Int) = a
      rw [UInt8.toNat_ofNat']
      omega
  exact this xs h
theorem bs_inj {a b : List Int} (ha : brange a) (hb : brange b) (h : bs a = bs b) : a = b := by rw [← sb_bs ha, ← sb_bs hb, h]
theorem TableSwaps_true {k : Nat} (hk : Fuel k) (ahead : List api_Op) (key value : List Int) (between : List api_Op) (hn : ahead.length + between.length < 1200000) (hkl : key.length < 3000000) (hvl : value.length < 3000000)
    (hkr : brange key) (hbr : ∀ o ∈ between, brange o.Key) : haulagelaw13_TableSwaps.f k ahead key value between = some true := by
  have h24 : 1099511627776 ≤ k := hk
  obtain ⟨t, et, Rt⟩ := made_eq hk ahead (by omega)
  have hr0 : (run ([], 0) ahead).2 < 1200000 := run_lt (by omega)
  generalize run ([], 0) ahead = s0 at Rt hr0
  have hI0 : Inv s0.1 s0.2 := by obtain ⟨rows, _, _, _, hI⟩ := Rt; exact hI
  unfold haulagelaw13_TableSwaps.f haulagelaw13_get.f
  rw [bind_eq (awake_eq hk), if_pos rfl, bind_eq et, Option.bind_some]
  obtain ⟨t1, e1, R1⟩ := do_step hk (by omega) Rt (api_Op.mk 1 key [] 0)
  rw [bind_eq e1]
  have hright : right (api_Op.mk 1 key [] 0) = keyok (api_Op.mk 1 key [] 0) := by simp [right]
  by_cases hko : keyok (api_Op.mk 1 key [] 0) = true
  · have ha : act s0.1 s0.2 (api_Op.mk 1 key [] 0) = (told s0.2 (bs key) (look (bs key) s0.1), 0, s0.1, s0.2) := by
      unfold act
      rw [if_neg (by rw [hright, hko]; simp), if_neg (by simp), if_pos rfl]
    unfold stepS at R1
    rw [ha] at R1
    rw [ha]
    have R1' : RepS t1 s0 := R1
    rw [if_pos rfl]
    have L := loop_inv (f := fun (s_ : (Option Tab) × Bool × Int) => haulagelaw13_TableSwaps.b3 k key between s_.1 s_.2.1 s_.2.2)
      (I := fun i s => s.2.2 = (i : Int) ∧ RepS s.1 (run s0 (between.take i)) ∧ (s.2.1 = false → look (bs key) (run s0 (between.take i)).1 = look (bs key) s0.1) ∧ (s.2.1 = true → look (bs key) (run s0 (between.take i)).1 = none ∨ ∃ c, look (bs key) (run s0 (between.take i)).1 = some c ∧ (s0.2 : Int) < c.rev))
      (P := fun x => RepS x.1 (run s0 between) ∧ (x.2 = false → look (bs key) (run s0 between).1 = look (bs key) s0.1) ∧ (x.2 = true → look (bs key) (run s0 between).1 = none ∨ ∃ c, look (bs key) (run s0 between).1 = some c ∧ (s0.2 : Int) < c.rev)) (N := between.length) ?_ ?_ between.length 0 (t1, false, 0) k ⟨rfl, R1', fun _ => rfl, fun h => by simp at h⟩ (by omega) (by omega)
    · obtain ⟨⟨u, ch⟩, ex, Ru, hf, ht⟩ := L
      rw [bind_eq ex]
      simp only at Ru hf ht
      have hrs : (run s0 between).2 < 3500000 := by have := run_r between s0; omega
      generalize run s0 between = s at Ru hf ht hrs
      have hI : Inv s.1 s.2 := by obtain ⟨rows, _, _, _, hI⟩ := Ru; exact hI
      unfold haulagelaw13_TableSwaps.j4 haulagelaw13_get.f
      have hrev : (told s0.2 (bs key) (look (bs key) s0.1)).Rev = (look (bs key) s0.1).elim 0 (fun c => c.rev) := by cases look (bs key) s0.1 <;> rfl
      have hdone : (told s0.2 (bs key) (look (bs key) s0.1)).Done = (look (bs key) s0.1).isSome := by cases look (bs key) s0.1 <;> rfl
      have hrange : 0 ≤ (look (bs key) s0.1).elim 0 (fun c => c.rev) ∧ (look (bs key) s0.1).elim 0 (fun c => c.rev) ≤ (s0.2 : Int) := by
        cases hq : look (bs key) s0.1 with
        | none => simp
        | some c => have := hI0.look hq; exact ⟨by show 0 ≤ c.rev; omega, by show c.rev ≤ _; omega⟩
      simp only [hrev, hdone]
      generalize hq0 : look (bs key) s0.1 = q0 at hf hrange
      obtain ⟨u1, eu, Ru1⟩ := do_step hk (by omega) Ru (api_Op.mk 4 key value (q0.elim 0 (fun c => c.rev)))
      rw [bind_eq eu]
      have hsw : right (api_Op.mk 4 key value (q0.elim 0 (fun c => c.rev))) = decide (value.length ≤ 256) := by
        unfold right
        rw [if_pos rfl]
        have : keyok (api_Op.mk 4 key value (q0.elim 0 (fun c => c.rev))) = true := hko
        rw [this, decide_eq_true (show 0 ≤ (api_Op.mk 4 key value (q0.elim 0 (fun c => c.rev))).Rev from hrange.1), decide_eq_true (show (api_Op.mk 4 key value (q0.elim 0 (fun c => c.rev))).Rev ≤ 1099511627776 from by show q0.elim 0 (fun c => c.rev) ≤ _; omega)]
        simp
      by_cases hv : value.length ≤ 256
      · have hact : act s.1 s.2 (api_Op.mk 4 key value (q0.elim 0 (fun c => c.rev))) = if (look (bs key) s.1).elim 0 (fun c => c.rev) = q0.elim 0 (fun c => c.rev) then ({ told ((s.2 : Int) + 1) (bs key) (look (bs key) s.1) with Done := true }, 0, ins (bs key) ⟨value, s.2 + 1⟩ s.1, s.2 + 1) else ({ told ((s.2 : Int) + 1) (bs key) (look (bs key) s.1) with Done := false }, 0, s.1, s.2 + 1) := by
          unfold act
          rw [if_neg (by rw [hsw]; simp [hv]), if_neg (by simp), if_neg (by simp), if_neg (by simp)]
          simp
        have hr2 : (stepS s (api_Op.mk 4 key value (q0.elim 0 (fun c => c.rev)))).2 < 4000000 := by rcases step_r s (api_Op.mk 4 key value (q0.elim 0 (fun c => c.rev))) with h | h <;> omega
        obtain ⟨u2, eu2, Ru2⟩ := do_step hk (by omega) Ru1 (api_Op.mk 1 key [] 0)
        have hget : ∀ s' : St, act s'.1 s'.2 (api_Op.mk 1 key [] 0) = (told s'.2 (bs key) (look (bs key) s'.1), 0, s'.1, s'.2) := by
          intro s'
          unfold act
          rw [if_neg (by rw [hright, hko]; simp), if_neg (by simp), if_pos rfl]
        rw [hget] at eu2
        unfold stepS at eu2
        rw [hact] at eu2
        rw [hact]
        by_cases c : (look (bs key) s.1).elim 0 (fun c => c.rev) = q0.elim 0 (fun c => c.rev)
        · rw [if_pos c] at eu2 ⊢
          rw [if_pos rfl, Option.bind_some, bind_eq eu2, if_pos rfl]
          simp only [look_ins, if_true]
          have e3 : (told ((s.2 + 1 : Nat) : Int) (bs key) (some ⟨value, (s.2 : Int) + 1⟩)) = ⟨true, sb (bs key), value, (s.2 : Int) + 1, ((s.2 + 1 : Nat) : Int)⟩ := rfl
          simp only [e3, if_true]
          rw [bind_eq (same_eq hk _ _ (by omega)), if_pos (by simp), if_pos (by show (s.2 : Int) + 1 = (told ((s.2 : Int) + 1) (bs key) (look (bs key) s.1)).At; cases look (bs key) s.1 <;> rfl)]
          cases ch with
          | false => simp
          | true =>
            rw [if_pos rfl]
            cases q0 with
            | none => simp
            | some c0 =>
              exfalso
              have h0 := hI0.look hq0
              simp only [Option.elim] at c hrange
              rcases ht rfl with h | ⟨c1, h1, h2⟩
              · rw [h] at c; simp only at c; omega
              · rw [h1] at c; simp only at c; omega
        · rw [if_neg c] at eu2 ⊢
          rw [if_pos rfl, Option.bind_some, bind_eq eu2, if_pos rfl]
          rw [if_neg (by simp)]
          cases ch with
          | false => exact absurd (by rw [hf rfl]) c
          | true =>
            rw [if_pos rfl]
            rw [if_pos (by cases look (bs key) s.1 <;> rfl)]
            have hval : (told ((s.2 + 1 : Nat) : Int) (bs key) (look (bs key) s.1)).Value = (told ((s.2 : Int) + 1) (bs key) (look (bs key) s.1)).Value := by cases look (bs key) s.1 <;> rfl
            have hlen : (told ((s.2 + 1 : Nat) : Int) (bs key) (look (bs key) s.1)).Value.length < 4000000000 := by
              cases hq : look (bs key) s.1 with
              | none => simp [told]
              | some c1 => have := hI.look hq; show c1.value.length < _; omega
            rw [bind_eq (same_eq hk _ _ (Or.inl hlen)), if_pos (by simp [hval])]
            by_cases hp : 0 < q0.elim 0 (fun c => c.rev)
            · rw [if_pos hp]
            · rw [if_neg hp]
              cases hq : look (bs key) s.1 with
              | none => rw [hq] at c; exact absurd (by simp only [Option.elim] at hrange hp ⊢; omega) c
              | some c1 => rfl
      · rw [if_neg]
        · simp; omega
        · rw [act_right, hsw]; simp [hv]
    · rintro i ⟨a, ch, j⟩ hi ⟨rfl, r1, r2, r3⟩
      left
      simp only at r1 r2 r3
      have hlt : (run s0 (between.take i)).2 < 4000000 := by
        have := run_r (between.take i) s0
        rw [List.length_take] at this; omega
      obtain ⟨a', ea, ra⟩ := do_step hk (by omega) r1 between[i]
      have htk : run s0 (between.take (i + 1)) = stepS (run s0 (between.take i)) between[i] := by rw [take_one hi, run_snoc]
      rw [htk]
      have hge : s0.2 ≤ (run s0 (between.take i)).2 := run_ge _ _
      generalize run s0 (between.take i) = s at r1 r2 r3 ra ea hlt hge
      have hI : Inv s.1 s.2 := by obtain ⟨rows, _, _, _, hI⟩ := r1; exact hI
      have hmem : between[i] ∈ between := List.getElem_mem hi
      generalize ho : between[i] = o at ea ra hmem
      have hrd : rd between (i : Int) = o := by rw [rd_eq hi, ho]
      show ∃ s', haulagelaw13_TableSwaps.b3 k key between a ch (i : Int) = _ ∧ _
      unfold haulagelaw13_TableSwaps.b3
      rw [if_pos (by omega), if_pos (by omega), hrd, bind_eq ea]
      have keep : ∀ b, b = true → look (bs key) (stepS s o).1 = look (bs key) s.1 → ∃ s', haulagelaw13_TableSwaps.j2 ((act s.1 s.2 o).1, (act s.1 s.2 o).2.1, a') ch (i : Int) b = some (.next s') ∧ s'.2.2 = ((i + 1 : Nat) : Int) ∧ RepS s'.1 (stepS s o) ∧ (s'.2.1 = false → look (bs key) (stepS s o).1 = look (bs key) s0.1) ∧ (s'.2.1 = true → look (bs key) (stepS s o).1 = none ∨ ∃ c, look (bs key) (stepS s o).1 = some c ∧ (s0.2 : Int) < c.rev) := by
        intro b hb hl
        subst hb
        unfold haulagelaw13_TableSwaps.j2
        rw [if_pos rfl, wrS i (by omega), hl]
        exact ⟨_, rfl, rfl, ra, r2, r3⟩
      by_cases hR : right o = true
      · rw [if_pos (by rw [act_right, if_pos hR])]
        rw [if_pos (by omega), bind_eq (writes_eq' o)]
        by_cases hw : isW o = true
        · rw [if_pos hw, if_pos (by omega)]
          have hkk := (right_key hR).1
          rw [bind_eq (same_eq hk _ _ (Or.inl (by omega)))]
          by_cases hkey : o.Key = key
          · have K := act_key hI hR hw
            rw [hkey] at K
            unfold haulagelaw13_TableSwaps.j2
            rw [if_neg (by simp [hkey]), wrS i (by omega)]
            cases ch with
            | true =>
              rw [if_pos rfl]
              refine ⟨_, rfl, rfl, ra, fun h => by simp at h, fun _ => ?_⟩
              cases hd : (act s.1 s.2 o).1.Done with
              | false =>
                show look (bs key) (act s.1 s.2 o).2.2.1 = none ∨ ∃ c, look (bs key) (act s.1 s.2 o).2.2.1 = some c ∧ _
                rw [K.1 hd]; exact r3 rfl
              | true =>
                rcases K.2 hd with h | ⟨c, h1, h2⟩
                · exact Or.inl h
                · exact Or.inr ⟨c, h1, by omega⟩
            | false =>
              rw [if_neg (by simp)]
              refine ⟨_, rfl, rfl, ra, fun hd => ?_, fun hd => ?_⟩
              · show look (bs key) (act s.1 s.2 o).2.2.1 = _
                rw [K.1 hd]; exact r2 rfl
              · rcases K.2 hd with h | ⟨c, h1, h2⟩
                · exact Or.inl h
                · exact Or.inr ⟨c, h1, by omega⟩
          · exact keep _ (by simp [hkey]) (act_other hI (Or.inr (Or.inr (fun h => hkey (bs_inj (hbr o hmem) hkr h)))))
        · rw [if_neg hw]
          exact keep _ rfl (act_other hI (Or.inr (Or.inl (by simpa using hw))))
      · rw [if_neg (by rw [act_right, if_neg hR]; simp)]
        exact keep _ rfl (act_other hI (Or.inl (by simpa using hR)))
    · rintro ⟨a, ch, j⟩ ⟨rfl, r1, r2, r3⟩
      simp only at r1 r2 r3
      rw [List.take_of_length_le (by omega)] at r1 r2 r3
      refine ⟨(a, ch), ?_, r1, r2, r3⟩
      show haulagelaw13_TableSwaps.b3 k key between a ch ((between.length : Nat) : Int) = _
      unfold haulagelaw13_TableSwaps.b3
      rw [if_neg (by omega)]
  · have ha : act s0.1 s0.2 (api_Op.mk 1 key [] 0) = (zeroA, 131, s0.1, s0.2) := by
      unfold act
      rw [if_pos (by rw [hright]; simpa using hko)]
    rw [ha, if_neg (by simp), Option.bind_some, bind_eq (right_eq _), hright]
    simp only [Bool.not_eq_true] at hko
    rw [hko]; rfl
end Go.Proofs.Ytcolmmjcdlmcoaa.G
/- The row of 'TableSwaps' (its '..UptoSaid'): whatever the input of bulk at most 1048576, the law returns true and the input reads as it did. -/
namespace Go.Proofs.Ytcolmmjcdlmcoaa.tableSwaps
open Go.ChangeShapes Go.WideShapes Go.ChangeAt Go.RowKit
set_option linter.unusedVariables false
set_option maxRecDepth 100000 in
theorem contract (H : Type) (enc : TypeId × Value → H) (W : World) (base : Nat) (args : Array Value) (ds gs : List (DataW H)) (before : List MemPlace)
    (hval : ∀ (j : Nat) t v, Try.f3.params[j]? = some t → args[j]? = some v → Value.okWide Try.prog W .any base t v)
    (hW : DataW.Whole enc Try.prog Try.f3.params.toList Rows.tableSwapsSpec.vars false W args.toList ds gs before) (hk : Rows.uptoSmall H (ds ++ gs) = true) :
    Calls Try.prog 3 args W fun e W' => ∃ v, e = .returned v ∧ Rows.tableSwapsSpec.post enc Try.prog Try.f3 false true false false W args v W' := by
  have hW' := hW
  obtain ⟨p, q, hA0, hV, rfl, hfz, hnd⟩ := hW
  have hA : DataW.TrodAll enc Try.prog W 0 (fun _ => true) true Try.f3.params.toList args.toList ds p := hA0
  rw [Try.params3] at hA hval
  obtain ⟨v0, vs0, d0, ds0, p0, q0, hargs, rfl, rfl, h0, r0⟩ := trodAll_cons hA
  obtain ⟨v1, vs1, d1, ds1, p1, q1, rfl, rfl, rfl, h1, r1⟩ := trodAll_cons r0
  obtain ⟨v2, vs2, d2, ds2, p2, q2, rfl, rfl, rfl, h2, r2⟩ := trodAll_cons r1
  obtain ⟨v3, vs3, d3, ds3, p3, q3, rfl, rfl, rfl, h3, r3⟩ := trodAll_cons r2
  obtain ⟨rfl, rfl, rfl⟩ := trodAll_nil r3
  obtain rfl : args = #[v0, v1, v2, v3] := by cases args; simp_all
  obtain ⟨rfl, rfl⟩ := trodVars_none hV
  have k0 := h0
  have lt0 : ∀ x ∈ p0, x.block < W.heap.size := by obtain ⟨m, hm⟩ := k0; exact DataW.trod_lt m _ _ _ hm
  obtain ⟨A0, C0, a0, rfl, s0, b0, o0⟩ := G.arg_ops (okWide_slice Try.underlying22 (hval 0 22 v0 rfl rfl)) h0
  have l0 := G.opsum_len a0
  have k1 := h1
  have lt1 : ∀ x ∈ p1, x.block < W.heap.size := by obtain ⟨m, hm⟩ := k1; exact DataW.trod_lt m _ _ _ hm
  obtain ⟨A1, C1, a1, rfl, s1, b1, o1⟩ := G.arg_bytes (okWide_slice Try.underlying23 (hval 1 23 v1 rfl rfl)) h1
  have k2 := h2
  have lt2 : ∀ x ∈ p2, x.block < W.heap.size := by obtain ⟨m, hm⟩ := k2; exact DataW.trod_lt m _ _ _ hm
  obtain ⟨A2, C2, a2, rfl, s2, b2, o2⟩ := G.arg_bytes (okWide_slice Try.underlying23 (hval 2 23 v2 rfl rfl)) h2
  have k3 := h3
  have lt3 : ∀ x ∈ p3, x.block < W.heap.size := by obtain ⟨m, hm⟩ := k3; exact DataW.trod_lt m _ _ _ hm
  obtain ⟨A3, C3, a3, rfl, s3, b3, o3⟩ := G.arg_ops (okWide_slice Try.underlying22 (hval 3 22 v3 rfl rfl)) h3
  have l3 := G.opsum_len a3
  have hb : Rows.uptoBulkAll [d0, d1, d2, d3] ≤ 1048576 := of_decide_eq_true hk
  simp only [Rows.uptoBulkAll] at hb
  refine (G.haulagelaw13_TableSwaps.calls 1099511627776 (m := 1) (c0 := G.c0) (w0 := W) (Nat.lt_succ_self 0) (fun _ _ => Nat.lt_succ_self 0) s0 s1 s2 s3 true (G.TableSwaps_true (k := 1099511627776) (Nat.le_refl _) a0 a1 a2 a3 (by omega) (by omega) (by omega) (fun n hn => (o1 n hn).range) (fun o ho n hn => ((o3 o ho).1 n hn).range))).mono fun e W' ⟨c_, he, ev_, _⟩ => ?_
  subst he
  have bel : Below W.heap.size W W' := G.Ev.below ev_
  exact ⟨_, rfl, _, _, _, [], _, [], hW', trodAll_mk1 (shut_bool Try.underlying4 _), (trodAll_cons_mk (Below.trod G.row_laidOut (by kernel_rfl) (of_decide_eq_true (by kernel_rfl)) k0 bel lt0) (trodAll_cons_mk (Below.trod G.row_laidOut (by kernel_rfl) (of_decide_eq_true (by kernel_rfl)) k1 bel lt1) (trodAll_cons_mk (Below.trod G.row_laidOut (by kernel_rfl) (of_decide_eq_true (by kernel_rfl)) k2 bel lt2) (trodAll_cons_mk (Below.trod G.row_laidOut (by kernel_rfl) (of_decide_eq_true (by kernel_rfl)) k3 bel lt3) trodAll_mk0)))), rfl, bel.frame _, fun h => by cases h⟩
set_option maxRecDepth 100000 in
theorem lifted (os : Os) (started : os.Started) (H : Type) (enc : TypeId × Value → H) (F : Stop.Interp) :
    ReturnsInHanded {} Try.checked os 3 .any ((Rows.OpenSpec.upto Rows.tableSwapsSpec).pre6 enc Try.prog Try.f3 Rows.tableSwapsUptoRow.domain false) (((Rows.OpenSpec.upto Rows.tableSwapsSpec).at F).post enc Try.prog Try.f3 false true false false) := by
  refine returnsInHanded_of_cond (C := Try.checked) (s := Rows.OpenSpec.upto Rows.tableSwapsSpec) (k := Rows.uptoSmall) rfl G.row_own started (by kernel_rfl) Try.func3
    (OpenSpec.witness (enc := enc) (C := Try.checked) (s := Rows.OpenSpec.upto Rows.tableSwapsSpec) (k := Rows.uptoSmall) rfl false ⟨#[], #[.slice none 0 0, .slice none 0 0, .slice none 0 0, .slice none 0 0], []⟩ 8 (by kernel_rfl) (by kernel_rfl) (by kernel_rfl)
      (x := ([.nil, .nil, .nil, .nil], [], [])) (by kernel_rfl) rfl (by kernel_rfl)) ?_
  intro W base args ds gs before hval hW _ hk _
  exact contract H enc W base args ds gs before hval hW hk
theorem over : Rows.tableSwapsUptoRow.holds Try.pinned (Rows.OpenSpec.upto Rows.tableSwapsSpec) :=
  OpenClaim.holds_of_cond 3 Try.f3 rfl rfl rfl rfl rfl rfl rfl ⟨rfl, rfl, rfl, rfl, rfl⟩ rfl rfl rfl rfl rfl (by kernel_rfl) Try.func3 (by kernel_rfl)
    (of_decide_eq_true (by kernel_rfl)) (by unfold Func.isWrapper; first | (rw [if_pos (by decide +kernel)]; kernel_rfl) | (rw [if_neg (by decide +kernel)]; exact ⟨rfl, rfl⟩))
    (fun os started H enc _ F => lifted os started H enc F)
theorem proved : Rows.TableSwapsUptoSaid := over
end Go.Proofs.Ytcolmmjcdlmcoaa.tableSwaps
namespace Go.Proofs.Ytcolmmjcdlmcoaa
/-- The row, under a short name, for the claim. -/
theorem tableSwaps_holds : Rows.TableSwapsUptoSaid := tableSwaps.proved
end Go.Proofs.Ytcolmmjcdlmcoaa
