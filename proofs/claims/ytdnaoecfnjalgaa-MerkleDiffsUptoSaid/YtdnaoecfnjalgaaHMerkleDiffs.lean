/- The row of 'MerkleDiffs', its '..UptoSaid': whatever the input of bulk at most 1048576, the law returns true and the input reads as it did; its condition: that bulk. -/
import Derived.Test.YtdnaoecfnjalgaaHMerkleDiffsA
import Derived.Test.YtdnaoecfnjalgaaHMerkleDiffsC
import Derived.Test.YtdnaoecfnjalgaaHMerkleDiffsD
import Derived.Test.YtdnaoecfnjalgaaRows
import Derived.Deep.Slices
import Derived.ChangeArms
import Derived.KernelRfl
import Derived.OpenShut
import Derived.WalkKit
import Derived.ProofKit
import Derived.JoinedCond
import Derived.Below
import Derived.ChangeOld
namespace Go.Proofs.Ytdnaoecfnjalgaa.G
open Go Go.RowKit
set_option linter.unusedVariables false
set_option linter.unusedSimpArgs false
set_option maxRecDepth 100000
set_option maxHeartbeats 40000000
theorem haulagelaw10_MerkleDiffs.calls (k : Nat) {m : Nat} {c0 : Nat → Nat} {w0 : World} {A2 : Option Addr} {C3 : Nat} {A6 : Option Addr} {C7 : Nat} {a1 : List haulagelaw10_Change} {a5 : List haulagelaw10_Change} {a9 : Int} (hm0 : 0 < m) (B0 : CB m c0 w0) (h4 : SL false K_haulagelaw10_Change 0 0 c0 w0 A2 C3 a1) (h8 : SL false K_haulagelaw10_Change 0 0 c0 w0 A6 C7 a5) (r : Bool) (H : haulagelaw10_MerkleDiffs.f k a1 a5 a9 = some r) : Calls Try.prog 6 #[.slice A2 a1.length C3, .slice A6 a5.length C7, .int .i64 a9] w0 (fun e w_ => ∃ (c_ : Nat → Nat), e = .returned (.bool r) ∧ Ev (fun x => False) c0 w0 c_ w_ ∧ CB m c_ w_) := by
 unfold haulagelaw10_MerkleDiffs.f at H; have B := B0.mono (show m ≤ m + 7 by omega); have E : Ev (fun x => False ∨ m ≤ x) c0 w0 c0 w0 := Ev.refl; refine enter (N := 250) (l := [.slice A2 a1.length C3, .slice A6 a5.length C7, .int .i64 a9]) Try.func6 rfl rfl (nb rfl) fun a F => ?_; refine sr fun K10 hK10 => qa F fun a F => nil (hK10 _ _ ?_); refine sq fun K11 hK11 => ?_; refine sr fun K12 hK12 => ?_; obtain ⟨t13, q14, H⟩ := bind_some H; refine qc F Try.func7 (haulagelaw10_awake.calls k (m := m + 7) (pl hm0) B _ q14) ?_; rintro e w16 ⟨c15, rfl, E17, B⟩; refine rt fun a F => ?_; replace h4 := h4.ev E17; replace h8 := h8.ev E17; replace E := E.n E17; refine qv F (r_not F rfl) fun a F => ?_; refine nil (hK12 _ _ ?_)
 by_cases hb20 : t13 = true
 ·replace H := ip hb20 H; refine wcf (fb F (congrArg not hb20)) (wp_skip (hK11 _ _ ?_)); refine sr fun K22 hK22 => qm F fun a F => ?_; obtain ⟨t23, q24, H⟩ := bind_some H; refine qc F Try.func8 (haulagelaw10_round.calls (m := m + 7) (pl hm0) B _ q24) ?_; rintro e w26 ⟨c25, rfl, E27, B⟩
  as_aux_lemma =>
  refine rt fun a F => ?_; replace h4 := h4.ev E27; replace h8 := h8.ev E27; replace E := E.n E27; refine qv F (r_add F rfl rfl) fun a F => ?_; refine qa F fun a F => nil (hK22 _ _ ?_); refine sr fun K30 hK30 => qm F fun a F => qm F fun a F => ?_; obtain ⟨t31, q32, H⟩ := bind_some H; refine qc F Try.func9 (haulagelaw10_grown.calls k (m := m + 7) (pl hm0) B h4 (pl hm0) (m + 1) ⟨(pl hm0), lm⟩ (m + 2) ⟨(pl hm0), lm⟩ 0 (pl hm0) _ q32) ?_; rintro e w34 ⟨c33, p37, A39, C40, rfl, E35, B, h38, h41⟩; refine rt fun a F => ?_; replace h4 := h4.ev E35; replace h8 := h8.ev E35; replace E := E.n E35; refine qm F fun a F => ?_; refine qx F fun a F => ?_; refine qx F fun a F => ?_; refine qa F fun a F => qa F fun a F => nil (hK30 _ _ ?_); replace F : Fr a 250 [(0, .slice A2 a1.length C3), (1, .slice A6 a5.length C7), (7, .int .i64 (IntKind.i64.wrap (1 + t23))), (8, .pointer p37), (9, .slice A39 t31.2.length C40)] := F.sub ⟨rfl, rfl, rfl, rfl, rfl, trivial⟩; refine sr fun K43 hK43 => ?_; refine q_eff F rfl rfl (by decide) (e_buildSlice (n := 0) (e := 69) (c := c33) (k := K_haulagelaw10_Change) (i := 0) F [] [] ([] : List haulagelaw10_Change) (by exact trivial) (fun w => by kernel_rfl) rfl (by decide) rfl trivial (fun q => q) (m + 3)) ?_; rintro v w45 a ⟨c44, A46, C47, rfl, E48, h49, B50⟩ F
  as_aux_lemma =>
  replace B := B50 _ B lm; replace h4 := h4.ev E48; replace h8 := h8.ev E48; replace h38 := h38.ev E48; replace h41 := h41.ev E48; replace E := E.n E48; refine qm F fun a F => ?_; replace H := ifN H; obtain ⟨g51, H⟩ := H; refine q_eff F rfl rfl (by decide) (e_append (k := K_haulagelaw10_Change) (xs := []) (ys := a1) (c := c44) (j := (m + 3)) (i := 0) F et_22 rfl rfl h49 h4 (ap0 g51) (len_ok0 g51) ne_zm) ?_; rintro v w53 a ⟨c52, A54, C55, rfl, E56, h57, B58⟩ F; replace B := B58 _ B lm; replace h8 := h8.ev E56; replace h38 := h38.ev E56; replace h41 := h41.ev E56; replace E := E.trans E56 lc1; refine qm F fun a F => ?_; replace H := ifN H; obtain ⟨g59, H⟩ := H; refine q_eff F rfl rfl (by decide) (e_append (k := K_haulagelaw10_Change) (xs := ([] ++ a1)) (ys := a5) (c := c52) (j := (m + 3)) (i := 0) F et_22 rfl rfl h57 h8 g59 (len_ok g59) ne_zm) ?_; rintro v w61 a ⟨c60, A62, C63, rfl, E64, h65, B66⟩ F; replace B := B66 _ B lm
  as_aux_lemma =>
  replace h38 := h38.ev E64; replace h41 := h41.ev E64; replace E := E.trans E64 lc1; refine qm F fun a F => ?_; obtain ⟨t67, q68, H⟩ := bind_some H; refine qc F Try.func9 (haulagelaw10_grown.calls k (m := m + 7) (pl hm0) B h65.r lm (m + 4) ⟨(pl hm0), lm⟩ (m + 5) ⟨(pl hm0), lm⟩ 0 (pl hm0) _ q68) ?_; rintro e w70 ⟨c69, p73, A75, C76, rfl, E71, B, h74, h77⟩; refine rt fun a F => ?_; replace h38 := h38.ev E71; replace h41 := h41.ev E71; replace E := E.n E71; refine qm F fun a F => ?_; refine qx F fun a F => ?_; refine qx F fun a F => ?_; refine qa F fun a F => qa F fun a F => nil (hK43 _ _ ?_); replace F : Fr a 250 [(7, .int .i64 (IntKind.i64.wrap (1 + t23))), (8, .pointer p37), (9, .slice A39 t31.2.length C40), (10, .pointer p73), (11, .slice A75 t67.2.length C76)] := F.sub ⟨rfl, rfl, rfl, rfl, rfl, trivial⟩; refine sq fun K79 hK79 => ?_; refine sq fun K80 hK80 => ?_; have J83 : ∀ (c84 : Nat → Nat) (w85 : World) (a : Act) (b82 : Bool), Fr a 250 [(7, .int .i64 (IntKind.i64.wrap (1 + t23))), (8, .pointer p37), (9, .slice A39 t31.2.length C40), (10, .pointer p73), (11, .slice A75 t67.2.length C76), (51, .bool b82)] → Ev (fun x => False ∨ m ≤ x) c0 w0 c84 w85 → CB (m + 7) c84 w85 → ME (m + 1) (m + 2) c84 w85 p37 t31.1 → SL true K_api_Row 0 0 c84 w85 A39 C40 t31.2 → ME (m + 4) (m + 5) c84 w85 p73 t67.1 → SL true K_api_Row 0 0 c84 w85 A75 C76 t67.2 → haulagelaw10_MerkleDiffs.j1 k t23 t31 t67 b82 = some r → K80 a w85 := by
   intro c84 w85 a b82 F E B h38 h41 h74 h77 H; unfold haulagelaw10_MerkleDiffs.j1 at H; refine hK80 _ _ ?_
   by_cases hb86 : b82 = true
   ·replace H := ip hb86 H
    as_aux_lemma =>
    refine wct (fb F hb86) ?_; refine sr fun K87 hK87 => qa F fun a F => nil (hK87 _ _ ?_); refine wp_ret ?_; refine thenR ?_; obtain rfl := si H; refine out1 F rfl rfl ?_; exact ⟨cf (ct m) c84, rfl, E.lv B0, cfb⟩
   replace H := im hb86 H; refine wcf (fb F (bfalse hb86)) (wp_skip (hK79 _ _ ?_)); refine sr fun K88 hK88 => qm F fun a F => qm F fun a F => ?_; obtain ⟨t89, q90, H⟩ := bind_some H; refine qc F Try.func25 (merkle_Diff.calls k (m := m + 7) (pl hm0) B h38 h74 lm ⟨lm, mm⟩ lm ⟨lm, mm⟩ 0 (pl hm0) _ q90) ?_; rintro e w92 ⟨c91, A95, C96, rfl, E93, B, h97⟩; refine rt fun a F => ?_; replace h38 := h38.ev E93; replace h41 := h41.ev E93; replace h74 := h74.ev E93; replace h77 := h77.ev E93; replace E := E.n E93; refine qm F fun a F => ?_; refine qx F fun a F => ?_; refine qx F fun a F => ?_
   as_aux_lemma =>
   refine qx F fun a F => ?_; refine qa F fun a F => qa F fun a F => qa F fun a F => nil (hK88 _ _ ?_); replace F : Fr a 250 [(7, .int .i64 (IntKind.i64.wrap (1 + t23))), (8, .pointer p37), (9, .slice A39 t31.2.length C40), (10, .pointer p73), (11, .slice A75 t67.2.length C76), (12, .slice A95 t89.1.length C96), (13, .int .i64 t89.2.1), (14, .int .i64 t89.2.2)] := F.sub ⟨rfl, rfl, rfl, rfl, rfl, rfl, rfl, rfl, trivial⟩; refine sr fun K99 hK99 => qm F fun a F => qm F fun a F => ?_; obtain ⟨t100, q101, H⟩ := bind_some H; refine qc F Try.func25 (merkle_Diff.calls k (m := m + 7) (pl hm0) B h74 h38 lm ⟨lm, mm⟩ lm ⟨lm, mm⟩ 0 (pl hm0) _ q101) ?_; rintro e w103 ⟨c102, A106, C107, rfl, E104, B, h108⟩; refine rt fun a F => ?_; replace h38 := h38.ev E104; replace h41 := h41.ev E104; replace h74 := h74.ev E104; replace h77 := h77.ev E104; replace h97 := h97.ev E104; replace E := E.n E104; refine qm F fun a F => ?_; refine qx F fun a F => ?_; refine qx F fun a F => ?_; refine qx F fun a F => ?_; refine qa F fun a F => qa F fun a F => qa F fun a F => nil (hK99 _ _ ?_); refine sq fun K110 hK110 => ?_; refine sq fun K111 hK111 => ?_; have J132 : ∀ (c133 : Nat → Nat) (w134 : World) (a : Act) (b131 : Bool), Fr a 250 [(7, .int .i64 (IntKind.i64.wrap (1 + t23))), (8, .pointer p37), (9, .slice A39 t31.2.length C40), (10, .pointer p73), (11, .slice A75 t67.2.length C76), (12, .slice A95 t89.1.length C96), (13, .int .i64 t89.2.1), (15, .slice A106 t100.1.length C107), (95, .bool b131)] → Ev (fun x => False ∨ m ≤ x) c0 w0 c133 w134 → CB (m + 7) c133 w134 → ME (m + 1) (m + 2) c133 w134 p37 t31.1 → SL true K_api_Row 0 0 c133 w134 A39 C40 t31.2 → ME (m + 4) (m + 5) c133 w134 p73 t67.1 → SL true K_api_Row 0 0 c133 w134 A75 C76 t67.2 → SL true K_api_Line 0 0 c133 w134 A95 C96 t89.1 → SL true K_api_Line 0 0 c133 w134 A106 C107 t100.1 → haulagelaw10_MerkleDiffs.j2 k t23 t31 t67 t89 t100 b131 = some r → K111 a w134 := by
    intro c133 w134 a b131 F E B h38 h41 h74 h77 h97 h108 H; unfold haulagelaw10_MerkleDiffs.j2 at H
    as_aux_lemma =>
    refine hK111 _ _ ?_
    by_cases hb135 : b131 = true
    ·replace H := ip hb135 H; refine wct (fb F hb135) ?_; refine sr fun K136 hK136 => qa F fun a F => nil (hK136 _ _ ?_); replace F : Fr a 250 [(6, .bool false)] := F.sub ⟨rfl, trivial⟩; refine wp_ret ?_; refine thenR ?_; obtain rfl := si H; refine out1 F rfl rfl ?_; exact ⟨cf (ct m) c133, rfl, E.lv B0, cfb⟩
    replace H := im hb135 H; refine wcf (fb F (bfalse hb135)) (wp_skip (hK110 _ _ ?_)); refine sq fun K137 hK137 => ?_; refine sr fun K138 hK138 => qa F fun a F => nil (hK138 _ _ ?_); refine wp_block ?_; obtain ⟨x149, HL, HR148⟩ := bind_some H; have J296 : ∀ (c297 : Nat → Nat) (w298 : World) (a : Act), Fr a 250 [(7, .int .i64 (IntKind.i64.wrap (1 + t23))), (8, .pointer p37), (9, .slice A39 t31.2.length C40), (10, .pointer p73), (11, .slice A75 t67.2.length C76), (12, .slice A95 t89.1.length C96), (13, .int .i64 t89.2.1)] → Ev (fun x => False ∨ m ≤ x) c0 w0 c297 w298 → CB (m + 7) c297 w298 → ME (m + 1) (m + 2) c297 w298 p37 t31.1 → SL true K_api_Row 0 0 c297 w298 A39 C40 t31.2 → ME (m + 4) (m + 5) c297 w298 p73 t67.1 → SL true K_api_Row 0 0 c297 w298 A75 C76 t67.2 → SL true K_api_Line 0 0 c297 w298 A95 C96 t89.1 → haulagelaw10_MerkleDiffs.j6 k t23 t31 t67 t89 = some r → K137 a w298 := by
     intro c297 w298 a  F E B h38 h41 h74 h77 h97 H; unfold haulagelaw10_MerkleDiffs.j6 at H; refine hK137 _ _ ?_; refine sr fun K299 hK299 => ?_; refine q_eff F rfl rfl (by decide) (e_buildSlice (n := 0) (e := 36) (c := c297) (k := K_api_Row) (i := 0) F [] [] ([] : List api_Row) (by exact trivial) (fun w => by kernel_rfl) rfl (by decide) rfl trivial (fun q => q) (m + 6)) ?_; rintro v w301 a ⟨c300, A302, C303, rfl, E304, h305, B306⟩ F
     as_aux_lemma =>
     replace B := B306 _ B lm; replace h38 := h38.ev E304; replace h41 := h41.ev E304; replace h74 := h74.ev E304; replace h77 := h77.ev E304; replace h97 := h97.ev E304; replace E := E.n E304; refine qm F fun a F => ?_; replace H := ifN H; obtain ⟨g307, H⟩ := H; refine q_eff F rfl rfl (by decide) (e_append (k := K_api_Row) (xs := []) (ys := t31.2) (c := c300) (j := (m + 6)) (i := 0) F et_27 rfl rfl h305 h41 (ap0 g307) (len_ok0 g307) ne_zm) ?_; rintro v w309 a ⟨c308, A310, C311, rfl, E312, h313, B314⟩ F; replace B := B314 _ B lm; replace h38 := h38.ev E312; replace h74 := h74.ev E312; replace h77 := h77.ev E312; replace h97 := h97.ev E312; replace E := E.trans E312 lc1; refine qm F fun a F => ?_; replace H := ifN H; obtain ⟨g315, H⟩ := H; refine q_eff F rfl rfl (by decide) (e_append (k := K_api_Row) (xs := ([] ++ t31.2)) (ys := t67.2) (c := c308) (j := (m + 6)) (i := 0) F et_27 rfl rfl h313 h77 g315 (len_ok g315) ne_zm) ?_; rintro v w317 a ⟨c316, A318, C319, rfl, E320, h321, B322⟩ F
     as_aux_lemma =>
     replace B := B322 _ B lm; replace h38 := h38.ev E320; replace h74 := h74.ev E320; replace h97 := h97.ev E320; replace E := E.trans E320 lc1; obtain ⟨t323, q324, H⟩ := bind_some H; refine qc F Try.func28 (haulagelaw10_sorted.calls k (m := m + 7) (pl hm0) B h321.r lm 0 (pl hm0) _ q324) ?_; rintro e w326 ⟨c325, A329, C330, rfl, E327, B, h331⟩; refine rt fun a F => ?_; replace h38 := h38.ev E327; replace h74 := h74.ev E327; replace h97 := h97.ev E327; replace E := E.n E327; refine qa F fun a F => nil (hK299 _ _ ?_); replace F : Fr a 250 [(7, .int .i64 (IntKind.i64.wrap (1 + t23))), (8, .pointer p37), (10, .pointer p73), (12, .slice A95 t89.1.length C96), (13, .int .i64 t89.2.1), (20, .slice A329 t323.length C330)] := F.sub ⟨rfl, rfl, rfl, rfl, rfl, rfl, trivial⟩; refine sr fun K333 hK333 => qa F fun a F => nil (hK333 _ _ ?_); refine sq fun K334 hK334 => ?_; refine sr fun K335 hK335 => qa F fun a F => nil (hK335 _ _ ?_); refine wp_block ?_; obtain ⟨x347, HL, HR346⟩ := bind_some H; have J448 : ∀ (c449 : Nat → Nat) (w450 : World) (a : Act) (i447 : Int), Fr a 250 [(8, .pointer p37), (10, .pointer p73), (12, .slice A95 t89.1.length C96), (13, .int .i64 t89.2.1), (21, .int .i64 i447)] → Ev (fun x => False ∨ m ≤ x) c0 w0 c449 w450 → CB (m + 7) c449 w450 → ME (m + 1) (m + 2) c449 w450 p37 t31.1 → ME (m + 4) (m + 5) c449 w450 p73 t67.1 → SL true K_api_Line 0 0 c449 w450 A95 C96 t89.1 → haulagelaw10_MerkleDiffs.j10 k t31 t67 t89 i447 = some r → K334 a w450 := by
      intro c449 w450 a i447 F E B h38 h74 h97 H; unfold haulagelaw10_MerkleDiffs.j10 at H
      as_aux_lemma =>
      refine hK334 _ _ ?_; refine sr fun K451 hK451 => qa F fun a F => nil (hK451 _ _ ?_); refine sq fun K452 hK452 => ?_; refine sr fun K453 hK453 => qa F fun a F => nil (hK453 _ _ ?_); refine wp_block ?_; obtain ⟨x465, HL, HR464⟩ := bind_some H; have J489 : ∀ (c490 : Nat → Nat) (w491 : World) (a : Act) (i488 : Int), Fr a 250 [(12, .slice A95 t89.1.length C96), (13, .int .i64 t89.2.1), (21, .int .i64 i447), (23, .int .i64 i488)] → Ev (fun x => False ∨ m ≤ x) c0 w0 c490 w491 → CB (m + 7) c490 w491 → haulagelaw10_MerkleDiffs.j12 t89 i447 i488 = some r → K452 a w491 := by
       intro c490 w491 a i488 F E B H; unfold haulagelaw10_MerkleDiffs.j12 at H; refine hK452 _ _ ?_; refine sr fun K492 hK492 => qm F fun a F => qm F fun a F => ?_; refine qv F (r_lensl F Try.underlying59 rfl) fun a F => ?_; refine qv F (r_eql F rfl rfl) fun a F => ?_; refine qm F fun a F => ?_
       by_cases hb493 : i447 = (t89.1.length : Int)
       ·replace H := ip hb493 H; refine qy F (dt hb493) ?_; refine qm F fun a F => ?_; refine qy F (dt hb493) ?_; refine qv F (r_geq F rfl rfl) fun a F => ?_; refine qv F (r_pick_t F rfl (dt hb493) rfl) fun a F => ?_; refine qm F fun a F => ?_
        by_cases hb494 : 1 ≤ t89.2.1
        ·replace H := ip hb494 H
         as_aux_lemma =>
         refine qy F (dt hb494) ?_; refine qm F fun a F => ?_; refine qy F (dt hb494) ?_; refine qm F fun a F => ?_; refine qy F (dt hb494) ?_; refine qv F (r_mul F rfl rfl) fun a F => ?_; refine qy F (dt hb494) ?_; refine qv F (r_add F rfl rfl) fun a F => ?_; refine qy F (dt hb494) ?_; refine qv F (r_leq F rfl rfl) fun a F => ?_; refine qv F (r_pick_t F rfl (dt hb494) rfl) fun a F => ?_; refine qa F fun a F => nil (hK492 _ _ ?_); replace F : Fr a 250 [(6, .bool (decide (t89.2.1 ≤ (IntKind.i64.wrap (1 + (IntKind.i64.wrap (16 * i488)))))))] := F.sub ⟨rfl, trivial⟩; refine wp_ret ?_; obtain rfl := si H; refine out1 F rfl rfl ?_; exact ⟨cf (ct m) c490, rfl, E.lv B0, cfb⟩
        replace H := im hb494 H; refine qn F (dz hb494) fun a F => qn F (dz hb494) fun a F => qn F (dz hb494) fun a F => qn F (dz hb494) fun a F => qn F (dz hb494) fun a F => ?_; refine qv F (r_pick_f F rfl (dz hb494) rfl) fun a F => ?_; refine qa F fun a F => nil (hK492 _ _ ?_); replace F : Fr a 250 [(6, .bool false)] := F.sub ⟨rfl, trivial⟩
        as_aux_lemma =>
        refine wp_ret ?_; obtain rfl := si H; refine out1 F rfl rfl ?_; exact ⟨cf (ct m) c490, rfl, E.lv B0, cfb⟩
       replace H := im hb493 H; refine qn F (dz hb493) fun a F => qn F (dz hb493) fun a F => ?_; refine qv F (r_pick_f F rfl (dz hb493) rfl) fun a F => ?_; refine qm F fun a F => qn F rfl fun a F => qn F rfl fun a F => qn F rfl fun a F => qn F rfl fun a F => qn F rfl fun a F => ?_; refine qp F fun a F => ?_; refine qa F fun a F => nil (hK492 _ _ ?_); replace F : Fr a 250 [(6, .bool false)] := F.sub ⟨rfl, trivial⟩; refine wp_ret ?_; obtain rfl := si H; refine out1 F rfl rfl ?_; exact ⟨cf (ct m) c490, rfl, E.lv B0, cfb⟩
      refine loop_fuel (I := fun n a w => ∃ (i454 : Int) (i455 : Int) (c : Nat → Nat), Fr a 250 [(8, .pointer p37), (10, .pointer p73), (12, .slice A95 t89.1.length C96), (13, .int .i64 t89.2.1), (21, .int .i64 i447), (23, .int .i64 i454), (24, .int .i64 i455)] ∧ Ev (fun x => False ∨ m ≤ x) c0 w0 c w ∧ CB (m + 7) c w ∧ ME (m + 1) (m + 2) c w p37 t31.1 ∧ ME (m + 4) (m + 5) c w p73 t67.1 ∧ SL true K_api_Line 0 0 c w A95 C96 t89.1 ∧ loop (fun (s_ : Int × Int) => haulagelaw10_MerkleDiffs.b11 t31 t67 s_.1 s_.2) n (i454, i455) = some x465) (k := k) ⟨0, 256, c449, F.sub ⟨rfl, rfl, rfl, rfl, rfl, rfl, rfl, trivial⟩, E, B, h38, h74, h97, HL⟩ ?_; clear HL H E F B; intro n462 X458 hX458 a w457 ⟨i454, i455, c456, F, E, B, h38, h74, h97, HL⟩; obtain ⟨n463, ctl461, rfl, HB, HN459, HD460⟩ := loop_some HL; have H : haulagelaw10_MerkleDiffs.b11 t31 t67 i454 i455 = some ctl461 := HB; clear HB HL; unfold haulagelaw10_MerkleDiffs.b11 at H
      as_aux_lemma =>
      refine sq fun K466 hK466 => ?_; refine sr fun K467 hK467 => qm F fun a F => ?_; refine qv F (r_lss F rfl rfl) fun a F => ?_; refine nil (hK467 _ _ ?_)
      by_cases hb468 : i455 < 512
      ·replace H := ip hb468 H; refine wct (fb F (dt hb468)) (wp_skip (hK466 _ _ ?_)); refine sq fun K469 hK469 => ?_; refine wp_block ?_; refine sr fun K470 hK470 => qm F fun a F => qm F fun a F => ?_; obtain ⟨t471, q472, H⟩ := bind_some H; refine qc F Try.func24 (merkle_Tree_Digest.calls (m := m + 7) (pl hm0) B h38 lm ⟨lm, mm⟩ _ q472) ?_; rintro e w474 ⟨c473, rfl, E475, B⟩; refine rt fun a F => ?_; replace h38 := h38.ev E475; replace h74 := h74.ev E475; replace h97 := h97.ev E475; replace E := E.n E475; refine qm F fun a F => qm F fun a F => ?_; obtain ⟨t478, q479, H⟩ := bind_some H; refine qc F Try.func24 (merkle_Tree_Digest.calls (m := m + 7) (pl hm0) B h74 lm ⟨lm, mm⟩ _ q479) ?_; rintro e w481 ⟨c480, rfl, E482, B⟩; refine rt fun a F => ?_
       as_aux_lemma =>
       replace h38 := h38.ev E482; replace h74 := h74.ev E482; replace h97 := h97.ev E482; replace E := E.n E482; refine qv F (r_neq F rfl rfl) fun a F => ?_; refine nil (hK470 _ _ ?_); replace F : Fr a 250 [(8, .pointer p37), (10, .pointer p73), (12, .slice A95 t89.1.length C96), (13, .int .i64 t89.2.1), (21, .int .i64 i447), (23, .int .i64 i454), (24, .int .i64 i455), (232, .bool (!decide (t471 = t478)))] := F.sub ⟨rfl, rfl, rfl, rfl, rfl, rfl, rfl, rfl, trivial⟩
       by_cases hb485 : t471 = t478
       ·replace H := ip hb485 H; refine wcf (fb F (congrArg not (dt hb485))) (wp_skip (hK469 _ _ ?_)); refine reg ?_; refine qm F fun a F => ?_; refine qv F (r_add F rfl rfl) fun a F => ?_; refine qa F fun a F => nil ?_; replace H := HN459 _ (si H).symm; exact hX458 _ _ _ (Nat.lt_succ_self _) ⟨i454, (IntKind.i64.wrap (i455 + 1)), c480, F.sub ⟨rfl, rfl, rfl, rfl, rfl, rfl, rfl, trivial⟩, E, B, h38, h74, h97, H⟩
       replace H := im hb485 H; refine wct (fb F (congrArg not (dz hb485))) ?_; refine reg ?_; refine qm F fun a F => ?_; refine qv F (r_add F rfl rfl) fun a F => ?_; refine qa F fun a F => nil (hK469 _ _ ?_); refine reg ?_
       as_aux_lemma =>
       refine qm F fun a F => ?_; refine qv F (r_add F rfl rfl) fun a F => ?_; refine qa F fun a F => nil ?_; replace H := HN459 _ (si H).symm; exact hX458 _ _ _ (Nat.lt_succ_self _) ⟨(IntKind.i64.wrap (i454 + 1)), (IntKind.i64.wrap (i455 + 1)), c480, F.sub ⟨rfl, rfl, rfl, rfl, rfl, rfl, rfl, trivial⟩, E, B, h38, h74, h97, H⟩
      replace H := im hb468 H; refine wcf (fb F (dz hb468)) ?_; refine wp_exit ?_; refine thenE ?_; refine thenE ?_; refine inbE ?_; have hx_ := HD460 _ (si H).symm; have H := HR464; rw [← hx_] at H; exact J489 c456 w457 a i454 (F.sub ⟨rfl, rfl, rfl, rfl, trivial⟩) E B H
     refine loop_fuel (I := fun n a w => ∃ (i336 : Int) (i337 : Int) (c : Nat → Nat), Fr a 250 [(7, .int .i64 (IntKind.i64.wrap (1 + t23))), (8, .pointer p37), (10, .pointer p73), (12, .slice A95 t89.1.length C96), (13, .int .i64 t89.2.1), (20, .slice A329 t323.length C330), (21, .int .i64 i336), (22, .int .i64 i337)] ∧ Ev (fun x => False ∨ m ≤ x) c0 w0 c w ∧ CB (m + 7) c w ∧ ME (m + 1) (m + 2) c w p37 t31.1 ∧ ME (m + 4) (m + 5) c w p73 t67.1 ∧ SL true K_api_Line 0 0 c w A95 C96 t89.1 ∧ SL true K_api_Row 0 0 c w A329 C330 t323 ∧ loop (fun (s_ : Int × Int) => haulagelaw10_MerkleDiffs.b9 k t23 t31 t67 t89 t323 s_.1 s_.2) n (i336, i337) = some x347) (k := k) ⟨0, 0, c325, F.sub ⟨rfl, rfl, rfl, rfl, rfl, rfl, rfl, rfl, trivial⟩, E, B, h38, h74, h97, h331, HL⟩ ?_; clear HL H E F B; intro n344 X340 hX340 a w339 ⟨i336, i337, c338, F, E, B, h38, h74, h97, h331, HL⟩; obtain ⟨n345, ctl343, rfl, HB, HN341, HD342⟩ := loop_some HL; have H : haulagelaw10_MerkleDiffs.b9 k t23 t31 t67 t89 t323 i336 i337 = some ctl343 := HB; clear HB HL; unfold haulagelaw10_MerkleDiffs.b9 at H
     as_aux_lemma =>
     refine sq fun K348 hK348 => ?_; refine sr fun K349 hK349 => qm F fun a F => qm F fun a F => ?_; refine qv F (r_lensl F Try.underlying27 rfl) fun a F => ?_; refine qv F (r_lss F rfl rfl) fun a F => ?_; refine nil (hK349 _ _ ?_)
     by_cases hb350 : i337 < (t323.length : Int)
     ·replace H := ip hb350 H; refine wct (fb F (dt hb350)) (wp_skip (hK348 _ _ ?_)); refine sq fun K351 hK351 => ?_; refine wp_block ?_; refine sq fun K352 hK352 => ?_; refine sq fun K353 hK353 => ?_; have J390 : ∀ (c391 : Nat → Nat) (w392 : World) (a : Act) (b389 : Bool), Fr a 250 [(7, .int .i64 (IntKind.i64.wrap (1 + t23))), (8, .pointer p37), (10, .pointer p73), (12, .slice A95 t89.1.length C96), (13, .int .i64 t89.2.1), (20, .slice A329 t323.length C330), (21, .int .i64 i336), (22, .int .i64 i337), (199, .bool b389)] → Ev (fun x => False ∨ m ≤ x) c0 w0 c391 w392 → CB (m + 7) c391 w392 → ME (m + 1) (m + 2) c391 w392 p37 t31.1 → ME (m + 4) (m + 5) c391 w392 p73 t67.1 → SL true K_api_Line 0 0 c391 w392 A95 C96 t89.1 → SL true K_api_Row 0 0 c391 w392 A329 C330 t323 → haulagelaw10_MerkleDiffs.j7 k t23 t31 t67 t323 i336 i337 b389 = some ctl343 → K353 a w392 := by
       intro c391 w392 a b389 F E B h38 h74 h97 h331 H; unfold haulagelaw10_MerkleDiffs.j7 at H; refine hK353 _ _ ?_
       by_cases hb393 : b389 = true
       ·replace H := ip hb393 H; refine wct (fb F hb393) ?_; refine sr fun K394 hK394 => qm F fun a F => ?_; refine qv F (r_add F rfl rfl) fun a F => ?_; refine qa F fun a F => nil (hK394 _ _ ?_); refine wp_exit ?_; refine thenE ?_
        as_aux_lemma =>
        refine inbE ?_; refine hK351 _ _ ?_; refine reg ?_; refine qm F fun a F => ?_; refine qv F (r_add F rfl rfl) fun a F => ?_; refine qa F fun a F => nil ?_; replace H := HN341 _ (si H).symm; exact hX340 _ _ _ (Nat.lt_succ_self _) ⟨(IntKind.i64.wrap (i336 + 1)), (IntKind.i64.wrap (i337 + 1)), c391, F.sub ⟨rfl, rfl, rfl, rfl, rfl, rfl, rfl, rfl, trivial⟩, E, B, h38, h74, h97, h331, H⟩
       replace H := im hb393 H; refine wcf (fb F (bfalse hb393)) (wp_skip (hK352 _ _ ?_)); refine sq fun K395 hK395 => ?_; have J440 : ∀ (c441 : Nat → Nat) (w442 : World) (a : Act) (b439 : Bool), Fr a 250 [(7, .int .i64 (IntKind.i64.wrap (1 + t23))), (8, .pointer p37), (10, .pointer p73), (12, .slice A95 t89.1.length C96), (13, .int .i64 t89.2.1), (20, .slice A329 t323.length C330), (21, .int .i64 i336), (22, .int .i64 i337), (221, .bool b439)] → Ev (fun x => False ∨ m ≤ x) c0 w0 c441 w442 → CB (m + 7) c441 w442 → ME (m + 1) (m + 2) c441 w442 p37 t31.1 → ME (m + 4) (m + 5) c441 w442 p73 t67.1 → SL true K_api_Line 0 0 c441 w442 A95 C96 t89.1 → SL true K_api_Row 0 0 c441 w442 A329 C330 t323 → haulagelaw10_MerkleDiffs.j8 i336 i337 b439 = some ctl343 → K395 a w442 := by
        intro c441 w442 a b439 F E B h38 h74 h97 h331 H; unfold haulagelaw10_MerkleDiffs.j8 at H; refine hK395 _ _ ?_
        by_cases hb443 : b439 = true
        ·replace H := ip hb443 H; refine wct (fb F hb443) ?_; refine sr fun K444 hK444 => qa F fun a F => nil (hK444 _ _ ?_); replace F : Fr a 250 [(6, .bool false)] := F.sub ⟨rfl, trivial⟩; refine wp_ret ?_; refine inbR ?_; refine thenR ?_
         as_aux_lemma =>
         refine thenR ?_; refine inbR ?_; refine thenR ?_; have hx_ := HD342 _ (si H).symm; have H := HR346; rw [← hx_] at H; replace H : some false = some r := H; obtain rfl := si H; refine out1 F rfl rfl ?_; exact ⟨cf (ct m) c441, rfl, E.lv B0, cfb⟩
        replace H := im hb443 H; refine wcf (fb F (bfalse hb443)) (wp_skip (hK351 _ _ ?_)); refine reg ?_; refine qm F fun a F => ?_; refine qv F (r_add F rfl rfl) fun a F => ?_; refine qa F fun a F => nil ?_; replace H := HN341 _ (si H).symm; exact hX340 _ _ _ (Nat.lt_succ_self _) ⟨i336, (IntKind.i64.wrap (i337 + 1)), c441, F.sub ⟨rfl, rfl, rfl, rfl, rfl, rfl, rfl, rfl, trivial⟩, E, B, h38, h74, h97, h331, H⟩
       refine reg ?_; refine qm F fun a F => qm F fun a F => qm F fun a F => qm F fun a F => ?_; replace H := ifN H; obtain ⟨g396, H⟩ := H; obtain ⟨ad397, cs398, e399, h400, r401⟩ := SL.at h331 i337 g396.1 g396.2; obtain ⟨A402, C403, A405, C406, rfl, h404, h407⟩ := r401
       as_aux_lemma =>
       replace h404 := SL.fl (i' := 0) h404 (fun q => q); obtain ⟨qa408, qqa408⟩ : ∃ q, q = (ad397.add (i337.toNat * 3)) := ⟨_, rfl⟩; have h400 : AT true 0 c391 w392 qa408 [.slice A402 ((rd t323 i337).Key).length C403, .slice A405 ((rd t323 i337).Value).length C406, .int .i64 ((rd t323 i337).Rev)] := by rw [qqa408]; exact h400
       refine qv F (r_indexAddr' F Try.underlying27 sz_36 rfl rfl g396.1 g396.2 e399 qqa408) fun a F => ?_; refine qf F ff_36_0 fun a F => ?_; refine ql F ag_23 h400 fun a F => ?_; obtain ⟨t410, q411, H⟩ := bind_some H; refine qc F Try.func26 (haulagelaw10_unlike.calls k (m := m + 7) (pl hm0) B h38 h74 h404 lm ⟨lm, mm⟩ lm ⟨lm, mm⟩ _ q411) ?_; rintro e w413 ⟨c412, rfl, E414, B⟩; refine rt fun a F => ?_; replace h38 := h38.ev E414; replace h74 := h74.ev E414; replace h97 := h97.ev E414; replace h331 := h331.ev E414; replace E := E.n E414; refine qm F fun a F => ?_
       by_cases hb417 : t410 = true
       ·replace H := ip hb417 H; refine qy F hb417 ?_; refine qm F fun a F => ?_; refine qy F hb417 ?_; refine qm F fun a F => ?_; refine qy F hb417 ?_
        as_aux_lemma =>
        refine qm F fun a F => ?_; refine qy F hb417 ?_; refine qm F fun a F => ?_; refine qy F hb417 ?_; refine qm F fun a F => ?_; replace H := ifN H; obtain ⟨g418, H⟩ := H; obtain ⟨ad419, cs420, e421, h422, r423⟩ := SL.at h331 i337 g418.1 g418.2; obtain ⟨A424, C425, A427, C428, rfl, h426, h429⟩ := r423; replace h426 := SL.fl (i' := 0) h426 (fun q => q); obtain ⟨qa430, qqa430⟩ : ∃ q, q = (ad419.add (i337.toNat * 3)) := ⟨_, rfl⟩; have h422 : AT true 0 c412 w413 qa430 [.slice A424 ((rd t323 i337).Key).length C425, .slice A427 ((rd t323 i337).Value).length C428, .int .i64 ((rd t323 i337).Rev)] := by rw [qqa430]; exact h422
        refine qy F hb417 ?_; refine qv F (r_indexAddr' F Try.underlying27 sz_36 rfl rfl g418.1 g418.2 e421 qqa430) fun a F => ?_; refine qy F hb417 ?_; refine qf F ff_36_0 fun a F => ?_; refine qy F hb417 ?_; refine ql F ag_23 h422 fun a F => ?_; obtain ⟨t432, q433, H⟩ := bind_some H; refine qy F hb417 ?_; refine qc F Try.func29 (haulagelaw10_covered.calls k (m := m + 7) (pl hm0) B h38 h74 h426 lm ⟨lm, mm⟩ lm ⟨lm, mm⟩ _ q433) ?_; rintro e w435 ⟨c434, rfl, E436, B⟩
        as_aux_lemma =>
        refine rt fun a F => ?_; replace h38 := h38.ev E436; replace h74 := h74.ev E436; replace h97 := h97.ev E436; replace h331 := h331.ev E436; replace E := E.n E436; refine qy F hb417 ?_; refine qv F (r_not F rfl) fun a F => ?_; refine qv F (r_pick_t F rfl hb417 rfl) fun a F => ?_; refine nil ?_; exact J440 c434 w435 a (!t432) (F.sub ⟨rfl, rfl, rfl, rfl, rfl, rfl, rfl, rfl, rfl, trivial⟩) E B h38 h74 h97 h331 H
       replace H := im hb417 H; refine qn F (bfalse hb417) fun a F => qn F (bfalse hb417) fun a F => qn F (bfalse hb417) fun a F => qn F (bfalse hb417) fun a F => qn F (bfalse hb417) fun a F => qn F (bfalse hb417) fun a F => qn F (bfalse hb417) fun a F => qn F (bfalse hb417) fun a F => ?_; refine qn F (bfalse hb417) fun a F => qn F (bfalse hb417) fun a F => ?_; refine qv F (r_pick_f F rfl (bfalse hb417) rfl) fun a F => ?_; refine nil ?_; exact J440 c412 w413 a false (F.sub ⟨rfl, rfl, rfl, rfl, rfl, rfl, rfl, rfl, rfl, trivial⟩) E B h38 h74 h97 h331 H
      refine regD (SB No c338 w339) 17 (.q 0 (.q 1 (.q 2 (.q 3 (.q 4 (.q 5 (.q 6 (.q 7 (.q 8 (.q 9 (.q 10 (.q 11 (.q 12 (.q 13 (.q 14 (.e 15 (.q 16 .nil))))))))))))))))) Try_hm (by decide +kernel) ?_; intro w354 w1_ w2_ w3_ w4_; have E355 : Ev No c338 w339 c338 w354 := Ev.same w1_ w2_ w3_ w4_; replace B := B.same w1_; have zh97 := h97; have zh331 := h331; have ER : Ev No c338 w339 c338 w354 := Ev.same w1_ w2_ w3_ w4_
      as_aux_lemma =>
      replace h38 := h38.ev E355; replace h74 := h74.ev E355; replace h97 := h97.ev E355; replace h331 := h331.ev E355; replace E := E.n E355; refine dm F ER.sb fun a F => ?_; refine dm F ER.sb fun a F => ?_; refine dq F (fun wq hS => r_lensl F Try.underlying59 rfl) ER.sb fun a F => ?_; refine dq F (fun wq hS => r_lss F rfl rfl) ER.sb fun a F => ?_; refine dm F ER.sb fun a F => ?_
      by_cases hb356 : i336 < (t89.1.length : Int)
      ·replace H := ip hb356 H; refine dy F (dt hb356) (fun wq hS => r_move F rfl) ER.sb fun a F => ?_; refine dy F (dt hb356) (fun wq hS => r_move F rfl) ER.sb fun a F => ?_; replace H := ifN H; obtain ⟨g357, H⟩ := H; obtain ⟨ad358, cs359, e360, h361, r362⟩ := SL.at zh97 i336 g357.1 g357.2; obtain ⟨A363, C364, rfl, h365⟩ := r362; replace h365 := SL.fl (i' := 0) h365 (fun q => q); obtain ⟨qa366, qqa366⟩ : ∃ q, q = (ad358.add (i336.toNat * 3)) := ⟨_, rfl⟩; have h361 : AT true 0 c338 w339 qa366 [.slice A363 ((rd t89.1 i336).Key).length C364, .int .u64 ((rd t89.1 i336).Ours), .int .u64 ((rd t89.1 i336).Hers)] := by rw [qqa366]; exact h361
       replace h365 := h365.ev ER nq nq; have zh361 := h361
       as_aux_lemma =>
       refine dy F (dt hb356) (fun wq hS => r_indexAddr' F Try.underlying59 sz_63 rfl rfl g357.1 g357.2 e360 qqa366) ER.sb fun a F => ?_; refine dy F (dt hb356) (fun wq hS => r_fieldAddr F rfl ff_63_0) ER.sb fun a F => ?_; refine dy F (dt hb356) (fun wq hS => r_load F rfl ag_23 (AT.cell (AT.sb zh361 hS nq) rfl)) ER.sb fun a F => ?_; refine dy F (dt hb356) (fun wq hS => r_move F rfl) ER.sb fun a F => ?_; refine dy F (dt hb356) (fun wq hS => r_move F rfl) ER.sb fun a F => ?_; replace H := ifN H; obtain ⟨g368, H⟩ := H; obtain ⟨ad369, cs370, e371, h372, r373⟩ := SL.at zh331 i337 g368.1 g368.2; obtain ⟨A374, C375, A377, C378, rfl, h376, h379⟩ := r373; replace h376 := SL.fl (i' := 0) h376 (fun q => q); obtain ⟨qa380, qqa380⟩ : ∃ q, q = (ad369.add (i337.toNat * 3)) := ⟨_, rfl⟩; have h372 : AT true 0 c338 w339 qa380 [.slice A374 ((rd t323 i337).Key).length C375, .slice A377 ((rd t323 i337).Value).length C378, .int .i64 ((rd t323 i337).Rev)] := by rw [qqa380]; exact h372
       replace h376 := h376.ev ER nq nq; have zh372 := h372; refine dy F (dt hb356) (fun wq hS => r_indexAddr' F Try.underlying27 sz_36 rfl rfl g368.1 g368.2 e371 qqa380) ER.sb fun a F => ?_; refine dy F (dt hb356) (fun wq hS => r_fieldAddr F rfl ff_36_0) ER.sb fun a F => ?_; refine dy F (dt hb356) (fun wq hS => r_load F rfl ag_23 (AT.cell (AT.sb zh372 hS nq) rfl)) ER.sb fun a F => ?_; refine d_e ?_; obtain ⟨t382, q383, H⟩ := bind_some H; refine o_call F rfl (wanted_yes F rfl rfl (by decide) rfl (dt hb356)) rfl (by decide) (r_call F Try.func15 rfl (by kernel_rfl) rfl) (haulagelaw10_same.calls k (m := m + 7) (pl hm0) B h365 h376 _ q383) ?_; rintro e w385 ⟨c384, rfl, E386, B⟩; refine rt fun a F => ?_
       as_aux_lemma =>
       replace ER := ER.trans E386 nx; replace h38 := h38.ev E386; replace h74 := h74.ev E386; replace h97 := h97.ev E386; replace h331 := h331.ev E386; replace E := E.n E386; refine ⟨fun _ => ER.sb, ?_⟩; refine dq F (fun wq hS => r_pick_t F rfl (dt hb356) rfl) ER.sb fun a F => ?_; refine d_nil ?_; exact J390 c384 w385 a t382 (F.sub ⟨rfl, rfl, rfl, rfl, rfl, rfl, rfl, rfl, rfl, trivial⟩) E B h38 h74 h97 h331 H
      replace H := im hb356 H; refine dn F (dz hb356) ER.sb fun a F => ?_; refine dn F (dz hb356) ER.sb fun a F => ?_; refine dn F (dz hb356) ER.sb fun a F => ?_; refine dn F (dz hb356) ER.sb fun a F => ?_; refine dn F (dz hb356) ER.sb fun a F => ?_; refine dn F (dz hb356) ER.sb fun a F => ?_; refine dn F (dz hb356) ER.sb fun a F => ?_; refine dn F (dz hb356) ER.sb fun a F => ?_; refine dn F (dz hb356) ER.sb fun a F => ?_; refine dn F (dz hb356) ER.sb fun a F => ?_; refine d_e ?_
      as_aux_lemma =>
      refine o_no F rfl rfl rfl (by decide) rfl (dz hb356) rfl (by decide) fun a F => ?_; refine ⟨fun _ => ER.sb, ?_⟩; refine dq F (fun wq hS => r_pick_f F rfl (dz hb356) rfl) ER.sb fun a F => ?_; refine d_nil ?_; exact J390 c338 w354 a false (F.sub ⟨rfl, rfl, rfl, rfl, rfl, rfl, rfl, rfl, rfl, trivial⟩) E B h38 h74 h97 h331 H
     replace H := im hb350 H; refine wcf (fb F (dz hb350)) ?_; refine wp_exit ?_; refine thenE ?_; refine thenE ?_; refine inbE ?_; have hx_ := HD342 _ (si H).symm; have H := HR346; rw [← hx_] at H; exact J448 c338 w339 a i336 (F.sub ⟨rfl, rfl, rfl, rfl, rfl, trivial⟩) E B h38 h74 h97 H
    refine loop_fuel (I := fun n a w => ∃ (i139 : Int) (c : Nat → Nat), Fr a 250 [(7, .int .i64 (IntKind.i64.wrap (1 + t23))), (8, .pointer p37), (9, .slice A39 t31.2.length C40), (10, .pointer p73), (11, .slice A75 t67.2.length C76), (12, .slice A95 t89.1.length C96), (13, .int .i64 t89.2.1), (15, .slice A106 t100.1.length C107), (18, .int .i64 i139)] ∧ Ev (fun x => False ∨ m ≤ x) c0 w0 c w ∧ CB (m + 7) c w ∧ ME (m + 1) (m + 2) c w p37 t31.1 ∧ SL true K_api_Row 0 0 c w A39 C40 t31.2 ∧ ME (m + 4) (m + 5) c w p73 t67.1 ∧ SL true K_api_Row 0 0 c w A75 C76 t67.2 ∧ SL true K_api_Line 0 0 c w A95 C96 t89.1 ∧ SL true K_api_Line 0 0 c w A106 C107 t100.1 ∧ loop (fun (s_ : Int) => haulagelaw10_MerkleDiffs.b5 k t31 t67 t89 t100 s_) n i139 = some x149) (k := k) ⟨0, c133, F.sub ⟨rfl, rfl, rfl, rfl, rfl, rfl, rfl, rfl, rfl, trivial⟩, E, B, h38, h41, h74, h77, h97, h108, HL⟩ ?_; clear HL H E F B; intro n146 X142 hX142 a w141 ⟨i139, c140, F, E, B, h38, h41, h74, h77, h97, h108, HL⟩; obtain ⟨n147, ctl145, rfl, HB, HN143, HD144⟩ := loop_some HL; have H : haulagelaw10_MerkleDiffs.b5 k t31 t67 t89 t100 i139 = some ctl145 := HB; clear HB HL; unfold haulagelaw10_MerkleDiffs.b5 at H
    as_aux_lemma =>
    refine sq fun K150 hK150 => ?_; refine sr fun K151 hK151 => qm F fun a F => qm F fun a F => ?_; refine qv F (r_lensl F Try.underlying59 rfl) fun a F => ?_; refine qv F (r_lss F rfl rfl) fun a F => ?_; refine nil (hK151 _ _ ?_)
    by_cases hb152 : i139 < (t89.1.length : Int)
    ·replace H := ip hb152 H; refine wct (fb F (dt hb152)) (wp_skip (hK150 _ _ ?_)); refine sq fun K153 hK153 => ?_; refine wp_block ?_; refine sq fun K154 hK154 => ?_; have J233 : ∀ (c234 : Nat → Nat) (w235 : World) (a : Act) (b232 : Bool), Fr a 250 [(7, .int .i64 (IntKind.i64.wrap (1 + t23))), (8, .pointer p37), (9, .slice A39 t31.2.length C40), (10, .pointer p73), (11, .slice A75 t67.2.length C76), (12, .slice A95 t89.1.length C96), (13, .int .i64 t89.2.1), (15, .slice A106 t100.1.length C107), (18, .int .i64 i139), (19, .bool b232)] → Ev (fun x => False ∨ m ≤ x) c0 w0 c234 w235 → CB (m + 7) c234 w235 → ME (m + 1) (m + 2) c234 w235 p37 t31.1 → SL true K_api_Row 0 0 c234 w235 A39 C40 t31.2 → ME (m + 4) (m + 5) c234 w235 p73 t67.1 → SL true K_api_Row 0 0 c234 w235 A75 C76 t67.2 → SL true K_api_Line 0 0 c234 w235 A95 C96 t89.1 → SL true K_api_Line 0 0 c234 w235 A106 C107 t100.1 → haulagelaw10_MerkleDiffs.j3 k t31 t67 t89 i139 b232 = some ctl145 → K154 a w235 := by
      intro c234 w235 a b232 F E B h38 h41 h74 h77 h97 h108 H; unfold haulagelaw10_MerkleDiffs.j3 at H; refine hK154 _ _ ?_; refine sq fun K236 hK236 => ?_; have J290 : ∀ (c291 : Nat → Nat) (w292 : World) (a : Act) (b289 : Bool), Fr a 250 [(7, .int .i64 (IntKind.i64.wrap (1 + t23))), (8, .pointer p37), (9, .slice A39 t31.2.length C40), (10, .pointer p73), (11, .slice A75 t67.2.length C76), (12, .slice A95 t89.1.length C96), (13, .int .i64 t89.2.1), (15, .slice A106 t100.1.length C107), (18, .int .i64 i139), (170, .bool b289)] → Ev (fun x => False ∨ m ≤ x) c0 w0 c291 w292 → CB (m + 7) c291 w292 → ME (m + 1) (m + 2) c291 w292 p37 t31.1 → SL true K_api_Row 0 0 c291 w292 A39 C40 t31.2 → ME (m + 4) (m + 5) c291 w292 p73 t67.1 → SL true K_api_Row 0 0 c291 w292 A75 C76 t67.2 → SL true K_api_Line 0 0 c291 w292 A95 C96 t89.1 → SL true K_api_Line 0 0 c291 w292 A106 C107 t100.1 → haulagelaw10_MerkleDiffs.j4 i139 b289 = some ctl145 → K236 a w292 := by
       intro c291 w292 a b289 F E B h38 h41 h74 h77 h97 h108 H; unfold haulagelaw10_MerkleDiffs.j4 at H; refine hK236 _ _ ?_
       by_cases hb293 : b289 = true
       ·replace H := ip hb293 H; refine wct (fb F hb293) ?_; refine sr fun K294 hK294 => qa F fun a F => nil (hK294 _ _ ?_); replace F : Fr a 250 [(6, .bool false)] := F.sub ⟨rfl, trivial⟩
        as_aux_lemma =>
        refine wp_ret ?_; refine inbR ?_; refine thenR ?_; refine thenR ?_; refine inbR ?_; refine thenR ?_; have hx_ := HD144 _ (si H).symm; have H := HR148; rw [← hx_] at H; replace H : some false = some r := H; obtain rfl := si H; refine out1 F rfl rfl ?_; exact ⟨cf (ct m) c291, rfl, E.lv B0, cfb⟩
       replace H := im hb293 H; refine wcf (fb F (bfalse hb293)) (wp_skip (hK153 _ _ ?_)); refine reg ?_; refine qm F fun a F => ?_; refine qv F (r_add F rfl rfl) fun a F => ?_; refine qa F fun a F => nil ?_; replace H := HN143 _ (si H).symm; exact hX142 _ _ _ (Nat.lt_succ_self _) ⟨(IntKind.i64.wrap (i139 + 1)), c291, F.sub ⟨rfl, rfl, rfl, rfl, rfl, rfl, rfl, rfl, rfl, trivial⟩, E, B, h38, h41, h74, h77, h97, h108, H⟩
      refine regD (SB No c234 w235) 32 (.q 0 (.q 1 (.q 2 (.q 3 (.q 4 (.q 5 (.q 6 (.q 7 (.q 8 (.q 9 (.e 10 (.q 11 (.q 12 (.q 13 (.q 14 (.q 15 (.q 16 (.q 17 (.q 18 (.q 19 (.q 20 (.q 21 (.q 22 (.q 23 (.q 24 (.q 25 (.q 26 (.q 27 (.e 28 (.q 29 (.q 30 (.q 31 .nil)))))))))))))))))))))))))))))))) Try_hm (by decide +kernel) ?_; intro w237 w1_ w2_ w3_ w4_; have E238 : Ev No c234 w235 c234 w237 := Ev.same w1_ w2_ w3_ w4_
      as_aux_lemma =>
      replace B := B.same w1_; have zh97 := h97; have ER : Ev No c234 w235 c234 w237 := Ev.same w1_ w2_ w3_ w4_; replace h38 := h38.ev E238; replace h41 := h41.ev E238; replace h74 := h74.ev E238; replace h77 := h77.ev E238; replace h97 := h97.ev E238; replace h108 := h108.ev E238; replace E := E.n E238; refine dm F ER.sb fun a F => ?_; refine dq F (fun wq hS => r_not F rfl) ER.sb fun a F => ?_; refine dm F ER.sb fun a F => ?_
      by_cases hb239 : b232 = true
      ·replace H := ip hb239 H; refine dy F (congrArg not hb239) (fun wq hS => r_move F rfl) ER.sb fun a F => ?_; refine dy F (congrArg not hb239) (fun wq hS => r_move F rfl) ER.sb fun a F => ?_; refine dy F (congrArg not hb239) (fun wq hS => r_move F rfl) ER.sb fun a F => ?_; refine dy F (congrArg not hb239) (fun wq hS => r_move F rfl) ER.sb fun a F => ?_; replace H := ifN H; obtain ⟨g240, H⟩ := H; obtain ⟨ad241, cs242, e243, h244, r245⟩ := SL.at zh97 i139 g240.1 g240.2; obtain ⟨A246, C247, rfl, h248⟩ := r245
       as_aux_lemma =>
       replace h248 := SL.fl (i' := 0) h248 (fun q => q); obtain ⟨qa249, qqa249⟩ : ∃ q, q = (ad241.add (i139.toNat * 3)) := ⟨_, rfl⟩; have h244 : AT true 0 c234 w235 qa249 [.slice A246 ((rd t89.1 i139).Key).length C247, .int .u64 ((rd t89.1 i139).Ours), .int .u64 ((rd t89.1 i139).Hers)] := by rw [qqa249]; exact h244
       replace h248 := h248.ev ER nq nq; have zh244 := h244; refine dy F (congrArg not hb239) (fun wq hS => r_indexAddr' F Try.underlying59 sz_63 rfl rfl g240.1 g240.2 e243 qqa249) ER.sb fun a F => ?_; refine dy F (congrArg not hb239) (fun wq hS => r_fieldAddr F rfl ff_63_0) ER.sb fun a F => ?_; refine dy F (congrArg not hb239) (fun wq hS => r_load F rfl ag_23 (AT.cell (AT.sb zh244 hS nq) rfl)) ER.sb fun a F => ?_; refine d_e ?_; obtain ⟨t251, q252, H⟩ := bind_some H; refine o_call F rfl (wanted_yes F rfl rfl (by decide) rfl (congrArg not hb239)) rfl (by decide) (r_call F Try.func26 rfl (by kernel_rfl) rfl) (haulagelaw10_unlike.calls k (m := m + 7) (pl hm0) B h38 h74 h248 lm ⟨lm, mm⟩ lm ⟨lm, mm⟩ _ q252) ?_; rintro e w254 ⟨c253, rfl, E255, B⟩; refine rt fun a F => ?_; replace ER := ER.trans E255 nx; replace h38 := h38.ev E255; replace h41 := h41.ev E255; replace h74 := h74.ev E255; replace h77 := h77.ev E255; replace h97 := h97.ev E255; replace h108 := h108.ev E255; replace E := E.n E255; refine ⟨fun _ => ER.sb, ?_⟩
       as_aux_lemma =>
       refine dy F (congrArg not hb239) (fun wq hS => r_not F rfl) ER.sb fun a F => ?_; refine dq F (fun wq hS => r_pick_f F rfl (congrArg not hb239) rfl) ER.sb fun a F => ?_; refine dm F ER.sb fun a F => ?_
       by_cases hb258 : t251 = true
       ·replace H := ip hb258 H; refine dy F (congrArg not hb258) (fun wq hS => r_move F rfl) ER.sb fun a F => ?_; refine dy F (congrArg not hb258) (fun wq hS => r_gtr F rfl rfl) ER.sb fun a F => ?_; refine dy F (congrArg not hb258) (fun wq hS => r_move F rfl) ER.sb fun a F => ?_
        by_cases hb259 : 0 < i139
        ·replace H := ip hb259 H; refine dy F (dt hb259) (fun wq hS => r_move F rfl) ER.sb fun a F => ?_; refine dy F (dt hb259) (fun wq hS => r_move F rfl) ER.sb fun a F => ?_; refine dy F (dt hb259) (fun wq hS => r_sub F rfl rfl) ER.sb fun a F => ?_; replace H := ifN H; obtain ⟨g260, H⟩ := H; obtain ⟨ad261, cs262, e263, h264, r265⟩ := SL.at zh97 (IntKind.i64.wrap (i139 - 1)) g260.1 g260.2; obtain ⟨A266, C267, rfl, h268⟩ := r265; replace h268 := SL.fl (i' := 0) h268 (fun q => q); obtain ⟨qa269, qqa269⟩ : ∃ q, q = (ad261.add ((IntKind.i64.wrap (i139 - 1)).toNat * 3)) := ⟨_, rfl⟩; have h264 : AT true 0 c234 w235 qa269 [.slice A266 ((rd t89.1 (IntKind.i64.wrap (i139 - 1))).Key).length C267, .int .u64 ((rd t89.1 (IntKind.i64.wrap (i139 - 1))).Ours), .int .u64 ((rd t89.1 (IntKind.i64.wrap (i139 - 1))).Hers)] := by rw [qqa269]; exact h264
         replace h268 := h268.ev ER nq nq; have zh264 := h264; refine dy F (dt hb259) (fun wq hS => r_indexAddr' F Try.underlying59 sz_63 rfl rfl g260.1 g260.2 e263 qqa269) ER.sb fun a F => ?_; refine dy F (dt hb259) (fun wq hS => r_fieldAddr F rfl ff_63_0) ER.sb fun a F => ?_
         as_aux_lemma =>
         refine dy F (dt hb259) (fun wq hS => r_load F rfl ag_23 (AT.cell (AT.sb zh264 hS nq) rfl)) ER.sb fun a F => ?_; refine dy F (dt hb259) (fun wq hS => r_move F rfl) ER.sb fun a F => ?_; refine dy F (dt hb259) (fun wq hS => r_move F rfl) ER.sb fun a F => ?_; replace H := ifN H; obtain ⟨g271, H⟩ := H; obtain ⟨ad272, cs273, e274, h275, r276⟩ := SL.at zh97 i139 g271.1 g271.2; obtain ⟨A277, C278, rfl, h279⟩ := r276; replace h279 := SL.fl (i' := 0) h279 (fun q => q); obtain ⟨qa280, qqa280⟩ : ∃ q, q = (ad272.add (i139.toNat * 3)) := ⟨_, rfl⟩; have h275 : AT true 0 c234 w235 qa280 [.slice A277 ((rd t89.1 i139).Key).length C278, .int .u64 ((rd t89.1 i139).Ours), .int .u64 ((rd t89.1 i139).Hers)] := by rw [qqa280]; exact h275
         replace h279 := h279.ev ER nq nq; have zh275 := h275; refine dy F (dt hb259) (fun wq hS => r_indexAddr' F Try.underlying59 sz_63 rfl rfl g271.1 g271.2 e274 qqa280) ER.sb fun a F => ?_; refine dy F (dt hb259) (fun wq hS => r_fieldAddr F rfl ff_63_0) ER.sb fun a F => ?_; refine dy F (dt hb259) (fun wq hS => r_load F rfl ag_23 (AT.cell (AT.sb zh275 hS nq) rfl)) ER.sb fun a F => ?_; refine d_e ?_; obtain ⟨t282, q283, H⟩ := bind_some H; refine o_call F rfl (wanted_yes F rfl rfl (by decide) rfl (dt hb259)) rfl (by decide) (r_call F Try.func27 rfl (by kernel_rfl) rfl) (haulagelaw10_comes.calls k (m := m + 7) (pl hm0) B h268 h279 _ q283) ?_; rintro e w285 ⟨c284, rfl, E286, B⟩; refine rt fun a F => ?_; replace ER := ER.trans E286 nx; replace h38 := h38.ev E286
         as_aux_lemma =>
         replace h41 := h41.ev E286; replace h74 := h74.ev E286; replace h77 := h77.ev E286; replace h97 := h97.ev E286; replace h108 := h108.ev E286; replace E := E.n E286; refine ⟨fun _ => ER.sb, ?_⟩; refine dy F (dt hb259) (fun wq hS => r_not F rfl) ER.sb fun a F => ?_; refine dy F (congrArg not hb258) (fun wq hS => r_pick_t F rfl (dt hb259) rfl) ER.sb fun a F => ?_; refine dq F (fun wq hS => r_pick_f F rfl (congrArg not hb258) rfl) ER.sb fun a F => ?_; refine d_nil ?_; exact J290 c284 w285 a (!t282) (F.sub ⟨rfl, rfl, rfl, rfl, rfl, rfl, rfl, rfl, rfl, rfl, trivial⟩) E B h38 h41 h74 h77 h97 h108 H
        replace H := im hb259 H; refine dn F (dz hb259) ER.sb fun a F => ?_; refine dn F (dz hb259) ER.sb fun a F => ?_; refine dn F (dz hb259) ER.sb fun a F => ?_; refine dn F (dz hb259) ER.sb fun a F => ?_; refine dn F (dz hb259) ER.sb fun a F => ?_; refine dn F (dz hb259) ER.sb fun a F => ?_; refine dn F (dz hb259) ER.sb fun a F => ?_; refine dn F (dz hb259) ER.sb fun a F => ?_; refine dn F (dz hb259) ER.sb fun a F => ?_
        as_aux_lemma =>
        refine dn F (dz hb259) ER.sb fun a F => ?_; refine dn F (dz hb259) ER.sb fun a F => ?_; refine d_e ?_; refine o_no F rfl rfl rfl (by decide) rfl (dz hb259) rfl (by decide) fun a F => ?_; refine ⟨fun _ => ER.sb, ?_⟩; refine dn F (dz hb259) ER.sb fun a F => ?_; refine dy F (congrArg not hb258) (fun wq hS => r_pick_f F rfl (dz hb259) rfl) ER.sb fun a F => ?_; refine dq F (fun wq hS => r_pick_f F rfl (congrArg not hb258) rfl) ER.sb fun a F => ?_; refine d_nil ?_; exact J290 c253 w254 a false (F.sub ⟨rfl, rfl, rfl, rfl, rfl, rfl, rfl, rfl, rfl, rfl, trivial⟩) E B h38 h41 h74 h77 h97 h108 H
       replace H := im hb258 H; refine dn F (congrArg not (bfalse hb258)) ER.sb fun a F => ?_; refine dn F (congrArg not (bfalse hb258)) ER.sb fun a F => ?_; refine dn F (congrArg not (bfalse hb258)) ER.sb fun a F => ?_; refine du F ER.sb fun a F => ?_; refine du F ER.sb fun a F => ?_; refine du F ER.sb fun a F => ?_; refine du F ER.sb fun a F => ?_; refine du F ER.sb fun a F => ?_; refine du F ER.sb fun a F => ?_; refine du F ER.sb fun a F => ?_; refine du F ER.sb fun a F => ?_
       as_aux_lemma =>
       refine du F ER.sb fun a F => ?_; refine du F ER.sb fun a F => ?_; refine du F ER.sb fun a F => ?_; refine d_e ?_; refine o_nu F rfl rfl rfl (by decide) rfl rfl (by decide) fun a F => ?_; refine ⟨fun _ => ER.sb, ?_⟩; refine du F ER.sb fun a F => ?_; refine dn F (congrArg not (bfalse hb258)) ER.sb fun a F => ?_; refine dq F (fun wq hS => r_pick_t F rfl (congrArg not (bfalse hb258)) rfl) ER.sb fun a F => ?_; refine d_nil ?_; exact J290 c253 w254 a true (F.sub ⟨rfl, rfl, rfl, rfl, rfl, rfl, rfl, rfl, rfl, rfl, trivial⟩) E B h38 h41 h74 h77 h97 h108 H
      replace H := im hb239 H; refine dn F (congrArg not (bfalse hb239)) ER.sb fun a F => ?_; refine dn F (congrArg not (bfalse hb239)) ER.sb fun a F => ?_; refine dn F (congrArg not (bfalse hb239)) ER.sb fun a F => ?_; refine dn F (congrArg not (bfalse hb239)) ER.sb fun a F => ?_; refine dn F (congrArg not (bfalse hb239)) ER.sb fun a F => ?_; refine dn F (congrArg not (bfalse hb239)) ER.sb fun a F => ?_; refine dn F (congrArg not (bfalse hb239)) ER.sb fun a F => ?_; refine d_e ?_; refine o_no F rfl rfl rfl (by decide) rfl (congrArg not (bfalse hb239)) rfl (by decide) fun a F => ?_; refine ⟨fun _ => ER.sb, ?_⟩
      as_aux_lemma =>
      refine dn F (congrArg not (bfalse hb239)) ER.sb fun a F => ?_; refine dq F (fun wq hS => r_pick_t F rfl (congrArg not (bfalse hb239)) rfl) ER.sb fun a F => ?_; refine dm F ER.sb fun a F => ?_; refine dn F rfl ER.sb fun a F => ?_; refine dn F rfl ER.sb fun a F => ?_; refine dn F rfl ER.sb fun a F => ?_; refine du F ER.sb fun a F => ?_; refine du F ER.sb fun a F => ?_; refine du F ER.sb fun a F => ?_; refine du F ER.sb fun a F => ?_; refine du F ER.sb fun a F => ?_; refine du F ER.sb fun a F => ?_; refine du F ER.sb fun a F => ?_; refine du F ER.sb fun a F => ?_; refine du F ER.sb fun a F => ?_; refine du F ER.sb fun a F => ?_; refine du F ER.sb fun a F => ?_; refine d_e ?_; refine o_nu F rfl rfl rfl (by decide) rfl rfl (by decide) fun a F => ?_; refine ⟨fun _ => ER.sb, ?_⟩; refine du F ER.sb fun a F => ?_; refine dn F rfl ER.sb fun a F => ?_
      as_aux_lemma =>
      refine dq F (fun wq hS => r_pick_t F rfl rfl rfl) ER.sb fun a F => ?_; refine d_nil ?_; exact J290 c234 w237 a true (F.sub ⟨rfl, rfl, rfl, rfl, rfl, rfl, rfl, rfl, rfl, rfl, trivial⟩) E B h38 h41 h74 h77 h97 h108 H
     refine regD (SB No c140 w141) 38 (.q 0 (.q 1 (.q 2 (.q 3 (.q 4 (.q 5 (.q 6 (.q 7 (.q 8 (.q 9 (.e 10 (.q 11 (.q 12 (.q 13 (.q 14 (.q 15 (.q 16 (.q 17 (.q 18 (.q 19 (.q 20 (.q 21 (.q 22 (.q 23 (.q 24 (.q 25 (.q 26 (.q 27 (.q 28 (.q 29 (.q 30 (.q 31 (.q 32 (.q 33 (.q 34 (.q 35 (.q 36 (.q 37 .nil)))))))))))))))))))))))))))))))))))))) Try_hm (by decide +kernel) ?_; intro w155 w1_ w2_ w3_ w4_; have E156 : Ev No c140 w141 c140 w155 := Ev.same w1_ w2_ w3_ w4_; replace B := B.same w1_; have zh97 := h97; have zh108 := h108; have ER : Ev No c140 w141 c140 w155 := Ev.same w1_ w2_ w3_ w4_; replace h38 := h38.ev E156; replace h41 := h41.ev E156; replace h74 := h74.ev E156; replace h77 := h77.ev E156; replace h97 := h97.ev E156; replace h108 := h108.ev E156; replace E := E.n E156; refine dm F ER.sb fun a F => ?_; refine dm F ER.sb fun a F => ?_; replace H := ifN H; obtain ⟨g157, H⟩ := H; obtain ⟨ad158, cs159, e160, h161, r162⟩ := SL.at zh97 i139 g157.1 g157.2; obtain ⟨A163, C164, rfl, h165⟩ := r162
     as_aux_lemma =>
     replace h165 := SL.fl (i' := 0) h165 (fun q => q); obtain ⟨qa166, qqa166⟩ : ∃ q, q = (ad158.add (i139.toNat * 3)) := ⟨_, rfl⟩; have h161 : AT true 0 c140 w141 qa166 [.slice A163 ((rd t89.1 i139).Key).length C164, .int .u64 ((rd t89.1 i139).Ours), .int .u64 ((rd t89.1 i139).Hers)] := by rw [qqa166]; exact h161
     replace h165 := h165.ev ER nq nq; have zh161 := h161; refine dq F (fun wq hS => r_indexAddr' F Try.underlying59 sz_63 rfl rfl g157.1 g157.2 e160 qqa166) ER.sb fun a F => ?_; refine df F ff_63_0 ER.sb fun a F => ?_; refine dl F ag_23 zh161 nq ER.sb fun a F => ?_; refine dm F ER.sb fun a F => ?_; refine dm F ER.sb fun a F => ?_; replace H := ifN H; obtain ⟨g168, H⟩ := H; obtain ⟨ad169, cs170, e171, h172, r173⟩ := SL.at zh108 i139 g168.1 g168.2; obtain ⟨A174, C175, rfl, h176⟩ := r173; replace h176 := SL.fl (i' := 0) h176 (fun q => q); obtain ⟨qa177, qqa177⟩ : ∃ q, q = (ad169.add (i139.toNat * 3)) := ⟨_, rfl⟩; have h172 : AT true 0 c140 w141 qa177 [.slice A174 ((rd t100.1 i139).Key).length C175, .int .u64 ((rd t100.1 i139).Ours), .int .u64 ((rd t100.1 i139).Hers)] := by rw [qqa177]; exact h172
     replace h176 := h176.ev ER nq nq; have zh172 := h172; refine dq F (fun wq hS => r_indexAddr' F Try.underlying59 sz_63 rfl rfl g168.1 g168.2 e171 qqa177) ER.sb fun a F => ?_; refine df F ff_63_0 ER.sb fun a F => ?_; refine dl F ag_23 zh172 nq ER.sb fun a F => ?_
     as_aux_lemma =>
     refine d_e ?_; obtain ⟨t179, q180, H⟩ := bind_some H; refine oc F Try.func15 (haulagelaw10_same.calls k (m := m + 7) (pl hm0) B h165 h176 _ q180) ?_; rintro e w182 ⟨c181, rfl, E183, B⟩; refine rt fun a F => ?_; replace ER := ER.trans E183 nx; replace h38 := h38.ev E183; replace h41 := h41.ev E183; replace h74 := h74.ev E183; replace h77 := h77.ev E183; replace h97 := h97.ev E183; replace h108 := h108.ev E183; replace E := E.n E183; refine ⟨fun _ => ER.sb, ?_⟩; refine dm F ER.sb fun a F => ?_
     by_cases hb186 : t179 = true
     ·replace H := ip hb186 H; refine dy F hb186 (fun wq hS => r_move F rfl) ER.sb fun a F => ?_; refine dy F hb186 (fun wq hS => r_move F rfl) ER.sb fun a F => ?_; replace H := ifN H; obtain ⟨g187, H⟩ := H; obtain ⟨ad188, cs189, e190, h191, r192⟩ := SL.at zh97 i139 g187.1 g187.2; obtain ⟨A193, C194, rfl, h195⟩ := r192; obtain ⟨qa196, qqa196⟩ : ∃ q, q = (ad188.add (i139.toNat * 3)) := ⟨_, rfl⟩; have h191 : AT true 0 c140 w141 qa196 [.slice A193 ((rd t89.1 i139).Key).length C194, .int .u64 ((rd t89.1 i139).Ours), .int .u64 ((rd t89.1 i139).Hers)] := by rw [qqa196]; exact h191
      have zh191 := h191
      as_aux_lemma =>
      refine dy F hb186 (fun wq hS => r_indexAddr' F Try.underlying59 sz_63 rfl rfl g187.1 g187.2 e190 qqa196) ER.sb fun a F => ?_; refine dy F hb186 (fun wq hS => r_fieldAddr F rfl ff_63_1) ER.sb fun a F => ?_; refine dy F hb186 (fun wq hS => r_load F rfl ag_30 (AT.cell (AT.sb zh191 hS nq) rfl)) ER.sb fun a F => ?_; refine dy F hb186 (fun wq hS => r_move F rfl) ER.sb fun a F => ?_; refine dy F hb186 (fun wq hS => r_move F rfl) ER.sb fun a F => ?_; replace H := ifN H; obtain ⟨g198, H⟩ := H; obtain ⟨ad199, cs200, e201, h202, r203⟩ := SL.at zh108 i139 g198.1 g198.2; obtain ⟨A204, C205, rfl, h206⟩ := r203; obtain ⟨qa207, qqa207⟩ : ∃ q, q = (ad199.add (i139.toNat * 3)) := ⟨_, rfl⟩; have h202 : AT true 0 c140 w141 qa207 [.slice A204 ((rd t100.1 i139).Key).length C205, .int .u64 ((rd t100.1 i139).Ours), .int .u64 ((rd t100.1 i139).Hers)] := by rw [qqa207]; exact h202
      have zh202 := h202; refine dy F hb186 (fun wq hS => r_indexAddr' F Try.underlying59 sz_63 rfl rfl g198.1 g198.2 e201 qqa207) ER.sb fun a F => ?_; refine dy F hb186 (fun wq hS => r_fieldAddr F rfl ff_63_2) ER.sb fun a F => ?_; refine dy F hb186 (fun wq hS => r_load F rfl ag_30 (AT.cell (AT.sb zh202 hS nq) rfl)) ER.sb fun a F => ?_; refine dy F hb186 (fun wq hS => r_eql F rfl rfl) ER.sb fun a F => ?_; refine dq F (fun wq hS => r_pick_t F rfl hb186 rfl) ER.sb fun a F => ?_; refine dm F ER.sb fun a F => ?_
      by_cases hb209 : ((rd t89.1 i139).Ours) = ((rd t100.1 i139).Hers)
      ·replace H := ip hb209 H; refine dy F (dt hb209) (fun wq hS => r_move F rfl) ER.sb fun a F => ?_; refine dy F (dt hb209) (fun wq hS => r_move F rfl) ER.sb fun a F => ?_; replace H := ifN H; obtain ⟨g210, H⟩ := H; obtain ⟨ad211, cs212, e213, h214, r215⟩ := SL.at zh97 i139 g210.1 g210.2; obtain ⟨A216, C217, rfl, h218⟩ := r215; obtain ⟨qa219, qqa219⟩ : ∃ q, q = (ad211.add (i139.toNat * 3)) := ⟨_, rfl⟩; have h214 : AT true 0 c140 w141 qa219 [.slice A216 ((rd t89.1 i139).Key).length C217, .int .u64 ((rd t89.1 i139).Ours), .int .u64 ((rd t89.1 i139).Hers)] := by rw [qqa219]; exact h214
       have zh214 := h214
       as_aux_lemma =>
       refine dy F (dt hb209) (fun wq hS => r_indexAddr' F Try.underlying59 sz_63 rfl rfl g210.1 g210.2 e213 qqa219) ER.sb fun a F => ?_; refine dy F (dt hb209) (fun wq hS => r_fieldAddr F rfl ff_63_2) ER.sb fun a F => ?_; refine dy F (dt hb209) (fun wq hS => r_load F rfl ag_30 (AT.cell (AT.sb zh214 hS nq) rfl)) ER.sb fun a F => ?_; refine dy F (dt hb209) (fun wq hS => r_move F rfl) ER.sb fun a F => ?_; refine dy F (dt hb209) (fun wq hS => r_move F rfl) ER.sb fun a F => ?_; replace H := ifN H; obtain ⟨g221, H⟩ := H; obtain ⟨ad222, cs223, e224, h225, r226⟩ := SL.at zh108 i139 g221.1 g221.2; obtain ⟨A227, C228, rfl, h229⟩ := r226; obtain ⟨qa230, qqa230⟩ : ∃ q, q = (ad222.add (i139.toNat * 3)) := ⟨_, rfl⟩; have h225 : AT true 0 c140 w141 qa230 [.slice A227 ((rd t100.1 i139).Key).length C228, .int .u64 ((rd t100.1 i139).Ours), .int .u64 ((rd t100.1 i139).Hers)] := by rw [qqa230]; exact h225
       have zh225 := h225; refine dy F (dt hb209) (fun wq hS => r_indexAddr' F Try.underlying59 sz_63 rfl rfl g221.1 g221.2 e224 qqa230) ER.sb fun a F => ?_; refine dy F (dt hb209) (fun wq hS => r_fieldAddr F rfl ff_63_1) ER.sb fun a F => ?_; refine dy F (dt hb209) (fun wq hS => r_load F rfl ag_30 (AT.cell (AT.sb zh225 hS nq) rfl)) ER.sb fun a F => ?_; refine dy F (dt hb209) (fun wq hS => r_eql F rfl rfl) ER.sb fun a F => ?_; refine dq F (fun wq hS => r_pick_t F rfl (dt hb209) rfl) ER.sb fun a F => ?_; refine da F ER.sb fun a F => ?_; refine d_nil ?_; exact J233 c181 w182 a (decide (((rd t89.1 i139).Hers) = ((rd t100.1 i139).Ours))) (F.sub ⟨rfl, rfl, rfl, rfl, rfl, rfl, rfl, rfl, rfl, rfl, trivial⟩) E B h38 h41 h74 h77 h97 h108 H
      replace H := im hb209 H; refine dn F (dz hb209) ER.sb fun a F => ?_
      as_aux_lemma =>
      refine dn F (dz hb209) ER.sb fun a F => ?_; refine dn F (dz hb209) ER.sb fun a F => ?_; refine dn F (dz hb209) ER.sb fun a F => ?_; refine dn F (dz hb209) ER.sb fun a F => ?_; refine dn F (dz hb209) ER.sb fun a F => ?_; refine dn F (dz hb209) ER.sb fun a F => ?_; refine dn F (dz hb209) ER.sb fun a F => ?_; refine dn F (dz hb209) ER.sb fun a F => ?_; refine dn F (dz hb209) ER.sb fun a F => ?_; refine dn F (dz hb209) ER.sb fun a F => ?_; refine dq F (fun wq hS => r_pick_f F rfl (dz hb209) rfl) ER.sb fun a F => ?_; refine da F ER.sb fun a F => ?_; refine d_nil ?_; exact J233 c181 w182 a false (F.sub ⟨rfl, rfl, rfl, rfl, rfl, rfl, rfl, rfl, rfl, rfl, trivial⟩) E B h38 h41 h74 h77 h97 h108 H
     replace H := im hb186 H; refine dn F (bfalse hb186) ER.sb fun a F => ?_; refine dn F (bfalse hb186) ER.sb fun a F => ?_; refine dn F (bfalse hb186) ER.sb fun a F => ?_; refine dn F (bfalse hb186) ER.sb fun a F => ?_; refine dn F (bfalse hb186) ER.sb fun a F => ?_; refine dn F (bfalse hb186) ER.sb fun a F => ?_; refine dn F (bfalse hb186) ER.sb fun a F => ?_
     as_aux_lemma =>
     refine dn F (bfalse hb186) ER.sb fun a F => ?_; refine dn F (bfalse hb186) ER.sb fun a F => ?_; refine dn F (bfalse hb186) ER.sb fun a F => ?_; refine dn F (bfalse hb186) ER.sb fun a F => ?_; refine dq F (fun wq hS => r_pick_f F rfl (bfalse hb186) rfl) ER.sb fun a F => ?_; refine dm F ER.sb fun a F => ?_; refine dn F rfl ER.sb fun a F => ?_; refine dn F rfl ER.sb fun a F => ?_; refine dn F rfl ER.sb fun a F => ?_; refine dn F rfl ER.sb fun a F => ?_; refine dn F rfl ER.sb fun a F => ?_; refine dn F rfl ER.sb fun a F => ?_; refine dn F rfl ER.sb fun a F => ?_; refine dn F rfl ER.sb fun a F => ?_; refine dn F rfl ER.sb fun a F => ?_; refine dn F rfl ER.sb fun a F => ?_; refine dn F rfl ER.sb fun a F => ?_; refine dq F (fun wq hS => r_pick_f F rfl rfl rfl) ER.sb fun a F => ?_; refine da F ER.sb fun a F => ?_; refine d_nil ?_; exact J233 c181 w182 a false (F.sub ⟨rfl, rfl, rfl, rfl, rfl, rfl, rfl, rfl, rfl, rfl, trivial⟩) E B h38 h41 h74 h77 h97 h108 H
    replace H := im hb152 H
    as_aux_lemma =>
    refine wcf (fb F (dz hb152)) ?_; refine wp_exit ?_; refine thenE ?_; refine thenE ?_; refine inbE ?_; have hx_ := HD144 _ (si H).symm; have H := HR148; rw [← hx_] at H; exact J296 c140 w141 a  (F.sub ⟨rfl, rfl, rfl, rfl, rfl, rfl, rfl, trivial⟩) E B h38 h41 h74 h77 h97 H
   refine reg ?_; refine qm F fun a F => ?_; refine qv F (r_neq F rfl rfl) fun a F => ?_; refine qm F fun a F => ?_
   by_cases hb112 : t89.2.2 = 0
   ·replace H := ip hb112 H; refine qy F (congrArg not (dt hb112)) ?_; refine qm F fun a F => ?_; refine qy F (congrArg not (dt hb112)) ?_; refine qv F (r_neq F rfl rfl) fun a F => ?_; refine qv F (r_pick_f F rfl (congrArg not (dt hb112)) rfl) fun a F => ?_; refine qm F fun a F => ?_
    by_cases hb113 : t100.2.2 = 0
    ·replace H := ip hb113 H; refine qy F (congrArg not (dt hb113)) ?_
     as_aux_lemma =>
     refine qm F fun a F => ?_; refine qy F (congrArg not (dt hb113)) ?_; refine qm F fun a F => ?_; refine qy F (congrArg not (dt hb113)) ?_; refine qv F (r_neq F rfl rfl) fun a F => ?_; refine qv F (r_pick_f F rfl (congrArg not (dt hb113)) rfl) fun a F => ?_; refine qm F fun a F => ?_
     by_cases hb114 : t89.2.1 = t100.2.1
     ·replace H := ip hb114 H; refine qy F (congrArg not (dt hb114)) ?_; refine qm F fun a F => ?_; refine qy F (congrArg not (dt hb114)) ?_; refine qv F (r_lensl F Try.underlying59 rfl) fun a F => ?_; refine qy F (congrArg not (dt hb114)) ?_; refine qm F fun a F => ?_; refine qy F (congrArg not (dt hb114)) ?_; refine qv F (r_lensl F Try.underlying59 rfl) fun a F => ?_; refine qy F (congrArg not (dt hb114)) ?_; refine qv F (r_neq F rfl rfl) fun a F => ?_; refine qv F (r_pick_f F rfl (congrArg not (dt hb114)) rfl) fun a F => ?_; refine qm F fun a F => ?_
      by_cases hb115 : (t89.1.length : Int) = (t100.1.length : Int)
      ·replace H := ip hb115 H; refine qy F (congrArg not (dt hb115)) ?_
       as_aux_lemma =>
       refine qm F fun a F => ?_; refine qy F (congrArg not (dt hb115)) ?_; refine qv F (r_lensl F Try.underlying59 rfl) fun a F => ?_; refine qy F (congrArg not (dt hb115)) ?_; refine qv F (r_eql F rfl rfl) fun a F => ?_; refine qy F (congrArg not (dt hb115)) ?_; refine qm F fun a F => ?_
       by_cases hb116 : (t89.1.length : Int) = 0
       ·replace H := ip hb116 H; refine qy F (dt hb116) ?_; refine qm F fun a F => ?_; obtain ⟨t117, q118, H⟩ := bind_some H; refine qy F (dt hb116) ?_; refine qc F Try.func12 (merkle_Tree_Root.calls (m := m + 7) (pl hm0) B h38 lm ⟨lm, mm⟩ _ q118) ?_; rintro e w120 ⟨c119, rfl, E121, B⟩; refine rt fun a F => ?_; replace h38 := h38.ev E121; replace h41 := h41.ev E121; replace h74 := h74.ev E121; replace h77 := h77.ev E121; replace h97 := h97.ev E121; replace h108 := h108.ev E121; replace E := E.n E121
        as_aux_lemma =>
        refine qy F (dt hb116) ?_; refine qm F fun a F => ?_; obtain ⟨t124, q125, H⟩ := bind_some H; refine qy F (dt hb116) ?_; refine qc F Try.func12 (merkle_Tree_Root.calls (m := m + 7) (pl hm0) B h74 lm ⟨lm, mm⟩ _ q125) ?_; rintro e w127 ⟨c126, rfl, E128, B⟩; refine rt fun a F => ?_; replace h38 := h38.ev E128; replace h41 := h41.ev E128; replace h74 := h74.ev E128; replace h77 := h77.ev E128; replace h97 := h97.ev E128; replace h108 := h108.ev E128; replace E := E.n E128; refine qy F (dt hb116) ?_; refine qv F (r_neq F rfl rfl) fun a F => ?_; refine qy F (congrArg not (dt hb115)) ?_; refine qv F (r_pick_t F rfl (dt hb116) rfl) fun a F => ?_; refine qv F (r_pick_f F rfl (congrArg not (dt hb115)) rfl) fun a F => ?_; refine nil ?_; exact J132 c126 w127 a (!decide (t117 = t124)) (F.sub ⟨rfl, rfl, rfl, rfl, rfl, rfl, rfl, rfl, rfl, trivial⟩) E B h38 h41 h74 h77 h97 h108 H
       replace H := im hb116 H
       as_aux_lemma =>
       refine qn F (dz hb116) fun a F => qn F (dz hb116) fun a F => qn F (dz hb116) fun a F => qn F (dz hb116) fun a F => qn F (dz hb116) fun a F => ?_; refine qy F (congrArg not (dt hb115)) ?_; refine qv F (r_pick_f F rfl (dz hb116) rfl) fun a F => ?_; refine qv F (r_pick_f F rfl (congrArg not (dt hb115)) rfl) fun a F => ?_; refine nil ?_; exact J132 c102 w103 a false (F.sub ⟨rfl, rfl, rfl, rfl, rfl, rfl, rfl, rfl, rfl, trivial⟩) E B h38 h41 h74 h77 h97 h108 H
      replace H := im hb115 H; refine qn F (congrArg not (dz hb115)) fun a F => qn F (congrArg not (dz hb115)) fun a F => qn F (congrArg not (dz hb115)) fun a F => qn F (congrArg not (dz hb115)) fun a F => ?_; refine q_nu F rfl (by decide) rfl (by decide) fun a F => ?_; refine q_nu F rfl (by decide) rfl (by decide) fun a F => ?_; refine q_nu F rfl (by decide) rfl (by decide) fun a F => ?_; refine q_nu F rfl (by decide) rfl (by decide) fun a F => ?_; refine q_nu F rfl (by decide) rfl (by decide) fun a F => ?_; refine qn F (congrArg not (dz hb115)) fun a F => ?_; refine qv F (r_pick_t F rfl (congrArg not (dz hb115)) rfl) fun a F => ?_; refine nil ?_; exact J132 c102 w103 a true (F.sub ⟨rfl, rfl, rfl, rfl, rfl, rfl, rfl, rfl, rfl, trivial⟩) E B h38 h41 h74 h77 h97 h108 H
     replace H := im hb114 H; refine qn F (congrArg not (dz hb114)) fun a F => qn F (congrArg not (dz hb114)) fun a F => qn F (congrArg not (dz hb114)) fun a F => qn F (congrArg not (dz hb114)) fun a F => qn F (congrArg not (dz hb114)) fun a F => ?_; refine qv F (r_pick_t F rfl (congrArg not (dz hb114)) rfl) fun a F => ?_; refine qm F fun a F => qn F rfl fun a F => qn F rfl fun a F => qn F rfl fun a F => qn F rfl fun a F => ?_; refine q_nu F rfl (by decide) rfl (by decide) fun a F => ?_
     as_aux_lemma =>
     refine q_nu F rfl (by decide) rfl (by decide) fun a F => ?_; refine q_nu F rfl (by decide) rfl (by decide) fun a F => ?_; refine q_nu F rfl (by decide) rfl (by decide) fun a F => ?_; refine q_nu F rfl (by decide) rfl (by decide) fun a F => ?_; refine qn F rfl fun a F => ?_; refine qt F fun a F => ?_; refine nil ?_; exact J132 c102 w103 a true (F.sub ⟨rfl, rfl, rfl, rfl, rfl, rfl, rfl, rfl, rfl, trivial⟩) E B h38 h41 h74 h77 h97 h108 H
    replace H := im hb113 H; refine qn F (congrArg not (dz hb113)) fun a F => qn F (congrArg not (dz hb113)) fun a F => qn F (congrArg not (dz hb113)) fun a F => ?_; refine qv F (r_pick_t F rfl (congrArg not (dz hb113)) rfl) fun a F => ?_; refine qm F fun a F => qn F rfl fun a F => qn F rfl fun a F => qn F rfl fun a F => qn F rfl fun a F => qn F rfl fun a F => ?_; refine qt F fun a F => ?_; refine qm F fun a F => qn F rfl fun a F => qn F rfl fun a F => qn F rfl fun a F => qn F rfl fun a F => ?_; refine q_nu F rfl (by decide) rfl (by decide) fun a F => ?_; refine q_nu F rfl (by decide) rfl (by decide) fun a F => ?_; refine q_nu F rfl (by decide) rfl (by decide) fun a F => ?_; refine q_nu F rfl (by decide) rfl (by decide) fun a F => ?_; refine q_nu F rfl (by decide) rfl (by decide) fun a F => ?_; refine qn F rfl fun a F => ?_; refine qt F fun a F => ?_; refine nil ?_; exact J132 c102 w103 a true (F.sub ⟨rfl, rfl, rfl, rfl, rfl, rfl, rfl, rfl, rfl, trivial⟩) E B h38 h41 h74 h77 h97 h108 H
   as_aux_lemma =>
   replace H := im hb112 H; refine qn F (congrArg not (dz hb112)) fun a F => qn F (congrArg not (dz hb112)) fun a F => ?_; refine qv F (r_pick_t F rfl (congrArg not (dz hb112)) rfl) fun a F => ?_; refine qm F fun a F => qn F rfl fun a F => qn F rfl fun a F => qn F rfl fun a F => ?_; refine qt F fun a F => ?_; refine qm F fun a F => qn F rfl fun a F => qn F rfl fun a F => qn F rfl fun a F => qn F rfl fun a F => qn F rfl fun a F => ?_; refine qt F fun a F => ?_; refine qm F fun a F => qn F rfl fun a F => qn F rfl fun a F => qn F rfl fun a F => qn F rfl fun a F => ?_; refine q_nu F rfl (by decide) rfl (by decide) fun a F => ?_; refine q_nu F rfl (by decide) rfl (by decide) fun a F => ?_; refine q_nu F rfl (by decide) rfl (by decide) fun a F => ?_; refine q_nu F rfl (by decide) rfl (by decide) fun a F => ?_; refine q_nu F rfl (by decide) rfl (by decide) fun a F => ?_; refine qn F rfl fun a F => ?_; refine qt F fun a F => ?_; refine nil ?_; exact J132 c102 w103 a true (F.sub ⟨rfl, rfl, rfl, rfl, rfl, rfl, rfl, rfl, rfl, trivial⟩) E B h38 h41 h74 h77 h97 h108 H
  refine reg ?_; refine qm F fun a F => ?_; refine qv F (r_peqlA F Try.underlying26 rfl rfl (ME.isNone h38)) fun a F => ?_; refine qm F fun a F => ?_
  by_cases hb81 : (Option.isNone t31.1) = true
  ·replace H := ip hb81 H
   as_aux_lemma =>
   refine qn F hb81 fun a F => qn F hb81 fun a F => ?_; refine qv F (r_pick_t F rfl hb81 rfl) fun a F => ?_; refine nil ?_; exact J83 c69 w70 a true (F.sub ⟨rfl, rfl, rfl, rfl, rfl, rfl, trivial⟩) E B h38 h41 h74 h77 H
  replace H := im hb81 H; refine qy F (bfalse hb81) ?_; refine qm F fun a F => ?_; refine qy F (bfalse hb81) ?_; refine qv F (r_peqlA F Try.underlying26 rfl rfl (ME.isNone h74)) fun a F => ?_; refine qv F (r_pick_f F rfl (bfalse hb81) rfl) fun a F => ?_; refine nil ?_; exact J83 c69 w70 a (Option.isNone t67.1) (F.sub ⟨rfl, rfl, rfl, rfl, rfl, rfl, trivial⟩) E B h38 h41 h74 h77 H
 replace H := im hb20 H; refine wct (fb F (congrArg not (bfalse hb20))) ?_; refine sr fun K21 hK21 => qa F fun a F => nil (hK21 _ _ ?_); refine wp_ret ?_; refine thenR ?_; obtain rfl := si H; refine out1 F rfl rfl ?_; exact ⟨cf (ct m) c15, rfl, E.lv B0, cfb⟩
end Go.Proofs.Ytdnaoecfnjalgaa.G
namespace Go.Proofs.Ytdnaoecfnjalgaa.G
open Go Go.ChangeShapes Go.WideShapes
set_option linter.unusedVariables false
set_option linter.unusedSimpArgs false
theorem bulk_one {H : Type} (d : DataW H) : 1 ≤ Rows.uptoBulk d := by
 cases d with
 | lit l => cases l <;> simp [Rows.uptoBulk]
 | nil => simp [Rows.uptoBulk]
 | ptr d => simp [Rows.uptoBulk]
 | slice elems spare => simp [Rows.uptoBulk]
 | agg parts => simp [Rows.uptoBulk]
 | iface t d => simp [Rows.uptoBulk]
 | map entries => simp [Rows.uptoBulk]
 | held h => simp [Rows.uptoBulk]
theorem bulk_slice {H : Type} (elems spare : List (DataW H)) : Rows.uptoBulkAll elems + 1 ≤ Rows.uptoBulk (.slice elems spare) := by
 simp only [Rows.uptoBulk]
 omega
theorem bulk_agg {H : Type} (parts : List (DataW H)) : Rows.uptoBulkAll parts + 1 ≤ Rows.uptoBulk (.agg parts) := by
 simp only [Rows.uptoBulk]
 omega
theorem bulk_all {H : Type} : ∀ l : List (DataW H), Rows.uptoBulkAll l = (l.map Rows.uptoBulk).sum
 | [] => by simp [Rows.uptoBulkAll]
 | d :: l => by simp [Rows.uptoBulkAll, bulk_all l]
def c0 : Nat → Nat := fun _ => 0
def Opens {α : Type} (P : Program) (w : World) (t : TypeId) (e : K α) (wt : α → Nat) (ok : α → Prop) : Prop :=
 ∀ (H : Type) (enc : TypeId × Value → H) (fuel : Nat) (cs : List Value) (x : DataW H × List MemPlace), DataW.trod enc P w 0 (fun _ => true) true fuel t cs = some x → ∃ y, e.rep 0 c0 w cs y ∧ wt y ≤ Rows.uptoBulk x.1 ∧ ok y
section
variable {α : Type} {P : Program} {w : World} {t u : TypeId} {e : K α} {wt : α → Nat} {ok : α → Prop}
theorem opens_int {k : IntKind} (ht : P.underlying t = some (.int k)) : Opens P w t (Kint k) (fun _ => 1) (fun n => (Lit.int k n).wf = true) := by
 intro H enc fuel cs x h
 obtain ⟨n, rfl, rfl, hw⟩ := DataW.trod_int ht h
 exact ⟨n, rfl, bulk_one _, hw⟩
theorem opens_bool (ht : P.underlying t = some .bool) : Opens P w t Kbool (fun _ => 1) (fun _ => True) := by
 intro H enc fuel cs x h
 obtain ⟨n, rfl, rfl⟩ := DataW.trod_bool ht h
 exact ⟨n, rfl, bulk_one _, trivial⟩
theorem at_cell {p : Addr} {v : Value} (h : w.cell? p = some v) : p = ⟨p.block, p.off, none⟩ ∧ ∃ cur ty fz, w.heap[p.block]? = some (.cells cur ty fz) ∧ cur[p.off]? = some v := by
 obtain ⟨b, off, spot⟩ := p
 simp only [World.cell?] at h
 split at h
 ·rename_i c ty fz hb
  cases spot with
  | some s => simp at h
  | none => exact ⟨rfl, c, ty, fz, hb, by simpa using h⟩
 ·cases h
theorem at_cells {p : Addr} {n : Nat} {cs : List Value} (hn : cs.length = n) (hp : 0 < n) (h : ∀ i, i < n → w.cell? (p.add i) = cs[i]?) : AT false 0 c0 w p cs := by
 have h0 := h 0 hp
 have e0 : p.add 0 = p := by simp [Addr.add]
 rw [e0, List.getElem?_eq_getElem (by omega)] at h0
 obtain ⟨ep, cur, ty, fz, hb, hc⟩ := at_cell h0
 refine ⟨p.block, p.off, cur, ty, fz, ep, hb, rfl, fun k hk => ?_, fun q => by cases q⟩
 have hk' := h k (by omega)
 rw [ep, add_eq] at hk'
 simp only [World.cell?, hb] at hk'
 simpa using hk'
theorem sum_le {β γ : Type} (f : β → Nat) (g : γ → Nat) : ∀ (l : List β) (m : List γ), l.length = m.length → (∀ i (h : i < l.length) (h' : i < m.length), f l[i] ≤ g m[i]) → (l.map f).sum ≤ (m.map g).sum
 | [], [], _, _ => Nat.le_refl _
 | [], _ :: _, h, _ => by simp at h
 | _ :: _, [], h, _ => by simp at h
 | a :: l, b :: m, h, hh => by
  simp only [List.map_cons, List.sum_cons]
  have h0 := hh 0 (by simp) (by simp)
  simp only [List.getElem_cons_zero] at h0
  have := sum_le f g l m (by simpa using h) (fun i h1 h2 => by
   have := hh (i + 1) (by simp; omega) (by simp; omega)
   simpa using this)
  omega
theorem open_sl [Inhabited α] (ht : P.underlying t = some (.slice u)) (hc : P.cellsOf u = e.sz) (hu : Opens P w u e wt ok) {H : Type} {enc : TypeId × Value → H} {fuel : Nat} {cs : List Value} {x : DataW H × List MemPlace}
  (h : DataW.trod enc P w 0 (fun _ => true) true fuel t cs = some x) :
  ∃ A cap xs, cs = [.slice A xs.length cap] ∧ SL false e 0 0 c0 w A cap xs ∧ (xs.map wt).sum + 1 ≤ Rows.uptoBulk x.1 ∧ ∀ y ∈ xs, ok y := by
 rcases Deep.open_slice ht h with ⟨rfl, rfl⟩ | ⟨a, len, cap, m, n, D, Pl, rfl, _, hl, hm, hmm, rfl, hx⟩
 ·exact ⟨none, 0, [], rfl, SL.nil, by simp [Rows.uptoBulk], fun y hy => by cases hy⟩
 simp only [if_true] at hmm
 subst hmm
 have hp := e.pos
 rw [hc] at hx
 have each : ∀ i, i < m → ∃ y : List Value × α, (y.1.length = e.sz ∧ ∀ k, k < e.sz → w.cell? ((a.add (i * e.sz)).add k) = y.1[k]?) ∧ e.rep 0 c0 w y.1 y.2 ∧ wt y.2 ≤ Rows.uptoBulk (D i) ∧ ok y.2 := by
  intro i hi
  obtain ⟨cs', h1, h2⟩ := hx i hi
  obtain ⟨_, g1, g2⟩ := World.cells?_some h1
  obtain ⟨y, g3, g4, g5⟩ := hu H enc n cs' _ h2
  exact ⟨(cs', y), ⟨g1, g2⟩, g3, g4, g5⟩
 obtain ⟨y, hy⟩ := Deep.choose_lt each
 let V : Nat → Value := fun q => (y (q / e.sz)).1.getD (q % e.sz) default
 have hV : ∀ i k, k < e.sz → V (i * e.sz + k) = (y i).1.getD k default := by
  intro i k hk
  show (y ((i * e.sz + k) / e.sz)).1.getD ((i * e.sz + k) % e.sz) default = _
  rw [Nat.mul_comm, Nat.mul_add_div hp, Nat.div_eq_of_lt hk, Nat.add_zero, Nat.mul_add_mod, Nat.mod_eq_of_lt hk]
 let cs := (List.range (m * e.sz)).map V
 have hcs : cs.length = m * e.sz := by simp [cs]
 have hcell : ∀ q, q < m * e.sz → w.cell? (a.add q) = cs[q]? := by
  intro q hq
  have hi : q / e.sz < m := (Nat.div_lt_iff_lt_mul hp).2 hq
  have hk : q % e.sz < e.sz := Nat.mod_lt _ hp
  obtain ⟨⟨g1, g2⟩, _⟩ := hy _ hi
  have g := g2 _ hk
  have e1 : (a.add (q / e.sz * e.sz)).add (q % e.sz) = a.add q := by
   have e2 : q / e.sz * e.sz + q % e.sz = q := Nat.div_add_mod' q e.sz
   obtain ⟨b, off, s⟩ := a
   simp only [Addr.add]
   split <;> split <;> split <;> simp_all <;> omega
  rw [e1] at g
  rw [g]
  simp only [cs, List.getElem?_map, List.getElem?_range hq, Option.map_some]
  show _ = some ((y (q / e.sz)).1.getD (q % e.sz) default)
  rw [List.getD_eq_getElem?_getD, List.getElem?_eq_getElem (by omega)]
  rfl
 refine ⟨some a, m, (List.range len).map fun i => (y i).2, by simp, ⟨cs, by simpa using hl, hm, hcs, ?_, fun n hn => ?_⟩, ?_, ?_⟩
 ·rcases Nat.eq_zero_or_pos (m * e.sz) with q | q
  ·left; exact List.length_eq_zero_iff.1 (by omega)
  ·right; exact ⟨a, rfl, at_cells hcs q hcell⟩
 ·simp only [List.length_map, List.length_range] at hn
  obtain ⟨⟨g1, _⟩, g3, _, _⟩ := hy n (by omega)
  have e1 : (cs.drop (n * e.sz)).take e.sz = (y n).1 := by
   apply List.ext_getElem?
   intro k
   by_cases hk : k < e.sz
   ·have hq : n * e.sz + k < m * e.sz := by
     have : (n + 1) * e.sz ≤ m * e.sz := Nat.mul_le_mul_right _ (by omega)
     rw [Nat.succ_mul] at this; omega
    rw [List.getElem?_take_of_lt hk, List.getElem?_drop]
    simp only [cs, List.getElem?_map, List.getElem?_range hq, Option.map_some]
    rw [hV n k hk, List.getD_eq_getElem?_getD, List.getElem?_eq_getElem (by omega)]
    rfl
   ·rw [List.getElem?_eq_none (by simp; omega), List.getElem?_eq_none (by omega)]
  rw [e1]
  simpa using g3
 ·refine Nat.le_trans (Nat.succ_le_succ ?_) (bulk_slice _ _)
  rw [bulk_all]
  rw [List.map_map, List.map_map]
  have := sum_le (fun i => wt (y i).2) (fun i => Rows.uptoBulk (D i)) (List.range len) (List.range len) rfl (fun i h1 h2 => by
   simp only [List.length_range] at h1
   simp only [List.getElem_range]
   exact (hy i (by omega)).2.2.1)
  exact this
 ·intro z hz
  obtain ⟨i, hi, rfl⟩ := List.mem_map.1 hz
  exact (hy i (by have := List.mem_range.1 hi; omega)).2.2.2
theorem opens_slice [Inhabited α] (ht : P.underlying t = some (.slice u)) (hc : P.cellsOf u = e.sz) (hu : Opens P w u e wt ok) : Opens P w t (Kslice e) (fun xs => (xs.map wt).sum + 1) (fun xs => ∀ y ∈ xs, ok y) := by
 intro H enc fuel cs x h
 obtain ⟨A, cap, xs, h1, h2, h3, h4⟩ := open_sl ht hc hu h
 exact ⟨xs, ⟨A, cap, h1, h2⟩, h3, h4⟩
end
end Go.Proofs.Ytdnaoecfnjalgaa.G
namespace Go.Proofs.Ytdnaoecfnjalgaa.G
open Go Go.ChangeShapes Go.WideShapes
set_option linter.unusedVariables false
theorem row_own : ownKnob Try.prog.godebug = none := by kernel_rfl
theorem row_laidOut : laidOutB Try.prog = true := by kernel_rfl
def intok (n : Int) : Prop := (Lit.int .i64 n).wf = true
theorem intok.range {n : Int} (h : intok n) : -9223372036854775808 ≤ n ∧ n ≤ 9223372036854775807 := by simpa [intok, Lit.wf, IntKind.min, IntKind.max, IntKind.signed, IntKind.bits] using h
def byteok (n : Int) : Prop := (Lit.int .u8 n).wf = true
def bytesok (xs : List Int) : Prop := ∀ n ∈ xs, byteok n
theorem byteok.range {n : Int} (h : byteok n) : 0 ≤ n ∧ n ≤ 255 := by simpa [byteok, Lit.wf, IntKind.min, IntKind.max, IntKind.signed, IntKind.bits] using h
theorem sum_one {α : Type} (xs : List α) : (xs.map fun _ => 1).sum = xs.length := by
 induction xs with
 | nil => rfl
 | cons x xs ih => simp [ih]; omega
theorem mem_sum {α : Type} (f : α → Nat) : ∀ {xs : List α} {x : α}, x ∈ xs → f x ≤ (xs.map f).sum
 | y :: xs, x, h => by
  rcases List.mem_cons.1 h with e | h
  ·subst e; simp
  ·have := mem_sum f h; simp only [List.map_cons, List.sum_cons]; omega
theorem len_sum {α : Type} (f : α → Nat) (hf : ∀ x, 1 ≤ f x) : ∀ xs : List α, xs.length ≤ (xs.map f).sum
 | [] => Nat.le_refl _
 | x :: xs => by have := len_sum f hf xs; have := hf x; simp only [List.map_cons, List.sum_cons, List.length_cons]; omega
theorem cells_3 : Try.prog.cellsOf 3 = 1 := by kernel_rfl
theorem cells_4 : Try.prog.cellsOf 4 = 1 := by kernel_rfl
theorem cells_5 : Try.prog.cellsOf 5 = 1 := by kernel_rfl
theorem cells_23 : Try.prog.cellsOf 23 = 1 := by kernel_rfl
theorem cells_36 : Try.prog.cellsOf 36 = 3 := by kernel_rfl
theorem cells_69 : Try.prog.cellsOf 69 = 4 := by kernel_rfl
theorem opens_bytes {w : World} : Opens Try.prog w 23 (Kslice (Kint .u8)) (fun xs => xs.length + 1) bytesok := by
 intro H enc fuel cs x h
 obtain ⟨y, h1, h2, h3⟩ := opens_slice (e := Kint .u8) Try.underlying23 cells_5 (opens_int Try.underlying5) H enc fuel cs x h
 have h2' : (y.map fun _ => 1).sum + 1 ≤ Rows.uptoBulk x.1 := h2
 rw [sum_one] at h2'
 exact ⟨y, h1, h2', h3⟩
abbrev wt_api_Row (o : api_Row) : Nat := o.Key.length + o.Value.length + 1
def ok_api_Row (o : api_Row) : Prop := bytesok o.Key ∧ bytesok o.Value ∧ intok o.Rev
set_option maxRecDepth 100000 in
theorem opens_api_Row {w : World} : Opens Try.prog w 36 K_api_Row wt_api_Row ok_api_Row := by
 intro H enc fuel cs x h
 obtain ⟨xs, n, rfl, rfl, hl, hxl, hf⟩ := DataW.trod_struct Try.underlying36 h
 rw [cells_36] at hl
 match cs, hl with
 | [v0, v1, v2], _ =>
  match xs, hxl with
  | [x0, x1, x2], _ =>
   have g0 : DataW.trod enc Try.prog w 0 (fun _ => true) true n 23 (([v0, v1, v2].drop 0).take (Try.prog.cellsOf 23)) = some x0 := hf 0 _ rfl
   rw [cells_23] at g0
   replace g0 : DataW.trod enc Try.prog w 0 (fun _ => true) true n 23 [v0] = some x0 := g0
   obtain ⟨y0, ⟨A0, C0, e0, s0⟩, b0, k0⟩ := opens_bytes (w := w) H enc n _ _ g0
   have g1 : DataW.trod enc Try.prog w 0 (fun _ => true) true n 23 (([v0, v1, v2].drop 1).take (Try.prog.cellsOf 23)) = some x1 := hf 1 _ rfl
   rw [cells_23] at g1
   replace g1 : DataW.trod enc Try.prog w 0 (fun _ => true) true n 23 [v1] = some x1 := g1
   obtain ⟨y1, ⟨A1, C1, e1, s1⟩, b1, k1⟩ := opens_bytes (w := w) H enc n _ _ g1
   have g2 : DataW.trod enc Try.prog w 0 (fun _ => true) true n 3 (([v0, v1, v2].drop 2).take (Try.prog.cellsOf 3)) = some x2 := hf 2 _ rfl
   rw [cells_3] at g2
   replace g2 : DataW.trod enc Try.prog w 0 (fun _ => true) true n 3 [v2] = some x2 := g2
   obtain ⟨y2, r2, -, k2⟩ := opens_int (w := w) Try.underlying3 H enc n _ _ g2
   obtain rfl := List.head_eq_of_cons_eq e0
   obtain rfl := List.head_eq_of_cons_eq e1
   obtain rfl : v2 = .int .i64 y2 := List.head_eq_of_cons_eq r2
   refine ⟨⟨y0, y1, y2⟩, ⟨A0, C0, A1, C1, rfl, s0, s1⟩, ?_, ⟨k0, k1, k2⟩⟩
   refine Nat.le_trans ?_ (bulk_agg _)
   simp only [List.map_cons, List.map_nil, Rows.uptoBulkAll]
   have q0 : y0.length + 1 ≤ Rows.uptoBulk x0.1 := b0
   have q1 : y1.length + 1 ≤ Rows.uptoBulk x1.1 := b1
   have q2 := bulk_one x2.1
   show y0.length + y1.length + 1 ≤ _
   omega
abbrev wt_haulagelaw10_Change (o : haulagelaw10_Change) : Nat := wt_api_Row o.Row + 1
def ok_haulagelaw10_Change (o : haulagelaw10_Change) : Prop := ok_api_Row o.Row
set_option maxRecDepth 100000 in
theorem opens_haulagelaw10_Change {w : World} : Opens Try.prog w 69 K_haulagelaw10_Change wt_haulagelaw10_Change ok_haulagelaw10_Change := by
 intro H enc fuel cs x h
 obtain ⟨xs, n, rfl, rfl, hl, hxl, hf⟩ := DataW.trod_struct Try.underlying69 h
 rw [cells_69] at hl
 match cs, hl with
 | [v0, v1, v2, v3], _ =>
  match xs, hxl with
  | [x0, x1], _ =>
   have g0 : DataW.trod enc Try.prog w 0 (fun _ => true) true n 36 (([v0, v1, v2, v3].drop 0).take (Try.prog.cellsOf 36)) = some x0 := hf 0 _ rfl
   rw [cells_36] at g0
   replace g0 : DataW.trod enc Try.prog w 0 (fun _ => true) true n 36 [v0, v1, v2] = some x0 := g0
   obtain ⟨y0, ⟨m0_0, m0_1, m0_2, m0_3, e0, s0_0, s0_1⟩, b0, k0⟩ := opens_api_Row (w := w) H enc n _ _ g0
   have g1 : DataW.trod enc Try.prog w 0 (fun _ => true) true n 4 (([v0, v1, v2, v3].drop 3).take (Try.prog.cellsOf 4)) = some x1 := hf 1 _ rfl
   rw [cells_4] at g1
   replace g1 : DataW.trod enc Try.prog w 0 (fun _ => true) true n 4 [v3] = some x1 := g1
   obtain ⟨y1, r1, -, -⟩ := opens_bool (w := w) Try.underlying4 H enc n _ _ g1
   simp only [List.cons.injEq, and_true] at e0
   obtain ⟨rfl, rfl, rfl⟩ := e0
   obtain rfl : v3 = .bool y1 := List.head_eq_of_cons_eq r1
   refine ⟨⟨y0, y1⟩, ⟨m0_0, m0_1, m0_2, m0_3, rfl, s0_0, s0_1⟩, ?_, k0⟩
   refine Nat.le_trans ?_ (bulk_agg _)
   simp only [List.map_cons, List.map_nil, Rows.uptoBulkAll]
   have q0 : wt_api_Row y0 ≤ Rows.uptoBulk x0.1 := b0
   have q1 := bulk_one x1.1
   show wt_api_Row y0 + 1 ≤ _
   omega
theorem wt_haulagelaw10_Change_pos (o : haulagelaw10_Change) : 1 ≤ wt_haulagelaw10_Change o := by unfold wt_haulagelaw10_Change; omega
theorem arg_changes {H : Type} {enc : TypeId × Value → H} {w : World} {v : Value} {d : DataW H} {p : List MemPlace} (hv : ∃ a len cap, v = .slice a len cap) (h : DataW.Trod enc Try.prog w 0 (fun _ => true) true 22 v d p) :
  ∃ A C xs, v = .slice A xs.length C ∧ SL false K_haulagelaw10_Change 0 0 c0 w A C xs ∧ (xs.map wt_haulagelaw10_Change).sum + 1 ≤ Rows.uptoBulk d ∧ ∀ o ∈ xs, ok_haulagelaw10_Change o := by
 obtain ⟨a, len, cap, rfl⟩ := hv
 obtain ⟨fuel, hf⟩ := h
 obtain ⟨A, C, xs, e, h1, h2, h3⟩ := open_sl (e := K_haulagelaw10_Change) Try.underlying22 cells_69 opens_haulagelaw10_Change hf
 refine ⟨A, C, xs, ?_, h1, h2, h3⟩
 have e' : [Value.slice a len cap] = [.slice A xs.length C] := e
 exact List.head_eq_of_cons_eq e'
end Go.Proofs.Ytdnaoecfnjalgaa.G
namespace Go.Proofs.Ytdnaoecfnjalgaa.G
open Go
set_option linter.unusedVariables false
set_option linter.unusedSimpArgs false
theorem nmF_small : ∀ (f j n : Nat), n < 128 ^ (j + 1) → nmF f n ≤ j
 | 0, _, _, _ => Nat.zero_le _
 | f + 1, 0, n, h => by
  have : n < 128 := by simpa using h
  unfold nmF
  rw [if_pos (by omega)]
  exact Nat.le_refl _
 | f + 1, j + 1, n, h => by
  unfold nmF
  split
  ·omega
  ·have h2 : n / 128 < 128 ^ (j + 1) := by rw [Nat.pow_succ] at h; omega
   have := nmF_small f j (n / 128) h2
   omega
def fx (n : Nat) : List Int := fmP 10 n ++ [IntKind.u8.wrap (fmL 10 n)]
theorem fx_len (n : Nat) : (fx n).length = nmF 10 n + 1 := by unfold fx; rw [List.length_append, fmP_len]; rfl
theorem form_fx {k n : Nat} (hk : Fuel k) (hn : n < 18446744073709551616) : parcel_form.f k (n : Int) = some (fx n) := by
 have h24 : 1099511627776 ≤ k := hk
 have := nmF_le 10 n
 unfold parcel_form.f
 rw [if_pos (by decide), bind_eq (form_loop 10 n k _ (by omega) (by omega) (by simp))]
 unfold parcel_form.j2
 simp only [Int.toNat_zero, List.replicate_zero, List.nil_append]
 rw [if_pos (by rw [fmP_len]; simp; omega)]
 rfl
theorem Byte_eq {room : Int} {b : List Int} {x : Int} (h0 : 0 ≤ x) (h1 : x ≤ 255) (h2 : ((b.length + 1 : Nat) : Int) ≤ room) (h3 : room ≤ 1000000000000) : parcel_Writer_Byte.f (W room b) x = some (W room (b ++ [IntKind.u8.wrap x])) := by
 unfold parcel_Writer_Byte.f parcel_Writer_Byte.j1
 rw [if_neg (by omega), decide_eq_false (by omega), if_neg (by simp), bind_eq (lay_eq (by simpa using h2) h3)]
theorem Text_fx {k : Nat} (hk : Fuel k) {room : Int} {b a : List Int} (h1 : ((b.length + (fx a.length).length + a.length : Nat) : Int) ≤ room) (h2 : room ≤ 1000000000000) :
  parcel_Writer_Text.f k (W room b) a = some (W room (b ++ (fx a.length ++ a))) := by
 have hl := fx_len a.length
 have hn := nmF_le 10 a.length
 have e : ((b.length + (fx a.length ++ a).length : Nat) : Int) ≤ room := by rw [List.length_append]; omega
 unfold parcel_Writer_Text.f
 rw [wru (by omega) (by omega), bind_eq (form_fx hk (by omega)), bind_eq (concat_eq hk (by omega)), bind_eq (lay_eq e h2)]
def zz (x : Int) : Nat := (bxor .u64 (shl .u64 (IntKind.u64.wrap x) 1) (IntKind.u64.wrap (shr .i64 x 63))).toNat
theorem zz_eq (x : Int) : bxor .u64 (shl .u64 (IntKind.u64.wrap x) 1) (IntKind.u64.wrap (shr .i64 x 63)) = (zz x : Int) ∧ zz x < 18446744073709551616 := by
 obtain ⟨n, e, hn⟩ := u64_range (BitVec.ofInt 64 (shl .u64 (IntKind.u64.wrap x) 1) ^^^ BitVec.ofInt 64 (IntKind.u64.wrap (shr .i64 x 63))).toNat
 have e2 : bxor .u64 (shl .u64 (IntKind.u64.wrap x) 1) (IntKind.u64.wrap (shr .i64 x 63)) = (n : Int) := e
 unfold zz
 rw [e2]
 exact ⟨by simp, by simpa using hn⟩
theorem Int_eq {k : Nat} (hk : Fuel k) {room : Int} {b : List Int} (x : Int) (h1 : ((b.length + (fx (zz x)).length : Nat) : Int) ≤ room) (h2 : room ≤ 1000000000000) : parcel_Writer_Int.f k (W room b) x = some (W room (b ++ fx (zz x))) := by
 obtain ⟨e, h⟩ := zz_eq x
 unfold parcel_Writer_Int.f parcel_Writer_Num.f
 rw [e, bind_eq (form_fx hk h), bind_eq (lay_eq h1 h2)]
 rfl
def fnS (h b : Int) : Int := IntKind.u64.wrap ((bxor .u64 h (IntKind.u64.wrap b)) * 1099511628211)
def FN (l : List Int) : Int := l.foldl fnS 14695981039346656037
theorem fnS_range (h b : Int) : 0 ≤ fnS h b ∧ fnS h b < 18446744073709551616 := by
 obtain ⟨n, e, hn⟩ := u64_range ((bxor .u64 h (IntKind.u64.wrap b)) * 1099511628211)
 unfold fnS
 rw [e]; omega
theorem FN_range (l : List Int) : 0 ≤ FN l ∧ FN l < 18446744073709551616 := by
 have key : ∀ (l : List Int) (h : Int), 0 ≤ h ∧ h < 18446744073709551616 → 0 ≤ l.foldl fnS h ∧ l.foldl fnS h < 18446744073709551616 := by
  intro l
  induction l with
  | nil => intro h hh; exact hh
  | cons b l ih => intro h hh; exact ih _ (fnS_range h b)
 exact key l _ (by omega)
theorem fnv_eq {k : Nat} (hk : Fuel k) (p : List Int) (hp : p.length ≤ 1000000000) : seal_FNV.f k [p] = some (FN p) := by
 have h24 : 1099511627776 ≤ k := hk
 unfold seal_FNV.f
 have L := loop_inv (f := fun (s_ : Int × Int) => seal_FNV.b3 k [p] s_.1 s_.2) (I := fun i s => s.2 = (i : Int) ∧ s.1 = if i = 0 then 14695981039346656037 else FN p) (P := fun x => x = FN p) (N := 1) ?_ ?_ 1 0 (14695981039346656037, 0) k ⟨rfl, rfl⟩ rfl (by omega)
 ·obtain ⟨x, e, rfl⟩ := L
  rw [bind_eq e]; rfl
 ·rintro i ⟨h, j⟩ hi ⟨hj, hh⟩
  left
  simp only at hj hh; subst hj
  obtain rfl : i = 0 := by omega
  rw [if_pos rfl] at hh
  subst hh
  have e0 : rd [p] ((0 : Nat) : Int) = p := rfl
  have M := loop_inv (f := fun (s_ : Int × Int) => seal_FNV.b1 [p] ((0 : Nat) : Int) s_.1 s_.2) (I := fun i s => s.2 = (i : Int) ∧ s.1 = (p.take i).foldl fnS 14695981039346656037) (P := fun x => x = FN p) (N := p.length) ?_ ?_ p.length 0 (14695981039346656037, 0) k ⟨rfl, rfl⟩ (by omega) (by omega)
  ·obtain ⟨x, e, rfl⟩ := M
   simp only [seal_FNV.b3]
   rw [if_pos (by simp), if_pos (by simp), bind_eq e]
   exact ⟨_, rfl, rfl, rfl⟩
  ·rintro i ⟨h, j⟩ hi ⟨hj, hh⟩
   left
   simp only at hj hh; subst hj
   simp only [seal_FNV.b1]
   rw [e0, if_pos (by omega), if_pos (by omega), wrS i (by omega), rd_eq hi]
   refine ⟨_, rfl, rfl, ?_⟩
   rw [take_one hi, List.foldl_append, ← hh]; rfl
  ·rintro ⟨h, j⟩ ⟨hj, hh⟩
   simp only at hj hh; subst hj
   simp only [seal_FNV.b1]
   rw [e0, if_neg (by omega)]
   rw [List.take_length] at hh
   exact ⟨_, rfl, hh⟩
 ·rintro ⟨h, j⟩ ⟨hj, hh⟩
  simp only at hj hh; subst hj
  simp only [seal_FNV.b3]
  rw [if_neg (by simp)]
  exact ⟨_, rfl, hh⟩
def mk (bits n : Int) : Int := n % 2 ^ bits.toNat
theorem cut_eq {bits n : Int} (h1 : 1 ≤ bits) (h2 : bits ≤ 64) (h0 : 0 ≤ n) (hn : n < 18446744073709551616) : shr .u64 (shl .u64 n (IntKind.i64.wrap (64 - bits))) (IntKind.i64.wrap (64 - bits)) = mk bits n := by
 obtain ⟨n, rfl⟩ := Int.eq_ofNat_of_zero_le h0
 obtain ⟨s, hs⟩ : ∃ s : Nat, (s : Int) = 64 - bits := ⟨(64 - bits).toNat, by omega⟩
 have hb : bits.toNat = 64 - s := by omega
 rw [wr (by omega) (by omega), ← hs]
 unfold shl shr mk
 have hm : min s 64 = s := by omega
 simp only [Int.toNat_natCast, IntKind.bits, hm, hb]
 have e1 : IntKind.u64.wrap ((n : Int) * 2 ^ s) = ((n * 2 ^ s % 2 ^ 64 : Nat) : Int) := by
  simp only [IntKind.wrap, IntKind.bits, IntKind.signed]
  simp
 rw [e1]
 have e2 : (2 : Int) ^ s = ((2 ^ s : Nat) : Int) := by simp
 have e3 : (2 : Int) ^ (64 - s) = ((2 ^ (64 - s) : Nat) : Int) := by simp
 rw [e2, e3, Int.fdiv_eq_ediv_of_nonneg _ (Int.natCast_nonneg _)]
 have hp : 2 ^ 64 = 2 ^ (64 - s) * 2 ^ s := by rw [← Nat.pow_add]; congr 1; omega
 rw [hp, Nat.mul_mod_mul_right]
 rw [← Int.natCast_ediv, Nat.mul_div_cancel _ (Nat.two_pow_pos s), ← Int.natCast_emod]
theorem band_mask {n : Nat} {b : Nat} (hb : b ≤ 63) (hn : n < 18446744073709551616) : band .u64 (n : Int) ((2 ^ b - 1 : Nat) : Int) = ((n % 2 ^ b : Nat) : Int) := by
 have hlt : 2 ^ b < 2 ^ 64 := Nat.pow_lt_pow_right (by decide) (by omega)
 have hp := Nat.two_pow_pos b
 have hmod : n % 2 ^ b < 2 ^ b := Nat.mod_lt _ hp
 have e0 : (18446744073709551616 : Nat) = 2 ^ 64 := by decide
 unfold band
 have e1 : (BitVec.ofInt IntKind.u64.bits (n : Int) &&& BitVec.ofInt IntKind.u64.bits ((2 ^ b - 1 : Nat) : Int)).toNat = n % 2 ^ b := by
  rw [BitVec.toNat_and]
  simp only [BitVec.ofInt_natCast, BitVec.toNat_ofNat, IntKind.bits]
  rw [Nat.mod_eq_of_lt (by omega), Nat.mod_eq_of_lt (by omega), Nat.and_two_pow_sub_one_eq_mod]
 rw [e1]
 simp only [IntKind.wrap, IntKind.bits, IntKind.signed]
 simp
 have h2 : ((n % 2 ^ b : Nat) : Int) < 18446744073709551616 := by omega
 have h3 : ((n % 2 ^ b : Nat) : Int) = (n : Int) % 2 ^ b := by simp
 rw [← h3]
 exact Int.emod_eq_of_lt (by omega) h2
theorem mask_eq {bits n : Int} (h1 : 1 ≤ bits) (h2 : bits ≤ 64) (h0 : 0 ≤ n) (hn : n < 18446744073709551616) : haulagelaw10_mask.f n bits = some (mk bits n) := by
 obtain ⟨n, rfl⟩ := Int.eq_ofNat_of_zero_le h0
 unfold haulagelaw10_mask.f mk
 by_cases c : 64 ≤ bits
 ·obtain rfl : bits = 64 := by omega
  rw [if_pos c, Int.emod_eq_of_lt h0 (by simpa using hn)]
 ·obtain ⟨b, rfl⟩ := Int.eq_ofNat_of_zero_le (show 0 ≤ bits by omega)
  have e1 : IntKind.u64.wrap (b : Int) = b := wru (by omega) (by omega)
  have hb : b ≤ 63 := by omega
  have hlt : 2 ^ b < 2 ^ 64 := Nat.pow_lt_pow_right (by decide) (by omega)
  have hp := Nat.two_pow_pos b
  have e2 : shl .u64 1 (b : Int) = ((2 ^ b : Nat) : Int) := by
   unfold shl
   have hm : min b 64 = b := by omega
   simp only [Int.toNat_natCast, IntKind.bits, hm, Int.one_mul]
   have e3 : (2 : Int) ^ b = ((2 ^ b : Nat) : Int) := by simp
   rw [e3]
   simp only [IntKind.wrap, IntKind.bits, IntKind.signed]
   simp only [Bool.false_eq_true, if_false, false_and, Bool.and_false, Bool.false_and]
   have e0 : (2 : Int) ^ 64 = ((2 ^ 64 : Nat) : Int) := by simp
   first
    | exact Int.emod_eq_of_lt (by omega) (by omega)
    | (simp; exact Int.emod_eq_of_lt (by omega) (by omega))
  have e4 : IntKind.u64.wrap (((2 ^ b : Nat) : Int) - 1) = ((2 ^ b - 1 : Nat) : Int) := by
   have e5 : ((2 ^ b : Nat) : Int) - 1 = ((2 ^ b - 1 : Nat) : Int) := by omega
   have hm : ((2 ^ b : Nat) : Int) < 18446744073709551616 := by
    have : (18446744073709551616 : Nat) = 2 ^ 64 := by decide
    omega
   rw [e5]
   simp only [IntKind.wrap, IntKind.bits, IntKind.signed]
   simp only [Bool.false_eq_true, if_false, false_and, Bool.and_false, Bool.false_and]
   first
    | exact Int.emod_eq_of_lt (by omega) (by omega)
    | (simp; exact Int.emod_eq_of_lt (by omega) (by omega))
  rw [if_neg c, e1, if_pos (by omega), e2, e4, band_mask hb (by omega)]
  simp
def dk (k : Nat) (x : Int) : List Int := (parcel_downuint64.f k (List.replicate 8 (0 : Int)) x).getD []
theorem dk_eq {k : Nat} (hk : Fuel k) (x : Int) : parcel_downuint64.f k (List.replicate 8 (0 : Int)) x = some (dk k x) ∧ (dk k x).length = 8 := by
 obtain ⟨l, e, h⟩ := down_tot hk x
 unfold dk
 rw [e]
 exact ⟨rfl, h⟩
theorem Fixed_eq {k : Nat} (hk : Fuel k) {room : Int} {b : List Int} (x : Int) (h2 : ((b.length + 8 : Nat) : Int) ≤ room) (h3 : room ≤ 1000000000000) : parcel_Writer_Fixed.f k (W room b) x 8 = some (W room (b ++ dk k x)) := by
 obtain ⟨e, h⟩ := dk_eq hk x
 unfold parcel_Writer_Fixed.f parcel_Writer_Fixed.j1
 rw [if_neg (by omega), decide_eq_false (by omega), if_neg (by simp), if_pos (by omega), if_neg (by omega), if_neg (by omega), if_neg (by omega)]
 have e8 : (8 : Int).toNat = 8 := rfl
 rw [e8, bind_eq e, bind_eq (lay_eq (by rw [h]; exact h2) h3)]
def rowB (r : api_Row) : List Int := [IntKind.u8.wrap 1] ++ (fx r.Key.length ++ r.Key) ++ (fx r.Value.length ++ r.Value) ++ fx (zz r.Rev)
def hRow (bits : Int) (r : api_Row) : Int := mk bits (FN (rowB r))
def hPair (k : Nat) (bits a b : Int) : Int := mk bits (FN ([IntKind.u8.wrap 3] ++ dk k a ++ dk k b))
def bkB (k : Nat) (bits : Int) (R : List api_Row) : List Int := [IntKind.u8.wrap 2] ++ R.flatMap fun r => dk k (hRow bits r)
def hBk (k : Nat) (bits : Int) (R : List api_Row) : Int := mk bits (FN (bkB k bits R))
abbrev okb (bits : Int) : Prop := 1 ≤ bits ∧ bits ≤ 64
def RB (r : api_Row) : Prop := r.Key.length ≤ 2097152 ∧ r.Value.length ≤ 2097152 ∧ brange r.Key
theorem cutW {k : Nat} (hk : Fuel k) {bits room : Int} (hb : okb bits) {l : List Int} (hl : l.length ≤ 1000000000) : merkle_cut.f k (W room l) bits = some (mk bits (FN l)) := by
 obtain ⟨h0, h1⟩ := FN_range l
 unfold merkle_cut.f
 rw [bind_eq (done_eq (by omega)), bind_eq (fnv_eq hk l hl), if_pos (by rw [wr (by omega) (by omega)]; omega), if_pos (by rw [wr (by omega) (by omega)]; omega), cut_eq hb.1 hb.2 h0 h1]
theorem row_writes {k : Nat} (hk : Fuel k) {r : api_Row} (h : RB r) {x : Int} (hx : (r.Key.length : Int) + r.Value.length + 31 ≤ x) (hx2 : x ≤ 1000000000000) :
  ∃ w1 w2 w3, parcel_New.f x = some (W x []) ∧ parcel_Writer_Byte.f (W x []) 1 = some w1 ∧ parcel_Writer_Text.f k w1 r.Key = some w2 ∧ parcel_Writer_Text.f k w2 r.Value = some w3 ∧ parcel_Writer_Int.f k w3 r.Rev = some (W x (rowB r)) ∧ (rowB r).length ≤ 1000000000 := by
 obtain ⟨h1, h2, _⟩ := h
 have l1 := fx_len r.Key.length; have l2 := fx_len r.Value.length; have l3 := fx_len (zz r.Rev)
 have n1 := nmF_small 10 3 r.Key.length (by omega)
 have n2 := nmF_small 10 3 r.Value.length (by omega)
 have n3 := nmF_le 10 (zz r.Rev)
 refine ⟨_, _, _, ?_, Byte_eq (by omega) (by omega) (by simp; omega) hx2, Text_fx hk (by simp; omega) hx2, Text_fx hk (by simp; omega) hx2, ?_, ?_⟩
 ·unfold parcel_New.f
  rw [Int.max_eq_left (by omega)]
 ·rw [Int_eq hk r.Rev (by simp; omega) hx2]
  rfl
 ·unfold rowB
  simp only [List.length_append, List.length_singleton]
  omega
theorem ofRow_eq {k : Nat} (hk : Fuel k) {bits : Int} (hb : okb bits) {r : api_Row} (h : RB r) : merkle_ofRow.f k r bits = some (hRow bits r) := by
 have h1 := h.1; have h2 := h.2.1
 have e : IntKind.i64.wrap ((IntKind.i64.wrap ((r.Key.length : Int) + (r.Value.length : Int))) + 31) = (r.Key.length : Int) + r.Value.length + 31 := by
  rw [wr (n := (r.Key.length : Int) + (r.Value.length : Int)) (by omega) (by omega), wr (by omega) (by omega)]
 obtain ⟨w1, w2, w3, e0, e1, e2, e3, e4, hl⟩ := row_writes hk h (x := (r.Key.length : Int) + r.Value.length + 31) (by omega) (by omega)
 unfold merkle_ofRow.f
 rw [e, bind_eq e0, bind_eq e1, bind_eq e2, bind_eq e3, bind_eq e4, bind_eq (cutW hk hb hl)]
 rfl
theorem ofRow_law {k : Nat} (hk : Fuel k) {bits : Int} (hb : okb bits) {r : api_Row} (h : RB r) : haulagelaw10_ofRow.f k r bits = some (hRow bits r) := by
 have h1 := h.1; have h2 := h.2.1
 have e : IntKind.i64.wrap ((IntKind.i64.wrap ((r.Key.length : Int) + (r.Value.length : Int))) + 40) = (r.Key.length : Int) + r.Value.length + 40 := by
  rw [wr (n := (r.Key.length : Int) + (r.Value.length : Int)) (by omega) (by omega), wr (by omega) (by omega)]
 obtain ⟨w1, w2, w3, e0, e1, e2, e3, e4, hl⟩ := row_writes hk h (x := (r.Key.length : Int) + r.Value.length + 40) (by omega) (by omega)
 obtain ⟨g0, g1⟩ := FN_range (rowB r)
 unfold haulagelaw10_ofRow.f
 rw [e, bind_eq e0, bind_eq e1, bind_eq e2, bind_eq e3, bind_eq e4, bind_eq (done_eq (by omega)), bind_eq (fnv_eq hk _ hl), bind_eq (mask_eq hb.1 hb.2 g0 g1)]
 rfl
theorem pair_writes {k : Nat} (hk : Fuel k) (a b : Int) : ∃ w1 w2, parcel_New.f 17 = some (W 17 []) ∧ parcel_Writer_Byte.f (W 17 []) 3 = some w1 ∧ parcel_Writer_Fixed.f k w1 a 8 = some w2 ∧ parcel_Writer_Fixed.f k w2 b 8 = some (W 17 ([IntKind.u8.wrap 3] ++ dk k a ++ dk k b)) ∧ ([IntKind.u8.wrap 3] ++ dk k a ++ dk k b).length ≤ 1000000000 := by
 have l1 := (dk_eq hk a).2; have l2 := (dk_eq hk b).2
 refine ⟨_, _, ?_, Byte_eq (by omega) (by omega) (by simp) (by omega), Fixed_eq hk a (by simp) (by omega), ?_, ?_⟩
 ·unfold parcel_New.f
  rw [Int.max_eq_left (by omega)]
 ·rw [Fixed_eq hk b (by simp [l1]) (by omega)]
  rfl
 ·simp only [List.length_append, List.length_singleton]; omega
theorem ofPair_eq {k : Nat} (hk : Fuel k) {bits : Int} (hb : okb bits) (a b : Int) : merkle_ofPair.f k a b bits = some (hPair k bits a b) := by
 obtain ⟨w1, w2, e0, e1, e2, e3, hl⟩ := pair_writes hk a b
 unfold merkle_ofPair.f
 rw [bind_eq e0, bind_eq e1, bind_eq e2, bind_eq e3, bind_eq (cutW hk hb hl)]
 rfl
theorem flat8 {k : Nat} (hk : Fuel k) (bits : Int) : ∀ R : List api_Row, (R.flatMap fun r => dk k (hRow bits r)).length = 8 * R.length
 | [] => rfl
 | r :: R => by
  rw [List.flatMap_cons, List.length_append, flat8 hk bits R, (dk_eq hk _).2, List.length_cons]; omega
theorem bkB_len {k : Nat} (hk : Fuel k) (bits : Int) (R : List api_Row) : (bkB k bits R).length = 8 * R.length + 1 := by
 unfold bkB
 rw [List.length_append, flat8 hk, List.length_singleton]; omega
abbrev RL (R : List api_Row) : Prop := R.length ≤ 4194304 ∧ ∀ r ∈ R, RB r
theorem ofBucket_eq {k : Nat} (hk : Fuel k) {bits : Int} (hb : okb bits) {R : List api_Row} (hR : RL R) : merkle_ofBucket.f k R bits = some (hBk k bits R) := by
 have h24 : 1099511627776 ≤ k := hk
 obtain ⟨hl, hR⟩ := hR
 have ex : IntKind.i64.wrap (1 + (IntKind.i64.wrap (8 * (R.length : Int)))) = 1 + 8 * (R.length : Int) := by rw [wr (n := 8 * (R.length : Int)) (by omega) (by omega), wr (by omega) (by omega)]
 have e0 : parcel_New.f (1 + 8 * (R.length : Int)) = some (W (1 + 8 * (R.length : Int)) []) := by
  unfold parcel_New.f
  rw [Int.max_eq_left (by omega)]
 unfold merkle_ofBucket.f
 rw [ex, bind_eq e0, bind_eq (Byte_eq (x := 2) (by omega) (by omega) (by simp; omega) (by omega))]
 have L := loop_inv (f := fun (s_ : (Option Wri) × Int) => merkle_ofBucket.b1 k R bits s_.1 s_.2) (I := fun i s => s.1 = W (1 + 8 * (R.length : Int)) (bkB k bits (R.take i)) ∧ s.2 = (i : Int)) (P := fun w => w = W (1 + 8 * (R.length : Int)) (bkB k bits R)) (N := R.length) ?_ ?_ R.length 0 (W (1 + 8 * (R.length : Int)) ([] ++ [IntKind.u8.wrap 2]), 0) k ⟨rfl, rfl⟩ (by omega) (by omega)
 ·obtain ⟨w, e, rfl⟩ := L
  rw [bind_eq e]
  unfold merkle_ofBucket.j2
  rw [bind_eq (cutW (l := bkB k bits R) hk hb (by rw [bkB_len hk]; omega))]
  rfl
 ·rintro i ⟨w, j⟩ hi ⟨hw, hj⟩
  left
  simp only at hj hw; subst hj hw
  have hlen : (R.take i).length = i := by simp; omega
  simp only [merkle_ofBucket.b1]
  rw [if_pos (by omega), if_pos (by omega), rd_eq hi, bind_eq (ofRow_eq hk hb (hR _ (List.getElem_mem hi))), bind_eq (Fixed_eq hk _ (by rw [bkB_len hk, hlen]; omega) (by omega)), wrS i (by omega)]
  refine ⟨_, rfl, ?_, rfl⟩
  simp only [bkB]
  rw [take_one hi, List.flatMap_append, List.append_assoc]
  simp
 ·rintro ⟨w, j⟩ ⟨hw, hj⟩
  simp only at hj hw; subst hj hw
  simp only [merkle_ofBucket.b1]
  rw [if_neg (by omega), List.take_length]
  exact ⟨_, rfl, rfl⟩
def bkt (p : List Int) : Nat := (FN p % 256).toNat
theorem bkt_lt (p : List Int) : bkt p < 256 := by unfold bkt; omega
theorem bucket_eq {k : Nat} (hk : Fuel k) {p : List Int} (hp : p.length ≤ 1000000000) : merkle_bucket.f k p = some (bkt p : Int) := by
 obtain ⟨h0, h1⟩ := FN_range p
 have e : IntKind.u8.wrap (FN p) = (bkt p : Int) := by
  unfold bkt
  simp only [IntKind.wrap, IntKind.bits, IntKind.signed]
  simp
  omega
 have := bkt_lt p
 unfold merkle_bucket.f
 rw [bind_eq (fnv_eq hk p hp), e, wr (by omega) (by omega)]
theorem bucket_law {k : Nat} (hk : Fuel k) {p : List Int} (hp : p.length ≤ 1000000000) : haulagelaw10_bucket.f k p = some (256 + (bkt p : Int)) := by
 obtain ⟨h0, h1⟩ := FN_range p
 obtain ⟨n, hn⟩ := Int.eq_ofNat_of_zero_le h0
 have e : band .u64 (FN p) 255 = (bkt p : Int) := by
  have h2 := band_mask (n := n) (b := 8) (by omega) (by omega)
  rw [hn]
  have e1 : ((2 ^ 8 - 1 : Nat) : Int) = 255 := by decide
  rw [e1] at h2
  rw [h2]
  unfold bkt
  rw [hn]
  omega
 have := bkt_lt p
 unfold haulagelaw10_bucket.f
 rw [bind_eq (fnv_eq hk p hp), e, wr (n := (bkt p : Int)) (by omega) (by omega), wr (by omega) (by omega)]
def Srt (R : List api_Row) : Prop := R.Pairwise fun a b => cm a.Key b.Key = true
def lo (key : List Int) (R : List api_Row) : List api_Row := R.filter fun r => cm r.Key key
def hi (key : List Int) (R : List api_Row) : List api_Row := R.filter fun r => cm key r.Key
def md (key : List Int) (R : List api_Row) : List api_Row := R.filter fun r => decide (r.Key = key)
def putL (r : api_Row) (R : List api_Row) : List api_Row := lo r.Key R ++ r :: hi r.Key R
def delL (key : List Int) (R : List api_Row) : List api_Row := R.filter fun r => !decide (r.Key = key)
theorem filter_none {α : Type} {p : α → Bool} {l : List α} (h : ∀ x ∈ l, p x = false) : l.filter p = [] := by
 rw [List.filter_eq_nil_iff]; intro x hx; rw [h x hx]; exact Bool.false_ne_true
theorem filter_all {α : Type} {p : α → Bool} {l : List α} (h : ∀ x ∈ l, p x = true) : l.filter p = l := List.filter_eq_self.2 h
theorem Srt.split (key : List Int) : ∀ {R : List api_Row}, Srt R → R = lo key R ++ (md key R ++ hi key R) ∧ (md key R = [] ∨ ∃ x, md key R = [x] ∧ x.Key = key)
 | [], _ => ⟨rfl, .inl rfl⟩
 | r :: R, h => by
  have hr : ∀ x ∈ R, cm r.Key x.Key = true := (List.pairwise_cons.1 h).1
  have hR : Srt R := (List.pairwise_cons.1 h).2
  obtain ⟨h1, h2⟩ := Srt.split key hR
  cases c : cm r.Key key with
  | true =>
   have e1 : lo key (r :: R) = r :: lo key R := by simp [lo, c]
   have e2 : md key (r :: R) = md key R := by simp [md, cm_ne c]
   have e3 : hi key (r :: R) = hi key R := by simp [hi, cm_asym c]
   rw [e1, e2, e3]
   exact ⟨by rw [List.cons_append, ← h1], h2⟩
  | false =>
   have e1 : lo key (r :: R) = [] := by
    apply filter_none
    intro x hx
    rcases List.mem_cons.1 hx with rfl | hx
    ·exact c
    ·cases e : cm x.Key key with
     | false => rfl
     | true => have := cm_tr (hr x hx) e; rw [c] at this; cases this
   rw [e1, List.nil_append]
   by_cases e : r.Key = key
   ·have g : ∀ x ∈ R, cm key x.Key = true := fun x hx => e ▸ hr x hx
    have e2 : md key (r :: R) = [r] := by
     unfold md
     rw [List.filter_cons_of_pos (by simpa using e), filter_none]
     intro x hx
     have := cm_ne (g x hx)
     simpa using fun q => this q.symm
    have e3 : hi key (r :: R) = R := by
     unfold hi
     rw [List.filter_cons_of_neg (by rw [e, cm_irr]; exact Bool.false_ne_true), filter_all g]
    rw [e2, e3]
    exact ⟨rfl, .inr ⟨r, rfl, e⟩⟩
   ·have g0 : cm key r.Key = true := by
     cases q : cm key r.Key with
     | true => rfl
     | false => exact absurd (cm_tri c q) e
    have g : ∀ x ∈ r :: R, cm key x.Key = true := by
     intro x hx
     rcases List.mem_cons.1 hx with rfl | hx
     ·exact g0
     ·exact cm_tr g0 (hr x hx)
    have e2 : md key (r :: R) = [] := by
     apply filter_none
     intro x hx
     have := cm_ne (g x hx)
     simpa using fun q => this q.symm
    have e3 : hi key (r :: R) = r :: R := filter_all g
    rw [e2, e3]
    exact ⟨rfl, .inl rfl⟩
theorem lo_mem {key : List Int} {R : List api_Row} {x : api_Row} : x ∈ lo key R ↔ x ∈ R ∧ cm x.Key key = true := by simp [lo]
theorem hi_mem {key : List Int} {R : List api_Row} {x : api_Row} : x ∈ hi key R ↔ x ∈ R ∧ cm key x.Key = true := by simp [hi]
theorem Srt.filter {R : List api_Row} (h : Srt R) (p : api_Row → Bool) : Srt (R.filter p) := List.Pairwise.filter p h
theorem putL_srt {r : api_Row} {R : List api_Row} (h : Srt R) : Srt (putL r R) := by
 unfold putL
 refine List.pairwise_append.2 ⟨h.filter _, List.pairwise_cons.2 ⟨fun x hx => (hi_mem.1 hx).2, h.filter _⟩, fun a ha b hb => ?_⟩
 have h1 := (lo_mem.1 ha).2
 rcases List.mem_cons.1 hb with rfl | hb
 ·exact h1
 ·exact cm_tr h1 (hi_mem.1 hb).2
theorem putL_mem {r x : api_Row} {R : List api_Row} (h : x ∈ putL r R) : x = r ∨ x ∈ R := by
 rcases List.mem_append.1 h with h | h
 ·exact .inr (lo_mem.1 h).1
 ·rcases List.mem_cons.1 h with h | h
  ·exact .inl h
  ·exact .inr (hi_mem.1 h).1
theorem delL_eq {key : List Int} {R : List api_Row} (h : Srt R) : delL key R = lo key R ++ hi key R := by
 obtain ⟨h1, h2⟩ := h.split key
 have e1 : ∀ l : List api_Row, (∀ x ∈ l, x.Key ≠ key) → delL key l = l := fun l hl => filter_all fun x hx => by simpa using hl x hx
 have e2 : ∀ a b : List api_Row, delL key (a ++ b) = delL key a ++ delL key b := fun a b => List.filter_append ..
 have e3 : delL key R = delL key (lo key R ++ (md key R ++ hi key R)) := congrArg _ h1
 rw [e3, e2, e2, e1 _ (fun x hx => cm_ne (lo_mem.1 hx).2), e1 (hi key R) (fun x hx q => cm_ne (hi_mem.1 hx).2 q.symm)]
 congr 1
 have : delL key (md key R) = [] := filter_none fun x hx => by
  have : x.Key = key := by simpa using (List.mem_filter.1 hx).2
  simp [this]
 rw [this, List.nil_append]
theorem lo_len {key : List Int} {R : List api_Row} (h : Srt R) : (lo key R).length + (md key R).length + (hi key R).length = R.length := by
 have := congrArg List.length (h.split key).1
 simp only [List.length_append] at this
 omega
theorem idx_lt {key : List Int} {R : List api_Row} (h : Srt R) {q : Nat} (hq : q < R.length) : cm R[q].Key key = decide (q < (lo key R).length) := by
 obtain ⟨h1, h2⟩ := h.split key
 have e : R[q]? = (lo key R ++ (md key R ++ hi key R))[q]? := congrArg (fun l => l[q]?) h1
 rw [List.getElem?_eq_getElem hq] at e
 by_cases c : q < (lo key R).length
 ·rw [List.getElem?_append_left c, List.getElem?_eq_getElem c] at e
  rw [Option.some.inj e, (lo_mem.1 (List.getElem_mem c)).2, decide_eq_true c]
 ·rw [List.getElem?_append_right (by omega)] at e
  have hm : R[q] ∈ md key R ++ hi key R := List.mem_of_getElem? e.symm
  rw [decide_eq_false c]
  rcases List.mem_append.1 hm with hm | hm
  ·have : R[q].Key = key := by simpa using (List.mem_filter.1 hm).2
   rw [this, cm_irr]
  ·exact cm_asym (hi_mem.1 hm).2
theorem at_lo {key : List Int} {R : List api_Row} (h : Srt R) :
  (md key R = [] ∧ R = lo key R ++ hi key R ∧ ∀ (q : (lo key R).length < R.length), R[(lo key R).length].Key ≠ key) ∨
  (∃ x, md key R = [x] ∧ x.Key = key ∧ R = lo key R ++ x :: hi key R ∧ ∃ (q : (lo key R).length < R.length), R[(lo key R).length] = x) := by
 obtain ⟨h1, h2⟩ := h.split key
 rcases h2 with h2 | ⟨x, h2, hx⟩
 ·refine .inl ⟨h2, by rw [h2, List.nil_append] at h1; exact h1, fun q e => ?_⟩
  have hm : R[(lo key R).length] ∈ md key R := List.mem_filter.2 ⟨List.getElem_mem q, by simpa using e⟩
  rw [h2] at hm; cases hm
 ·rw [h2] at h1
  have hl := congrArg List.length h1
  simp only [List.length_append, List.length_cons, List.length_nil] at hl
  refine .inr ⟨x, h2, hx, h1, by omega, ?_⟩
  have e : R[(lo key R).length]? = (lo key R ++ ([x] ++ hi key R))[(lo key R).length]? := congrArg (fun l => l[(lo key R).length]?) h1
  rw [List.getElem?_eq_getElem (by omega), List.getElem?_append_right (by omega)] at e
  simpa using e
theorem mid_eq {i j : Nat} (h : i + j < 1000000000000) : IntKind.i64.wrap (shr .u64 (IntKind.u64.wrap (IntKind.i64.wrap ((i : Int) + (j : Int)))) 1) = (((i + j) / 2 : Nat) : Int) := by
 rw [wr (n := (i : Int) + (j : Int)) (by omega) (by omega), wru (by omega) (by omega)]
 unfold shr
 have : (2 : Int) ^ (min (1 : Int).toNat IntKind.u64.bits) = 2 := by decide
 rw [this, Int.fdiv_eq_ediv_of_nonneg _ (by omega), wr (by omega) (by omega)]
 omega
theorem search_loop {R : List api_Row} (hl : R.length ≤ 100000000000) (hs : Srt R) (hb : ∀ r ∈ R, brange r.Key) {t : api_Row} (ht : brange t.Key) : ∀ (n i j m : Nat), j - i ≤ n → n < m → i ≤ (lo t.Key R).length → (lo t.Key R).length ≤ j → j ≤ R.length →
  loop (fun (s_ : Int × Int) => slices_BinarySearchFunc.b1 R t s_.1 s_.2) m ((i : Int), (j : Int)) = some ((lo t.Key R).length : Int)
 | _, _, _, 0, _, h, _, _, _ => absurd h (by omega)
 | n, i, j, m + 1, hn, hm, h1, h2, h3 => by
  by_cases c : i < j
  ·obtain ⟨n, rfl⟩ : ∃ n', n = n' + 1 := ⟨n - 1, by omega⟩
   have hq : (i + j) / 2 < R.length := by omega
   have e0 := mid_eq (i := i) (j := j) (by omega)
   have ek := byKey_eq (hb _ (List.getElem_mem hq)) ht
   rw [idx_lt hs hq] at ek
   by_cases d : (i + j) / 2 < (lo t.Key R).length
   ·rw [loop_next (s' := ((((i + j) / 2 + 1 : Nat) : Int), (j : Int)))]
    ·exact search_loop hl hs hb ht n _ j m (by omega) (by omega) (by omega) h2 h3
    ·unfold slices_BinarySearchFunc.b1
     simp only
     rw [if_pos (by omega), e0, if_pos (by omega), rd_eq hq, bind_eq ek, if_pos (by rw [if_pos (by simpa using d)]; omega), wrS _ (by omega)]
   ·rw [loop_next (s' := ((i : Int), (((i + j) / 2 : Nat) : Int)))]
    ·exact search_loop hl hs hb ht n i _ m (by omega) (by omega) h1 (by omega) (by omega)
    ·unfold slices_BinarySearchFunc.b1
     simp only
     rw [if_pos (by omega), e0, if_pos (by omega), rd_eq hq, bind_eq ek, if_neg (by rw [if_neg (by simpa using d)]; split <;> omega)]
  ·have e : i = (lo t.Key R).length := by omega
   refine loop_done ?_
   unfold slices_BinarySearchFunc.b1
   simp only
   rw [if_neg (by omega), e]
def has (key : List Int) (R : List api_Row) : Bool := !(md key R).isEmpty
theorem search_eq {k : Nat} (hk : Fuel k) {R : List api_Row} (hl : R.length ≤ 100000000000) (hs : Srt R) (hb : ∀ r ∈ R, brange r.Key) {t : api_Row} (ht : brange t.Key) : slices_BinarySearchFunc.f k R t = some (((lo t.Key R).length : Int), has t.Key R) := by
 have h24 : 1099511627776 ≤ k := hk
 have hlen := lo_len (key := t.Key) hs
 unfold slices_BinarySearchFunc.f
 rw [show ((0 : Int), (R.length : Int)) = (((0 : Nat) : Int), (R.length : Int)) from rfl, bind_eq (search_loop hl hs hb ht R.length 0 R.length k (by omega) (by omega) (Nat.zero_le _) (by omega) (Nat.le_refl _))]
 unfold slices_BinarySearchFunc.j2 has
 rcases at_lo (key := t.Key) hs with ⟨h1, h2, h3⟩ | ⟨x, h1, hx, h2, q, h3⟩
 ·rw [h1]
  by_cases c : (lo t.Key R).length < R.length
  ·have ek := byKey_eq (hb _ (List.getElem_mem c)) ht
   rw [if_pos (by omega), if_pos (by omega), rd_eq c, bind_eq ek, if_neg (h3 c)]
   split <;> simp
  ·rw [if_neg (by omega)]; rfl
 ·rw [h1]
  have ek := byKey_eq (hb _ (List.getElem_mem q)) ht
  rw [if_pos (by omega), if_pos (by omega), rd_eq q, bind_eq ek, h3, hx, cm_irr]
  simp
theorem rising_eq {k : Nat} (hk : Fuel k) {R : List api_Row} (hl : R.length ≤ 100000000000) (hb : ∀ r ∈ R, brange r.Key) : ∃ b, merkle_rising.f k R = some b ∧ (b = true ↔ Srt R) := by
 have h24 : 1099511627776 ≤ k := hk
 unfold merkle_rising.f
 have L := loop_inv (f := fun (s_ : Int) => merkle_rising.b1 R s_) (I := fun i s => s = ((i + 1 : Nat) : Int) ∧ ∀ q (h : q + 1 < R.length), q < i → cm R[q].Key R[q + 1].Key = true) (P := fun x => (x = .inl () ∧ Srt R) ∨ (x = .inr false ∧ ¬ Srt R)) (N := R.length) ?_ ?_ R.length 0 1 k ⟨rfl, fun q _ h => absurd h (by omega)⟩ (by omega) (by omega)
 ·obtain ⟨x, e, ⟨rfl, h⟩ | ⟨rfl, h⟩⟩ := L
  ·rw [bind_eq e]; exact ⟨true, rfl, by simp [h]⟩
  ·rw [bind_eq e]; exact ⟨false, rfl, by simp [h]⟩
 ·rintro i _ hi ⟨rfl, hq⟩
  simp only [merkle_rising.b1]
  by_cases c : i + 1 < R.length
  ·have ek := byKey_eq (hb _ (List.getElem_mem (show i < R.length by omega))) (hb _ (List.getElem_mem c))
   have e1 : IntKind.i64.wrap (((i + 1 : Nat) : Int) - 1) = ((i : Nat) : Int) := by rw [wr (by omega) (by omega)]; omega
   rw [if_pos (by omega), e1, if_pos (by omega), if_pos (by omega), rd_eq (by omega : i < R.length), rd_eq c, bind_eq ek]
   cases d : cm R[i].Key R[i + 1].Key with
   | true =>
    rw [if_pos rfl, if_neg (by omega), wrS (i + 1) (by omega)]
    refine .inl ⟨_, rfl, rfl, fun q h hqi => ?_⟩
    rcases Nat.lt_or_ge q i with g | g
    ·exact hq q h g
    ·obtain rfl : q = i := by omega
     exact d
   | false =>
    rw [if_pos (by rw [if_neg (by simp)]; split <;> omega)]
    refine .inr ⟨_, rfl, .inr ⟨rfl, fun h => ?_⟩⟩
    have := List.pairwise_iff_getElem.1 h i (i + 1) (by omega) c (by omega)
    rw [d] at this; cases this
  ·rw [if_neg (by omega)]
   refine .inr ⟨_, rfl, .inl ⟨rfl, ?_⟩⟩
   refine List.pairwise_iff_getElem.2 fun a b ha hb hab => ?_
   have key : ∀ d (h : a + d + 1 < R.length), cm R[a].Key R[a + d + 1].Key = true := by
    intro d
    induction d with
    | zero => intro h; exact hq a h (by omega)
    | succ d ih => intro h; exact cm_tr (ih (by omega)) (hq (a + d + 1) h (by omega))
   obtain ⟨d, rfl⟩ : ∃ d, b = a + d + 1 := ⟨b - a - 1, by omega⟩
   exact key d hb
 ·rintro _ ⟨rfl, hq⟩
  simp only [merkle_rising.b1]
  rw [if_neg (by omega)]
  refine ⟨_, rfl, .inl ⟨rfl, ?_⟩⟩
  refine List.pairwise_iff_getElem.2 fun a b ha hb hab => ?_
  have key : ∀ d (h : a + d + 1 < R.length), cm R[a].Key R[a + d + 1].Key = true := by
   intro d
   induction d with
   | zero => intro h; exact hq a h (by omega)
   | succ d ih => intro h; exact cm_tr (ih (by omega)) (hq (a + d + 1) h (by omega))
  obtain ⟨d, rfl⟩ : ∃ d, b = a + d + 1 := ⟨b - a - 1, by omega⟩
  exact key d hb
def fbk (b : Nat) (R : List api_Row) : List api_Row := R.filter fun r => decide (bkt r.Key = b)
theorem flt_comm {α : Type} (p q : α → Bool) (l : List α) : (l.filter p).filter q = (l.filter q).filter p := by
 rw [List.filter_filter, List.filter_filter]
 congr 1
 funext x
 exact Bool.and_comm ..
theorem lo_fb (key : List Int) (b : Nat) (R : List api_Row) : lo key (fbk b R) = fbk b (lo key R) := flt_comm ..
theorem hi_fb (key : List Int) (b : Nat) (R : List api_Row) : hi key (fbk b R) = fbk b (hi key R) := flt_comm ..
theorem md_fb (key : List Int) (R : List api_Row) : md key (fbk (bkt key) R) = md key R := by
 unfold md fbk
 rw [flt_comm]
 apply filter_all
 intro x hx
 have : x.Key = key := by simpa using (List.mem_filter.1 hx).2
 rw [this]; simp
theorem fb_app (b : Nat) (l m : List api_Row) : fbk b (l ++ m) = fbk b l ++ fbk b m := List.filter_append ..
theorem fb_put (r : api_Row) (R : List api_Row) : fbk (bkt r.Key) (putL r R) = putL r (fbk (bkt r.Key) R) := by
 unfold putL
 rw [fb_app, lo_fb, hi_fb]
 congr 1
 unfold fbk
 rw [List.filter_cons_of_pos (by simp)]
theorem fb_put_ne {r : api_Row} {R : List api_Row} (h : Srt R) {b : Nat} (hb : b ≠ bkt r.Key) : fbk b (putL r R) = fbk b R := by
 obtain ⟨h1, h2⟩ := h.split r.Key
 have e1 : fbk b R = fbk b (lo r.Key R ++ (md r.Key R ++ hi r.Key R)) := congrArg _ h1
 have e2 : fbk b (md r.Key R) = [] := filter_none fun x hx => by
  have : x.Key = r.Key := by simpa using (List.mem_filter.1 hx).2
  rw [this]; simpa using fun q => hb q.symm
 rw [e1, fb_app, fb_app, e2, List.nil_append]
 unfold putL
 rw [fb_app]
 congr 1
 unfold fbk
 rw [List.filter_cons_of_neg (by simpa using fun q => hb q.symm)]
theorem fb_del (key : List Int) (b : Nat) (R : List api_Row) : fbk b (delL key R) = delL key (fbk b R) := flt_comm ..
theorem fb_del_ne {key : List Int} {b : Nat} (hb : b ≠ bkt key) (R : List api_Row) : fbk b (delL key R) = fbk b R := by
 rw [fb_del]
 apply filter_all
 intro x hx
 have h1 : bkt x.Key = b := by simpa [fbk] using (List.mem_filter.1 hx).2
 have : x.Key ≠ key := fun q => hb (by rw [← h1, q])
 simpa using this
theorem fb_len (b : Nat) (R : List api_Row) : (fbk b R).length ≤ R.length := List.length_filter_le ..
theorem fb_mem {b : Nat} {R : List api_Row} {x : api_Row} (h : x ∈ fbk b R) : x ∈ R := (List.mem_filter.1 h).1
theorem RL.fbk {R : List api_Row} (h : RL R) (b : Nat) : RL (fbk b R) := ⟨Nat.le_trans (fb_len b R) h.1, fun r hr => h.2 r (fb_mem hr)⟩
theorem RL.br {R : List api_Row} (h : RL R) : ∀ r ∈ R, brange r.Key := fun r hr => (h.2 r hr).2.2
theorem td {α : Type} {R l m : List α} (h : R = l ++ m) : R.take l.length = l ∧ R.drop l.length = m := by subst h; simp
theorem sx {α : Type} {R l m : List α} {x : α} (h : R = l ++ x :: m) (r : α) : R.set l.length r = l ++ r :: m ∧ R.take l.length = l ∧ R.drop (l.length + 1) = m := by
 subst h
 refine ⟨by simp, by simp, ?_⟩
 rw [← List.drop_drop, List.drop_left]; rfl
theorem own_eq {r : api_Row} (h1 : r.Key.length ≤ 1000000000) (h2 : r.Value.length ≤ 1000000000) : merkle_own.f r = some r := by
 unfold merkle_own.f bytes_Clone.f
 rw [if_pos (by omega), Option.bind_some, if_pos (by omega), Option.bind_some]
theorem own_RB {r : api_Row} (h : RB r) : merkle_own.f r = some r := own_eq (by have := h.1; omega) (by have := h.2.1; omega)
theorem rd_set {α : Type} [Inhabited α] (l : List α) (i n : Nat) (v : α) (hi : i < l.length) : rd (l.set i v) (n : Int) = if n = i then v else rd l (n : Int) := by
 unfold rd
 simp only [Int.toNat_natCast, List.getD_eq_getElem?_getD, List.getElem?_set]
 by_cases e : n = i
 ·subst e; simp [hi]
 ·rw [if_neg (fun q => e q.symm), if_neg e]
theorem tdiv2 (i : Nat) : Int.tdiv (i : Int) 2 = ((i / 2 : Nat) : Int) := (Int.ofNat_tdiv i 2).symm
def nodeOk (k : Nat) (bits : Int) (D : List Int) (n : Nat) : Prop := rd D (n : Int) = hPair k bits (rd D ((2 * n : Nat) : Int)) (rd D ((2 * n + 1 : Nat) : Int))
def offPath (i n : Nat) : Prop := ∀ s, n ≠ i / 2 ^ s
theorem offPath.half {i n : Nat} (h : offPath (i / 2) n) (hn : n ≠ i) : offPath i n := fun s => by
 cases s with
 | zero => simpa using hn
 | succ s =>
  have := h s
  rwa [Nat.div_div_eq_div_mul, Nat.mul_comm, ← Nat.pow_succ] at this
theorem climb {k : Nat} (hk : Fuel k) {bits : Int} (hb : okb bits) {ob : Mer} (ho : ob.bits = bits) : ∀ (s i m : Nat) (D : List Int), i < 2 ^ s → s < m → D.length = 512 → i < 256 → (∀ n : Nat, 1 ≤ n → n < 256 → offPath i n → nodeOk k bits D n) →
  ∃ D', loop (fun (s_ : Int × (List Int)) => merkle_Tree_changed.b2 k ob s_.1 s_.2) m ((i : Int), D) = some D' ∧ D'.length = 512 ∧ (∀ n : Nat, 1 ≤ n → n < 256 → nodeOk k bits D' n) ∧ ∀ n : Nat, 256 ≤ n → rd D' (n : Int) = rd D (n : Int)
 | _, _, 0, _, _, h, _, _, _ => absurd h (by omega)
 | s, 0, m + 1, D, hs, hm, hD, hi, hO => by
  refine ⟨D, loop_done ?_, hD, fun n h1 h2 => hO n h1 h2 (fun s => by rw [Nat.zero_div]; omega), fun _ _ => rfl⟩
  unfold merkle_Tree_changed.b2
  rw [if_neg (by simp)]
 | 0, i + 1, _ + 1, _, hs, _, _, _, _ => absurd hs (by simp)
 | s + 1, i + 1, m + 1, D, hs, hm, hD, hi, hO => by
  obtain ⟨q, hq⟩ : ∃ q, q = i + 1 := ⟨_, rfl⟩
  rw [← hq] at hs hi hO ⊢
  have hlt : q / 2 < 2 ^ s := by rw [Nat.pow_succ] at hs; omega
  have hv := ofPair_eq hk hb (rd D ((2 * q : Nat) : Int)) (rd D ((2 * q + 1 : Nat) : Int))
  obtain ⟨D', e, g1, g2, g3⟩ := climb hk hb ho s (q / 2) m (D.set q (hPair k bits (rd D ((2 * q : Nat) : Int)) (rd D ((2 * q + 1 : Nat) : Int)))) hlt (by omega) (by simpa using hD) (by omega) (fun n h1 h2 h3 => by
   have hql : q < D.length := by omega
   unfold nodeOk
   have n1 : ¬ (2 * n = q) := fun e => h3 0 (by simp; omega)
   have n2 : ¬ (2 * n + 1 = q) := fun e => h3 0 (by simp; omega)
   rw [rd_set D q n _ hql, rd_set D q (2 * n) _ hql, rd_set D q (2 * n + 1) _ hql, if_neg n1, if_neg n2]
   by_cases c : n = q
   ·rw [if_pos c, c]
   ·rw [if_neg c]; exact hO n h1 h2 (h3.half c))
  refine ⟨D', ?_, g1, g2, fun n hn => by rw [g3 n hn, rd_set D q n _ (by omega), if_neg (by omega)]⟩
  rw [loop_next (s' := (((q / 2 : Nat) : Int), D.set q (hPair k bits (rd D ((2 * q : Nat) : Int)) (rd D ((2 * q + 1 : Nat) : Int))))), e]
  have w1 : IntKind.i64.wrap (2 * (q : Int)) = ((2 * q : Nat) : Int) := by rw [wr (by omega) (by omega)]; omega
  have w2 : IntKind.i64.wrap (((2 * q : Nat) : Int) + 1) = ((2 * q + 1 : Nat) : Int) := by rw [wr (by omega) (by omega)]; omega
  have w3 : IntKind.i64.wrap (Int.tdiv (q : Int) 2) = ((q / 2 : Nat) : Int) := by rw [tdiv2, wr (by omega) (by omega)]
  unfold merkle_Tree_changed.b2
  simp only
  rw [if_pos (by omega), w1, w2, ho, if_pos (by omega), if_pos (by omega), bind_eq hv, if_pos (by omega), w3, Int.toNat_natCast]
structure MI (k : Nat) (bits : Int) (t : Mer) (R : List api_Row) : Prop where
 hbits : t.bits = bits
 many : t.many = (R.length : Int)
 rl : t.rows.length = 256
 rows : ∀ b : Nat, b < 256 → rd t.rows (b : Int) = fbk b R
 dl : t.digests.length = 512
 leaf : ∀ b : Nat, b < 256 → rd t.digests ((256 + b : Nat) : Int) = hBk k bits (fbk b R)
 node : ∀ n : Nat, 1 ≤ n → n < 256 → nodeOk k bits t.digests n
theorem changed_eq {k : Nat} (hk : Fuel k) {bits : Int} (hb : okb bits) {t : Mer} {R : List api_Row} {b : Nat} (hbl : b < 256) (h1 : t.bits = bits) (h2 : t.many = (R.length : Int)) (h3 : t.rows.length = 256) (h4 : ∀ b : Nat, b < 256 → rd t.rows (b : Int) = fbk b R) (h5 : t.digests.length = 512)
  (h6 : ∀ b' : Nat, b' < 256 → b' ≠ b → rd t.digests ((256 + b' : Nat) : Int) = hBk k bits (fbk b' R)) (h7 : ∀ n : Nat, 1 ≤ n → n < 256 → nodeOk k bits t.digests n) (hR : RL R) :
  ∃ t', merkle_Tree_changed.f k (some t) (b : Int) = some (some t') ∧ MI k bits t' R := by
 have h24 : 1099511627776 ≤ k := hk
 have ev : merkle_ofBucket.f k (rd t.rows (b : Int)) t.bits = some (hBk k bits (fbk b R)) := by rw [h4 b hbl, h1]; exact ofBucket_eq hk hb (hR.fbk b)
 have w1 : IntKind.i64.wrap (256 + (b : Int)) = ((256 + b : Nat) : Int) := by rw [wr (by omega) (by omega)]; omega
 have w2 : IntKind.i64.wrap (Int.tdiv ((256 + b : Nat) : Int) 2) = (((256 + b) / 2 : Nat) : Int) := by rw [tdiv2, wr (by omega) (by omega)]
 have hql : 256 + b < t.digests.length := by omega
 obtain ⟨D', e, g1, g2, g3⟩ := climb hk hb (ob := t) h1 8 ((256 + b) / 2) k (t.digests.set (256 + b) (hBk k bits (fbk b R))) (show (256 + b) / 2 < 256 by omega) (by omega) (by simpa using h5) (by omega) (fun n n1 n2 n3 => by
  have q0 := n3 0
  simp only [Nat.pow_zero, Nat.div_one] at q0
  unfold nodeOk
  rw [rd_set _ _ n _ hql, rd_set _ _ (2 * n) _ hql, rd_set _ _ (2 * n + 1) _ hql, if_neg (by omega), if_neg (by omega), if_neg (by omega)]
  exact h7 n n1 n2)
 refine ⟨Mer.mk t.bits D' t.rows t.many, ?_, h1, h2, h3, h4, g1, fun b' hb' => ?_, g2⟩
 ·unfold merkle_Tree_changed.f merkle_Tree_changed.j1
  rw [Option.bind_some, if_pos (by omega), bind_eq ev, w1, if_pos (by omega), w2, Int.toNat_natCast, bind_eq e]
  rfl
 ·show rd D' ((256 + b' : Nat) : Int) = _
  rw [g3 _ (by omega), rd_set _ _ _ _ hql]
  by_cases c : b' = b
  ·rw [if_pos (by omega), c]
  ·rw [if_neg (by omega)]; exact h6 b' hb' c
theorem at_eq {k : Nat} (hk : Fuel k) {bits : Int} {t : Mer} {R : List api_Row} (h : MI k bits t R) (hR : RL R) (hs : Srt R) {key : List Int} (hkl : key.length ≤ 1000000000) (hkb : brange key) :
  merkle_Tree_at.f k (some t) key = some ((bkt key : Int), ((lo key (fbk (bkt key) R)).length : Int), has key R) := by
 have hl := bkt_lt key
 have hf := hR.fbk (bkt key)
 have es : slices_BinarySearchFunc.f k (fbk (bkt key) R) (api_Row.mk key [] 0) = some (((lo key (fbk (bkt key) R)).length : Int), has key (fbk (bkt key) R)) := search_eq hk (R := fbk (bkt key) R) (by have := hf.1; omega) (hs.filter _) hf.br (t := api_Row.mk key [] 0) hkb
 unfold merkle_Tree_at.f
 rw [bind_eq (bucket_eq hk hkl), Option.bind_some, if_pos (by omega), h.rows (bkt key) hl, bind_eq es]
 simp only [has, md_fb]
theorem Get_eq {k : Nat} (hk : Fuel k) {bits : Int} {t : Mer} {R : List api_Row} (h : MI k bits t R) (hR : RL R) (hs : Srt R) {key : List Int} (hkl : key.length ≤ 1000000000) (hkb : brange key) :
  merkle_Tree_Get.f k (some t) key = some (match md key R with | [] => (api_Row.mk [] [] 0, false) | x :: _ => (x, true)) := by
 have hl := bkt_lt key
 unfold merkle_Tree_Get.f
 rw [if_neg (by simp), bind_eq (at_eq hk h hR hs hkl hkb)]
 dsimp only
 rcases at_lo (key := key) (hs.filter fun r => decide (bkt r.Key = bkt key)) with ⟨h1, h2, h3⟩ | ⟨x, h1, hx, h2, q, h3⟩
 ·have h1 : md key (fbk (bkt key) R) = [] := h1
  rw [md_fb] at h1
  have hh : ¬ has key R = true := by unfold has; rw [h1]; simp
  rw [if_neg hh, h1]
 ·have h1 : md key (fbk (bkt key) R) = [x] := h1
  have q : (lo key (fbk (bkt key) R)).length < (fbk (bkt key) R).length := q
  have h3 : (fbk (bkt key) R)[(lo key (fbk (bkt key) R)).length] = x := h3
  rw [md_fb] at h1
  have hm : x ∈ R := by
   have : x ∈ md key R := by rw [h1]; exact List.mem_singleton.2 rfl
   exact (List.mem_filter.1 this).1
  have hh : has key R = true := by unfold has; rw [h1]; simp
  rw [if_pos hh, h1, Option.bind_some, if_pos (by omega), h.rows (bkt key) hl, if_pos (by omega), rd_eq q, h3, bind_eq (own_RB (hR.2 x hm))]
theorem Digest_eq {t : Mer} {n : Nat} (h0 : 1 ≤ n) (h1 : n < 512) : merkle_Tree_Digest.f (some t) (n : Int) = some (rd t.digests (n : Int)) := by
 unfold merkle_Tree_Digest.f merkle_Tree_Digest.j1
 rw [if_neg (by simp), if_neg (by omega), decide_eq_false (by omega), if_neg (by simp), Option.bind_some, if_pos (by omega)]
theorem Root_eq {t : Mer} : merkle_Tree_Root.f (some t) = some (rd t.digests 1) := by
 unfold merkle_Tree_Root.f
 have := Digest_eq (t := t) (n := 1) (by omega) (by omega)
 have e1 : ((1 : Nat) : Int) = 1 := rfl
 rw [e1] at this
 rw [bind_eq this]
theorem put_len_has {r x : api_Row} {R : List api_Row} (hs : Srt R) (h : md r.Key R = [x]) : (putL r R).length = R.length := by
 have := lo_len (key := r.Key) hs
 rw [h] at this
 simp only [putL, List.length_append, List.length_cons, List.length_nil] at this ⊢
 omega
theorem put_len_new {r : api_Row} {R : List api_Row} (hs : Srt R) (h : md r.Key R = []) : (putL r R).length = R.length + 1 := by
 have := lo_len (key := r.Key) hs
 rw [h] at this
 simp only [putL, List.length_append, List.length_cons, List.length_nil] at this ⊢
 omega
theorem rd_rows {k : Nat} {bits : Int} {t : Mer} {R : List api_Row} (h : MI k bits t R) (b b' : Nat) (v : List api_Row) (hb : b < 256) : rd (t.rows.set b v) (b' : Int) = if b' = b then v else rd t.rows (b' : Int) := rd_set _ _ _ _ (by rw [h.rl]; exact hb)
theorem Put_eq {k : Nat} (hk : Fuel k) {bits : Int} (hb : okb bits) {t : Mer} {R : List api_Row} (h : MI k bits t R) (hR : RL R) (hR' : R.length + 1 ≤ 4194304) (hs : Srt R) {r : api_Row} (hr : RB r) :
  ∃ t', merkle_Tree_Put.f k (some t) r = some (some t') ∧ MI k bits t' (putL r R) ∧ RL (putL r R) ∧ Srt (putL r R) := by
 have hl := bkt_lt r.Key
 have hf := hR.fbk (bkt r.Key)
 have hkl : r.Key.length ≤ 1000000000 := by have := hr.1; omega
 have hRP : RL (putL r R) := by
  refine ⟨?_, fun x hx => ?_⟩
  ·rcases (hs.split r.Key).2 with q | ⟨x, q, _⟩
   ·rw [put_len_new hs q]; exact hR'
   ·rw [put_len_has hs q]; exact hR.1
  ·rcases putL_mem hx with rfl | hx
   ·exact hr
   ·exact hR.2 x hx
 have hrows : ∀ (v : List api_Row), v = putL r (fbk (bkt r.Key) R) → ∀ b : Nat, b < 256 → rd (t.rows.set (bkt r.Key) v) (b : Int) = fbk b (putL r R) := fun v hv b hb => by
  rw [rd_rows h _ _ _ hl]
  by_cases c : b = bkt r.Key
  ·rw [if_pos c, hv, c, fb_put]
  ·rw [if_neg c, h.rows b hb, fb_put_ne hs c]
 have hleaf : ∀ b' : Nat, b' < 256 → b' ≠ bkt r.Key → rd t.digests ((256 + b' : Nat) : Int) = hBk k bits (fbk b' (putL r R)) := fun b' hb' c => by rw [h.leaf b' hb', fb_put_ne hs c]
 unfold merkle_Tree_Put.f
 rw [if_neg (by simp), bind_eq (at_eq hk h hR hs hkl hr.2.2)]
 dsimp only
 rcases at_lo (key := r.Key) (hs.filter fun x => decide (bkt x.Key = bkt r.Key)) with ⟨h1, h2, h3⟩ | ⟨x, h1, hx, h2, q, h3⟩
 ·have h1 : md r.Key (fbk (bkt r.Key) R) = [] := h1
  have h2 : fbk (bkt r.Key) R = lo r.Key (fbk (bkt r.Key) R) ++ hi r.Key (fbk (bkt r.Key) R) := h2
  rw [md_fb] at h1
  have hlen := congrArg List.length h2
  rw [List.length_append] at hlen
  have hi1 := hf.1
  have ei : slices_Insert.f (fbk (bkt r.Key) R) ((lo r.Key (fbk (bkt r.Key) R)).length : Int) [r] = some (putL r (fbk (bkt r.Key) R)) := by
   unfold slices_Insert.f
   rw [if_pos ⟨by omega, by omega, rfl, by omega⟩]
   congr 1
   rw [Int.toNat_natCast]
   rw [(td h2).1, (td h2).2]
   unfold putL
   simp
  have hmany : IntKind.i64.wrap (t.many + 1) = ((putL r R).length : Int) := by rw [h.many, put_len_new hs h1, wr (by omega) (by omega)]; omega
  obtain ⟨t', e, g⟩ := changed_eq hk hb (t := Mer.mk t.bits t.digests (t.rows.set (bkt r.Key) (putL r (fbk (bkt r.Key) R))) ((putL r R).length : Int)) (R := putL r R) hl h.hbits rfl (by simpa using h.rl) (hrows _ rfl) h.dl hleaf h.node hRP
  refine ⟨t', ?_, g, hRP, putL_srt hs⟩
  have hh : ¬ has r.Key R = true := by unfold has; rw [h1]; simp
  rw [if_neg hh, Option.bind_some, if_pos (by omega), bind_eq (own_RB hr), h.rows (bkt r.Key) hl, bind_eq ei]
  unfold merkle_Tree_Put.j1
  simp only [Int.toNat_natCast]
  rw [hmany, bind_eq e]
 ·have h1 : md r.Key (fbk (bkt r.Key) R) = [x] := h1
  have h2 : fbk (bkt r.Key) R = lo r.Key (fbk (bkt r.Key) R) ++ x :: hi r.Key (fbk (bkt r.Key) R) := h2
  have q : (lo r.Key (fbk (bkt r.Key) R)).length < (fbk (bkt r.Key) R).length := q
  rw [md_fb] at h1
  have ei : (fbk (bkt r.Key) R).set (lo r.Key (fbk (bkt r.Key) R)).length r = putL r (fbk (bkt r.Key) R) := by
   exact (sx h2 r).1
  have hmany : t.many = ((putL r R).length : Int) := by rw [h.many, put_len_has hs h1]
  obtain ⟨t', e, g⟩ := changed_eq hk hb (t := Mer.mk t.bits t.digests (t.rows.set (bkt r.Key) (putL r (fbk (bkt r.Key) R))) t.many) (R := putL r R) hl h.hbits hmany (by simpa using h.rl) (hrows _ rfl) h.dl hleaf h.node hRP
  refine ⟨t', ?_, g, hRP, putL_srt hs⟩
  have hh : has r.Key R = true := by unfold has; rw [h1]; simp
  rw [if_pos hh, Option.bind_some, if_pos (by omega), bind_eq (own_RB hr), h.rows (bkt r.Key) hl, if_pos (by omega)]
  simp only [Int.toNat_natCast]
  rw [ei, bind_eq e]
theorem Delete_eq {k : Nat} (hk : Fuel k) {bits : Int} (hb : okb bits) {t : Mer} {R : List api_Row} (h : MI k bits t R) (hR : RL R) (hs : Srt R) {key : List Int} (hkl : key.length ≤ 1000000000) (hkb : brange key) :
  ∃ t', merkle_Tree_Delete.f k (some t) key = some (has key R, some t') ∧ MI k bits t' (delL key R) ∧ RL (delL key R) ∧ Srt (delL key R) := by
 have hl := bkt_lt key
 have hf := hR.fbk (bkt key)
 have hRD : RL (delL key R) := ⟨Nat.le_trans (List.length_filter_le ..) hR.1, fun x hx => hR.2 x (List.mem_filter.1 hx).1⟩
 have hSD : Srt (delL key R) := hs.filter _
 unfold merkle_Tree_Delete.f
 rw [if_neg (by simp), bind_eq (at_eq hk h hR hs hkl hkb)]
 dsimp only
 rcases at_lo (key := key) (hs.filter fun x => decide (bkt x.Key = bkt key)) with ⟨h1, h2, h3⟩ | ⟨x, h1, hx, h2, q, h3⟩
 ·have h1 : md key (fbk (bkt key) R) = [] := h1
  rw [md_fb] at h1
  have e : delL key R = R := filter_all fun x hx => by
   cases c : decide (x.Key = key) with
   | false => rfl
   | true =>
    have : x ∈ md key R := List.mem_filter.2 ⟨hx, c⟩
    rw [h1] at this; cases this
  have hh : ¬ has key R = true := by unfold has; rw [h1]; simp
  rw [if_neg hh, e]
  exact ⟨t, rfl, h, hR, hs⟩
 ·have h1 : md key (fbk (bkt key) R) = [x] := h1
  have h2 : fbk (bkt key) R = lo key (fbk (bkt key) R) ++ x :: hi key (fbk (bkt key) R) := h2
  have q : (lo key (fbk (bkt key) R)).length < (fbk (bkt key) R).length := q
  rw [md_fb] at h1
  have hf1 := hf.1
  have ed : slices_Delete.f (fbk (bkt key) R) ((lo key (fbk (bkt key) R)).length : Int) (IntKind.i64.wrap (((lo key (fbk (bkt key) R)).length : Int) + 1)) = some (delL key (fbk (bkt key) R)) := by
   rw [wrS _ (by omega)]
   unfold slices_Delete.f
   rw [if_pos ⟨by omega, by omega, by omega⟩, delL_eq (R := fbk (bkt key) R) (hs.filter _)]
   congr 1
   simp only [Int.toNat_natCast]
   rw [(sx h2 x).2.1, (sx h2 x).2.2]
  have hlen : R.length = (delL key R).length + 1 := by
   have := lo_len (key := key) hs
   rw [delL_eq hs, List.length_append]
   rw [h1] at this
   simp only [List.length_cons, List.length_nil] at this
   omega
  have hmany : IntKind.i64.wrap (t.many - 1) = ((delL key R).length : Int) := by
   have := hR.1
   rw [h.many, wr (by omega) (by omega)]; omega
  have hrows : ∀ b : Nat, b < 256 → rd (t.rows.set (bkt key) (delL key (fbk (bkt key) R))) (b : Int) = fbk b (delL key R) := fun b hb => by
   rw [rd_rows h _ _ _ hl]
   by_cases c : b = bkt key
   ·rw [if_pos c, c, fb_del]
   ·rw [if_neg c, h.rows b hb, fb_del_ne c]
  obtain ⟨t', e, g⟩ := changed_eq hk hb (t := Mer.mk t.bits t.digests (t.rows.set (bkt key) (delL key (fbk (bkt key) R))) ((delL key R).length : Int)) (R := delL key R) hl h.hbits rfl (by simpa using h.rl) hrows h.dl (fun b' hb' c => by rw [fb_del_ne c]; exact h.leaf b' hb') h.node hRD
  refine ⟨t', ?_, g, hRD, hSD⟩
  have hh : has key R = true := by unfold has; rw [h1]; simp
  rw [if_pos hh, Option.bind_some, if_pos (by omega), h.rows (bkt key) hl, bind_eq ed]
  unfold merkle_Tree_Delete.j1
  simp only [Int.toNat_natCast]
  rw [hmany, bind_eq e]
theorem fb_snoc (b : Nat) (l : List api_Row) (r : api_Row) : fbk b (l ++ [r]) = if bkt r.Key = b then fbk b l ++ [r] else fbk b l := by
 rw [fb_app]
 by_cases c : bkt r.Key = b
 ·rw [if_pos c]; congr 1; unfold fbk; rw [List.filter_cons_of_pos (by simpa using c)]; rfl
 ·rw [if_neg c]
  have : fbk b [r] = [] := by unfold fbk; rw [List.filter_cons_of_neg (by simpa using c)]; rfl
  rw [this, List.append_nil]
theorem New_eq {k : Nat} (hk : Fuel k) {bits : Int} (hb : okb bits) {R : List api_Row} (hR : RL R) (hs : Srt R) : ∃ t, merkle_New.f k R bits = some (some t, 0) ∧ MI k bits t R := by
 have h24 : 1099511627776 ≤ k := hk
 obtain ⟨b, eb, hbr⟩ := rising_eq hk (by have := hR.1; omega) hR.br
 have ht := hbr.2 hs
 subst ht
 have hRl := hR.1
 unfold merkle_New.f merkle_New.j1
 rw [if_neg (by omega), decide_eq_false (by omega), if_neg (by simp), bind_eq eb, if_pos rfl]
 have L := loop_inv (f := fun (s_ : Int × (List (List api_Row))) => merkle_New.b2 k R s_.1 s_.2) (I := fun i s => s.1 = (i : Int) ∧ s.2.length = 256 ∧ ∀ b : Nat, b < 256 → rd s.2 (b : Int) = fbk b (R.take i)) (P := fun x => x.length = 256 ∧ ∀ b : Nat, b < 256 → rd x (b : Int) = fbk b R) (N := R.length) ?_ ?_ R.length 0 (0, List.replicate 256 []) k ⟨rfl, List.length_replicate .., fun b hb => ?_⟩ (by omega) (by omega)
 ·obtain ⟨S, eS, hS, hB⟩ := L
  rw [bind_eq eS]
  unfold merkle_New.j3
  have M := loop_inv (f := fun (s_ : Int × (List Int)) => merkle_New.b4 k bits S s_.1 s_.2) (I := fun i s => s.1 = (i : Int) ∧ s.2.length = 512 ∧ ∀ b : Nat, b < i → rd s.2 ((256 + b : Nat) : Int) = hBk k bits (fbk b R)) (P := fun x => x.length = 512 ∧ ∀ b : Nat, b < 256 → rd x ((256 + b : Nat) : Int) = hBk k bits (fbk b R)) (N := 256) ?_ ?_ 256 0 (0, List.replicate 512 (0 : Int)) k ⟨rfl, List.length_replicate .., fun b h => absurd h (by omega)⟩ (by omega) (by omega)
  ·obtain ⟨D, eD, hD, hDl⟩ := M
   rw [bind_eq eD]
   unfold merkle_New.j5
   have O := loop_inv (f := fun (s_ : Int × (List Int)) => merkle_New.b6 k bits s_.1 s_.2) (I := fun i s => s.1 = 255 - (i : Int) ∧ s.2.length = 512 ∧ (∀ b : Nat, b < 256 → rd s.2 ((256 + b : Nat) : Int) = hBk k bits (fbk b R)) ∧ ∀ n : Nat, 255 - i < n → n < 256 → nodeOk k bits s.2 n) (P := fun x => x.length = 512 ∧ (∀ b : Nat, b < 256 → rd x ((256 + b : Nat) : Int) = hBk k bits (fbk b R)) ∧ ∀ n : Nat, 1 ≤ n → n < 256 → nodeOk k bits x n) (N := 255) ?_ ?_ 255 0 (255, D) k ⟨rfl, hD, hDl, fun n h h2 => absurd h (by omega)⟩ (by omega) (by omega)
   ·obtain ⟨D', eD', g1, g2, g3⟩ := O
    rw [bind_eq eD']
    exact ⟨_, rfl, rfl, rfl, hS, hB, g1, g2, g3⟩
   ·rintro i ⟨j, l⟩ hi ⟨hj, hl, hlf, hn⟩
    left
    simp only at hj hl hlf hn
    obtain ⟨q, hq⟩ : ∃ q : Nat, q = 255 - i := ⟨_, rfl⟩
    have hjq : j = (q : Int) := by omega
    subst hjq
    have w1 : IntKind.i64.wrap (2 * (q : Int)) = ((2 * q : Nat) : Int) := by rw [wr (by omega) (by omega)]; omega
    have w2 : IntKind.i64.wrap (((2 * q : Nat) : Int) + 1) = ((2 * q + 1 : Nat) : Int) := by rw [wr (by omega) (by omega)]; omega
    have en := ofPair_eq hk hb (rd l ((2 * q : Nat) : Int)) (rd l ((2 * q + 1 : Nat) : Int))
    have hql : q < l.length := by omega
    simp only [merkle_New.b6]
    rw [w1, w2, if_pos (by omega), if_pos (by omega), if_pos (by omega), bind_eq en, if_pos (by omega), wr (by omega) (by omega)]
    refine ⟨_, rfl, by simp only; omega, by simpa using hl, fun b hb => ?_, fun n h1 h2 => ?_⟩
    ·simp only [Int.toNat_natCast]
     rw [rd_set _ _ _ _ hql, if_neg (by omega)]; exact hlf b hb
    ·simp only [Int.toNat_natCast]
     unfold nodeOk
     rw [rd_set _ _ _ _ hql, rd_set _ _ _ _ hql, rd_set _ _ _ _ hql, if_neg (by omega : ¬ 2 * n = q), if_neg (by omega : ¬ 2 * n + 1 = q)]
     by_cases c : n = q
     ·rw [if_pos c, c]
     ·rw [if_neg c]; exact hn n (by omega) h2
   ·rintro ⟨j, l⟩ ⟨hj, hl, hlf, hn⟩
    simp only at hj hl hlf hn; subst hj
    simp only [merkle_New.b6]
    rw [if_neg (by omega)]
    exact ⟨_, rfl, hl, hlf, fun n h1 h2 => hn n (by omega) h2⟩
  ·rintro i ⟨j, l⟩ hi ⟨hj, hl, hlf⟩
   left
   simp only at hj hl hlf; subst hj
   have en : merkle_ofBucket.f k (rd S (i : Int)) bits = some (hBk k bits (fbk i R)) := by rw [hB i hi]; exact ofBucket_eq hk hb (hR.fbk i)
   have w1 : IntKind.i64.wrap (256 + (i : Int)) = ((256 + i : Nat) : Int) := by rw [wr (by omega) (by omega)]; omega
   simp only [merkle_New.b4]
   rw [if_pos (by omega), if_pos (by omega), bind_eq en, w1, if_pos (by omega), wrS i (by omega)]
   refine ⟨_, rfl, rfl, by simpa using hl, fun b hb => ?_⟩
   simp only [Int.toNat_natCast]
   rw [rd_set _ _ _ _ (by omega)]
   by_cases c : b = i
   ·rw [if_pos (by omega), c]
   ·rw [if_neg (by omega)]; exact hlf b (by omega)
  ·rintro ⟨j, l⟩ ⟨hj, hl, hlf⟩
   simp only at hj hl hlf; subst hj
   simp only [merkle_New.b4]
   rw [if_neg (by omega)]
   exact ⟨_, rfl, hl, hlf⟩
 ·rintro i ⟨j, S⟩ hi ⟨hj, hS, hB⟩
  left
  simp only at hj hS hB; subst hj
  have hr := hR.2 _ (List.getElem_mem hi)
  have hkl : R[i].Key.length ≤ 1000000000 := by have := hr.1; omega
  have hl := bkt_lt R[i].Key
  have hlen : (rd S ((bkt R[i].Key : Nat) : Int)).length ≤ 4194304 := by rw [hB _ hl]; have := fb_len (bkt R[i].Key) (R.take i); simp only [List.length_take] at this; omega
  simp only [merkle_New.b2]
  rw [if_pos (by omega), if_pos (by omega), rd_eq hi, bind_eq (bucket_eq hk hkl), if_pos (by omega), bind_eq (own_RB hr), if_pos (by simp only [List.length_singleton]; omega), wrS i (by omega)]
  refine ⟨_, rfl, rfl, by simpa using hS, fun b hb => ?_⟩
  simp only [Int.toNat_natCast]
  rw [rd_set _ _ _ _ (by omega), take_one hi, fb_snoc]
  by_cases c : b = bkt R[i].Key
  ·rw [if_pos c, if_pos c.symm, hB _ hl, c]
  ·rw [if_neg c, if_neg (fun q => c q.symm)]; exact hB b hb
 ·rintro ⟨j, S⟩ ⟨hj, hS, hB⟩
  simp only at hj hS hB; subst hj
  simp only [merkle_New.b2]
  rw [if_neg (by omega)]
  rw [List.take_length] at hB
  exact ⟨_, rfl, hS, hB⟩
 ·unfold rd
  simp only [Int.toNat_natCast, List.take_zero]
  rw [List.getD_eq_getElem?_getD, List.getElem?_replicate, if_pos hb]; rfl
theorem put_snoc {r : api_Row} {R : List api_Row} (h : ∀ x ∈ R, cm x.Key r.Key = true) : putL r R = R ++ [r] := by
 unfold putL
 have e1 : lo r.Key R = R := filter_all h
 have e2 : hi r.Key R = [] := filter_none fun x hx => cm_asym (h x hx)
 rw [e1, e2]
def sortL (X : List api_Row) : List api_Row := X.foldl (fun o r => putL r o) []
theorem sortL_snoc (X : List api_Row) (r : api_Row) : sortL (X ++ [r]) = putL r (sortL X) := by simp [sortL]
theorem sortL_take {R : List api_Row} (h : Srt R) : ∀ n, n ≤ R.length → sortL (R.take n) = R.take n
 | 0, _ => rfl
 | n + 1, hn => by
  rw [take_one (by omega), sortL_snoc, sortL_take h n (by omega)]
  apply put_snoc
  intro x hx
  obtain ⟨q, hq, rfl⟩ := List.getElem_of_mem hx
  have hq' : q < n := by simp at hq; omega
  rw [List.getElem_take]
  exact List.pairwise_iff_getElem.1 h q n (by omega) (by omega) hq'
theorem sortL_self {R : List api_Row} (h : Srt R) : sortL R = R := by
 have := sortL_take h R.length (Nat.le_refl _)
 rwa [List.take_length] at this
theorem sortL_srt : ∀ X : List api_Row, Srt (sortL X) := by
 intro X
 have key : ∀ (X o : List api_Row), Srt o → Srt (X.foldl (fun o r => putL r o) o) := by
  intro X
  induction X with
  | nil => intro o h; exact h
  | cons r X ih => intro o h; exact ih _ (putL_srt h)
 exact key X [] List.Pairwise.nil
theorem put_len_le {r : api_Row} {R : List api_Row} (hs : Srt R) : (putL r R).length ≤ R.length + 1 := by
 rcases (hs.split r.Key).2 with q | ⟨x, q, _⟩
 ·rw [put_len_new hs q]; omega
 ·rw [put_len_has hs q]; omega
theorem sortL_rl {X : List api_Row} (h : RL X) : (sortL X).length ≤ X.length ∧ ∀ r ∈ sortL X, RB r := by
 have key : ∀ (X o : List api_Row), Srt o → (∀ r ∈ X, RB r) → (∀ r ∈ o, RB r) → (X.foldl (fun o r => putL r o) o).length ≤ o.length + X.length ∧ ∀ r ∈ X.foldl (fun o r => putL r o) o, RB r := by
  intro X
  induction X with
  | nil => intro o _ _ h; exact ⟨Nat.le_refl _, h⟩
  | cons r X ih =>
   intro o hs h1 h2
   obtain ⟨g1, g2⟩ := ih (putL r o) (putL_srt hs) (fun x hx => h1 x (List.mem_cons_of_mem _ hx)) (fun x hx => by
    rcases putL_mem hx with rfl | hx
    ·exact h1 x (by simp)
    ·exact h2 x hx)
   have := put_len_le (r := r) hs
   exact ⟨by rw [List.foldl_cons, List.length_cons]; omega, g2⟩
 have := key X [] List.Pairwise.nil h.2 (fun r hr => by cases hr)
 simp only [List.length_nil, Nat.zero_add] at this
 exact this
theorem place_eq {k : Nat} (hk : Fuel k) {X out : List api_Row} (hX : RL X) (ho : Srt out) (hol : out.length ≤ 4194304) (hob : ∀ r ∈ out, RB r) {i : Nat} (hi : i < X.length) :
  loop (fun (s_ : Int) => haulagelaw10_sorted.b4 k X out (i : Int) s_) k 0 = some ((lo X[i].Key out).length : Int) := by
 have h24 : 1099511627776 ≤ k := hk
 have hXl := hX.1
 have hlen := lo_len (key := X[i].Key) ho
 have L := loop_inv (f := fun (s_ : Int) => haulagelaw10_sorted.b4 k X out (i : Int) s_) (I := fun q s => s = (q : Int)) (P := fun x => x = ((lo X[i].Key out).length : Int)) (N := (lo X[i].Key out).length) ?_ ?_ (lo X[i].Key out).length 0 0 k rfl (by omega) (by omega)
 ·obtain ⟨x, e, rfl⟩ := L
  exact e
 ·rintro q _ hq rfl
  left
  have hqo : q < out.length := by omega
  have ec := comes_eq hk out[q].Key X[i].Key (by have := (hob _ (List.getElem_mem hqo)).1; omega)
  rw [idx_lt ho hqo, decide_eq_true hq] at ec
  simp only [haulagelaw10_sorted.b4]
  rw [if_pos (by omega), if_pos (by omega), if_pos (by omega), rd_eq hqo, rd_eq hi, bind_eq ec]
  unfold haulagelaw10_sorted.j3
  rw [if_pos rfl, wrS q (by omega)]
  exact ⟨_, rfl, rfl⟩
 ·rintro _ rfl
  simp only [haulagelaw10_sorted.b4]
  by_cases c : (lo X[i].Key out).length < out.length
  ·have ec := comes_eq hk out[(lo X[i].Key out).length].Key X[i].Key (by have := (hob _ (List.getElem_mem c)).1; omega)
   rw [idx_lt ho c, decide_eq_false (by omega)] at ec
   rw [if_pos (by omega), if_pos (by omega), if_pos (by omega), rd_eq c, rd_eq hi, bind_eq ec]
   unfold haulagelaw10_sorted.j3
   rw [if_neg (by simp)]
   exact ⟨_, rfl, rfl⟩
  ·rw [if_neg (by omega)]
   unfold haulagelaw10_sorted.j3
   rw [if_neg (by simp)]
   exact ⟨_, rfl, rfl⟩
theorem sorted_eq {k : Nat} (hk : Fuel k) {X : List api_Row} (hX : RL X) : haulagelaw10_sorted.f k X = some (sortL X) := by
 have h24 : 1099511627776 ≤ k := hk
 have hXl := hX.1
 unfold haulagelaw10_sorted.f
 have L := loop_inv (f := fun (s_ : (List api_Row) × Int) => haulagelaw10_sorted.b7 k X s_.1 s_.2) (I := fun i s => s.1 = sortL (X.take i) ∧ s.2 = (i : Int)) (P := fun x => x = sortL X) (N := X.length) ?_ ?_ X.length 0 ([], 0) k ⟨rfl, rfl⟩ (by omega) (by omega)
 ·obtain ⟨x, e, rfl⟩ := L
  rw [bind_eq e]; rfl
 ·rintro i ⟨out, j⟩ hi ⟨ho, hj⟩
  left
  simp only at ho hj; subst hj
  have hTk : RL (X.take i) := ⟨by simp; omega, fun r hr => hX.2 r (List.mem_of_mem_take hr)⟩
  have hso : Srt out := by rw [ho]; exact sortL_srt _
  obtain ⟨hol, hob⟩ := sortL_rl hTk
  rw [← ho] at hol hob
  have hol' : out.length ≤ 4194304 := by have := hTk.1; omega
  have hlen := lo_len (key := X[i].Key) hso
  have hn : sortL (X.take (i + 1)) = putL X[i] out := by rw [take_one hi, sortL_snoc, ← ho]
  simp only [haulagelaw10_sorted.b7]
  rw [if_pos (by omega), bind_eq (place_eq hk hX hso hol' hob hi)]
  unfold haulagelaw10_sorted.j5
  have fin : (haulagelaw10_sorted.j6 X out (i : Int) ((lo X[i].Key out).length : Int) (has X[i].Key out)) = some (.next (putL X[i] out, ((i + 1 : Nat) : Int))) := by
   unfold haulagelaw10_sorted.j6
   rcases at_lo (key := X[i].Key) hso with ⟨h1, h2, h3⟩ | ⟨x, h1, hx, h2, q, h3⟩
   ·have hh : ¬ has X[i].Key out = true := by unfold has; rw [h1]; simp
    have ll := congrArg List.length h2
    simp only [List.length_append] at ll
    rw [if_neg hh, if_pos (by omega), if_pos (by simp only [List.length_take]; omega), if_pos (by omega), if_pos (by simp only [List.length_append, List.length_take, List.length_nil, List.length_singleton]; omega), if_pos (by omega), if_pos (by simp only [List.length_append, List.length_take, List.length_drop, List.length_nil, List.length_singleton, Int.toNat_natCast]; omega), wrS i (by omega), rd_eq hi]
    simp only [Int.toNat_natCast]
    rw [(td h2).1, (td h2).2]
    unfold putL
    simp
   ·have hh : has X[i].Key out = true := by unfold has; rw [h1]; simp
    rw [if_pos hh, if_pos (by omega), if_pos (by omega), wrS i (by omega), rd_eq hi]
    simp only [Int.toNat_natCast]
    rw [(sx h2 _).1]
    rfl
  by_cases c : (lo X[i].Key out).length < out.length
  ·have es := same_eq hk out[(lo X[i].Key out).length].Key X[i].Key (.inl (by have := (hob _ (List.getElem_mem c)).1; omega))
   have hsame : decide (out[(lo X[i].Key out).length].Key = X[i].Key) = has X[i].Key out := by
    unfold has
    rcases at_lo (key := X[i].Key) hso with ⟨h1, h2, h3⟩ | ⟨x, h1, hx, h2, q, h3⟩
    ·rw [h1]; simpa using h3 c
    ·rw [h1, h3]; simpa using hx
   rw [hsame] at es
   rw [if_pos (by omega), if_pos (by omega), if_pos (by omega), rd_eq c, rd_eq hi, bind_eq es, fin]
   exact ⟨_, rfl, hn.symm, rfl⟩
  ·have hh : has X[i].Key out = false := by
    unfold has
    rcases at_lo (key := X[i].Key) hso with ⟨h1, h2, h3⟩ | ⟨x, h1, hx, h2, q, h3⟩
    ·rw [h1]; rfl
    ·omega
   rw [hh] at fin
   rw [if_neg (by omega), fin]
   exact ⟨_, rfl, hn.symm, rfl⟩
 ·rintro ⟨out, j⟩ ⟨ho, hj⟩
  simp only at ho hj; subst hj
  simp only [haulagelaw10_sorted.b7]
  rw [if_neg (by omega)]
  rw [List.take_length] at ho
  exact ⟨_, rfl, ho⟩
abbrev CL (C : List haulagelaw10_Change) : Prop := C.length ≤ 2097152 ∧ ∀ c ∈ C, RB c.Row
def stepR (R : List api_Row) (c : haulagelaw10_Change) : List api_Row := if c.Goes = true then delL c.Row.Key R else putL c.Row R
def runR (C : List haulagelaw10_Change) : List api_Row := C.foldl stepR []
theorem has_len {key : List Int} {R : List api_Row} (hs : Srt R) : has key R = decide (((delL key R).length : Int) < (R.length : Int)) := by
 have h := lo_len (key := key) hs
 rw [delL_eq hs, List.length_append]
 unfold has
 rcases (hs.split key).2 with q | ⟨x, q, _⟩
 ·rw [q] at h ⊢
  simp only [List.length_nil] at h
  rw [decide_eq_false (by omega)]; rfl
 ·rw [q] at h ⊢
  simp only [List.length_cons, List.length_nil] at h
  rw [decide_eq_true (by omega)]; rfl
theorem left_eq {k : Nat} (hk : Fuel k) {C : List haulagelaw10_Change} (hC : CL C) {i : Nat} (hi : i < C.length) {R : List api_Row} (hR : RL R) :
  loop (fun (s_ : (List api_Row) × Int) => haulagelaw10_grown.b4 k C R (i : Int) s_.1 s_.2) k ([], 0) = some (delL C[i].Row.Key R) := by
 have h24 : 1099511627776 ≤ k := hk
 have hRl := hR.1
 have L := loop_inv (f := fun (s_ : (List api_Row) × Int) => haulagelaw10_grown.b4 k C R (i : Int) s_.1 s_.2) (I := fun q s => s.1 = delL C[i].Row.Key (R.take q) ∧ s.2 = (q : Int)) (P := fun x => x = delL C[i].Row.Key R) (N := R.length) ?_ ?_ R.length 0 ([], 0) k ⟨rfl, rfl⟩ (by omega) (by omega)
 ·obtain ⟨x, e, rfl⟩ := L
  exact e
 ·rintro q ⟨l, j⟩ hq ⟨hl, hj⟩
  left
  simp only at hl hj; subst hj
  have es := same_eq hk R[q].Key C[i].Row.Key (.inl (by have := (hR.2 _ (List.getElem_mem hq)).1; omega))
  have hll : l.length ≤ q := by
   rw [hl]
   refine Nat.le_trans (List.length_filter_le ..) ?_
   simp; omega
  have e2 : delL C[i].Row.Key (R.take (q + 1)) = if R[q].Key = C[i].Row.Key then l else l ++ [R[q]] := by
   rw [take_one hq, hl]
   unfold delL
   rw [List.filter_append]
   by_cases c : R[q].Key = C[i].Row.Key
   ·rw [if_pos c, List.filter_cons_of_neg (by simpa using c)]; simp
   ·rw [if_neg c, List.filter_cons_of_pos (by simpa using c)]; rfl
  simp only [haulagelaw10_grown.b4]
  rw [if_pos (by omega), if_pos (by omega), rd_eq hq, rd_eq hi, bind_eq es]
  by_cases c : R[q].Key = C[i].Row.Key
  ·rw [if_pos (by simpa using c), wrS q (by omega)]
   exact ⟨_, rfl, by rw [e2, if_pos c], rfl⟩
  ·rw [if_neg (by simpa using c), if_pos (by omega), if_pos (by simp only [List.length_singleton]; omega), wrS q (by omega)]
   exact ⟨_, rfl, by rw [e2, if_neg c], rfl⟩
 ·rintro ⟨l, j⟩ ⟨hl, hj⟩
  simp only at hl hj; subst hj
  simp only [haulagelaw10_grown.b4]
  rw [if_neg (by omega)]
  rw [List.take_length] at hl
  exact ⟨_, rfl, hl⟩
theorem grown_eq {k : Nat} (hk : Fuel k) {bits : Int} (hb : okb bits) {C : List haulagelaw10_Change} (hC : CL C) : ∃ t, haulagelaw10_grown.f k C bits = some (some t, runR C) ∧ MI k bits t (runR C) ∧ RL (runR C) ∧ Srt (runR C) ∧ (runR C).length ≤ C.length := by
 have h24 : 1099511627776 ≤ k := hk
 have hCl := hC.1
 obtain ⟨t0, e0, M0⟩ := New_eq hk hb (R := []) ⟨by simp, fun r hr => by cases hr⟩ List.Pairwise.nil
 unfold haulagelaw10_grown.f haulagelaw10_grown.j1
 rw [bind_eq e0]
 dsimp only
 rw [if_pos rfl, if_neg (by simp)]
 have L := loop_inv (f := fun (s_ : (Option Mer) × (List api_Row) × Int) => haulagelaw10_grown.b6 k C s_.1 s_.2.1 s_.2.2) (I := fun i s => s.2.1 = runR (C.take i) ∧ s.2.2 = (i : Int) ∧ (∃ t, s.1 = some t ∧ MI k bits t s.2.1) ∧ RL s.2.1 ∧ Srt s.2.1 ∧ s.2.1.length ≤ i) (P := fun x => ∃ t, x = .inl (some t, runR C) ∧ MI k bits t (runR C) ∧ RL (runR C) ∧ Srt (runR C) ∧ (runR C).length ≤ C.length) (N := C.length) ?_ ?_ C.length 0 (some t0, [], 0) k ⟨rfl, rfl, ⟨t0, rfl, M0⟩, ⟨by simp, fun r hr => by cases hr⟩, List.Pairwise.nil, Nat.le_refl _⟩ (by omega) (by omega)
 ·obtain ⟨x, e, t, rfl, h⟩ := L
  rw [bind_eq e]
  exact ⟨t, rfl, h⟩
 ·rintro i ⟨ot, R, j⟩ hi ⟨hr, hj, ⟨t, ht, hM⟩, hR, hs, hl⟩
  left
  simp only at hr hj ht hM hR hs hl; subst hj ht
  have hc := hC.2 _ (List.getElem_mem hi)
  have hkl : C[i].Row.Key.length ≤ 1000000000 := by have := hc.1; omega
  have hn : runR (C.take (i + 1)) = stepR R C[i] := by rw [hr]; unfold runR; rw [take_one hi, List.foldl_append]; rfl
  simp only [haulagelaw10_grown.b6]
  rw [if_pos (by omega), if_pos (by omega), rd_eq hi]
  by_cases c : C[i].Goes = true
  ·have hst : stepR R C[i] = delL C[i].Row.Key R := by unfold stepR; rw [if_pos c]
   obtain ⟨t', et, hM', hR', hs'⟩ := Delete_eq hk hb hM hR hs hkl hc.2.2
   rw [if_pos c, bind_eq (left_eq hk hC hi hR)]
   unfold haulagelaw10_grown.j5
   rw [rd_eq hi, bind_eq et]
   dsimp only
   rw [if_pos (by rw [has_len hs]; simp), wrS i (by omega)]
   exact ⟨_, rfl, by rw [hn, hst], rfl, ⟨t', rfl, hM'⟩, hR', hs', Nat.le_trans (List.length_filter_le ..) (by omega)⟩
  ·have hst : stepR R C[i] = putL C[i].Row R := by unfold stepR; rw [if_neg c]
   obtain ⟨t', et, hM', hR', hs'⟩ := Put_eq hk hb hM hR (by omega) hs hc
   have hRX : RL (R ++ [C[i].Row]) := ⟨by simp; omega, fun x hx => by
    rcases List.mem_append.1 hx with hx | hx
    ·exact hR.2 x hx
    ·rw [List.mem_singleton.1 hx]; exact hc⟩
   have eS : haulagelaw10_sorted.f k (R ++ [C[i].Row]) = some (putL C[i].Row R) := by rw [sorted_eq hk hRX, sortL_snoc, sortL_self hs]
   rw [if_neg c, bind_eq et, if_pos (by simp only [List.length_singleton]; omega), bind_eq eS, wrS i (by omega)]
   have := put_len_le (r := C[i].Row) hs
   exact ⟨_, rfl, by rw [hn, hst], rfl, ⟨t', rfl, hM'⟩, hR', hs', by show (putL C[i].Row R).length ≤ _; omega⟩
 ·rintro ⟨ot, R, j⟩ ⟨hr, hj, ⟨t, ht, hM⟩, hR, hs, hl⟩
  simp only at hr hj ht hM hR hs hl; subst hj ht
  rw [List.take_length] at hr
  simp only [haulagelaw10_grown.b6]
  rw [if_neg (by omega), hr]
  rw [hr] at hM hR hs hl
  exact ⟨_, rfl, t, rfl, hM, hR, hs, hl⟩
def sib (n : Nat) : Nat := if n % 2 = 0 then n + 1 else n - 1
structure PathOk (D : List Int) (b : Nat) (L : List Int) : Prop where
 len : L.length = 8
 at_ : ∀ j : Nat, j < 8 → rd L (j : Int) = rd D ((sib ((256 + b) / 2 ^ j) : Nat) : Int)
theorem pow_lt {j : Nat} (h : j < 8) : 2 ^ j ≤ 128 := by
 have : 2 ^ j ≤ 2 ^ 7 := Nat.pow_le_pow_right (by decide) (by omega)
 have e : (2 : Nat) ^ 7 = 128 := by decide
 omega
theorem node_rng {b j : Nat} (hb : b < 256) (h : j < 8) : 2 ≤ (256 + b) / 2 ^ j ∧ (256 + b) / 2 ^ j < 512 := by
 have := pow_lt h
 have h2 := Nat.two_pow_pos j
 exact ⟨(Nat.le_div_iff_mul_le h2).2 (by omega), Nat.lt_of_le_of_lt (Nat.div_le_self ..) (by omega)⟩
theorem node_top {b : Nat} (hb : b < 256) : (256 + b) / 2 ^ 8 = 1 := by
 have e : (2 : Nat) ^ 8 = 256 := by decide
 rw [e]; omega
theorem node_next (n j : Nat) : n / 2 ^ (j + 1) = n / 2 ^ j / 2 := by rw [Nat.div_div_eq_div_mul, Nat.pow_succ]
def zeroR : api_Row := api_Row.mk [] [] 0
def told (key : List Int) (R : List api_Row) : api_Row × Bool := match md key R with | [] => (zeroR, false) | x :: _ => (x, true)
theorem Get_told {k : Nat} (hk : Fuel k) {bits : Int} {t : Mer} {R : List api_Row} (h : MI k bits t R) (hR : RL R) (hs : Srt R) {key : List Int} (hkl : key.length ≤ 1000000000) (hkb : brange key) :
  merkle_Tree_Get.f k (some t) key = some (told key R) := by
 rw [Get_eq hk h hR hs hkl hkb]
 unfold told
 cases md key R <;> rfl
end Go.Proofs.Ytdnaoecfnjalgaa.G
namespace Go.Proofs.Ytdnaoecfnjalgaa.G
open Go
set_option maxRecDepth 100000 in
theorem awake_true : haulagelaw10_awake.f 1099511627776 = some true := by kernel_rfl
end Go.Proofs.Ytdnaoecfnjalgaa.G
namespace Go.Proofs.Ytdnaoecfnjalgaa.G
open Go
set_option linter.unusedVariables false
set_option linter.unusedSimpArgs false
theorem round_eq (w : Int) : ∃ n, haulagelaw10_round.f w 64 = some n ∧ 0 ≤ n ∧ n < 64 := by
 have h1 := Int.tmod_lt_of_pos w (show (0 : Int) < 64 by decide)
 have h2 : -64 < Int.tmod w 64 := Int.lt_tmod_of_pos w (by decide)
 unfold haulagelaw10_round.f
 rw [if_pos (by decide)]
 split
 ·exact ⟨_, rfl, by rw [wr (by omega) (by omega)]; omega, by rw [wr (by omega) (by omega)]; omega⟩
 ·exact ⟨_, rfl, by omega, h1⟩
theorem bits_eq (w : Int) : ∃ n, haulagelaw10_round.f w 64 = some n ∧ okb (IntKind.i64.wrap (1 + n)) := by
 obtain ⟨n, e, h0, h1⟩ := round_eq w
 exact ⟨n, e, by rw [wr (by omega) (by omega)]; omega, by rw [wr (by omega) (by omega)]; omega⟩
theorem zero_len : zeroR.Key.length < 4000000000 ∧ zeroR.Value.length < 4000000000 := by decide
theorem told_cases (key : List Int) {R : List api_Row} (hR : RL R) (hs : Srt R) : (told key R = (zeroR, false) ∧ has key R = false ∧ ∀ r ∈ R, r.Key ≠ key) ∨ ∃ x, told key R = (x, true) ∧ has key R = true ∧ x ∈ R ∧ x.Key = key ∧ ∀ r ∈ R, r.Key = key → r = x := by
 rcases (hs.split key).2 with q | ⟨x, q, hx⟩
 ·refine .inl ⟨by unfold told; rw [q], by unfold has; rw [q]; rfl, fun r hr e => ?_⟩
  have : r ∈ md key R := List.mem_filter.2 ⟨hr, by simpa using e⟩
  rw [q] at this; cases this
 ·have hm : x ∈ md key R := by rw [q]; exact List.mem_singleton.2 rfl
  refine .inr ⟨x, by unfold told; rw [q], by unfold has; rw [q]; rfl, (List.mem_filter.1 hm).1, hx, fun r hr e => ?_⟩
  have : r ∈ md key R := List.mem_filter.2 ⟨hr, by simpa using e⟩
  rw [q] at this
  exact List.mem_singleton.1 this
theorem told_len {key : List Int} {R : List api_Row} (hR : RL R) (hs : Srt R) : (told key R).1.Key.length < 4000000000 ∧ (told key R).1.Value.length < 4000000000 := by
 rcases told_cases key hR hs with ⟨h, _⟩ | ⟨x, h, _, hm, _⟩
 ·rw [h]; exact zero_len
 ·rw [h]
  have h1 := (hR.2 x hm).1
  have h2 := (hR.2 x hm).2.1
  exact ⟨by show x.Key.length < _; omega, by show x.Value.length < _; omega⟩
end Go.Proofs.Ytdnaoecfnjalgaa.G
namespace Go.Proofs.Ytdnaoecfnjalgaa.G
open Go Go.ChangeShapes Go.WideShapes
set_option linter.unusedVariables false
theorem key_br {xs : List Int} (h : ∀ n ∈ xs, (Lit.int .u8 n).wf = true) : brange xs := fun n hn => byteok.range (h n hn)
theorem row_RB {r : api_Row} {s : Nat} (hs : wt_api_Row r ≤ s) (hb : s ≤ 1048576) (h : ok_api_Row r) : RB r := by
 have h1 : r.Key.length + r.Value.length + 1 ≤ s := hs
 exact ⟨by omega, by omega, key_br h.1⟩
theorem arg_CL {C : List haulagelaw10_Change} (hs : (C.map wt_haulagelaw10_Change).sum ≤ 1048576) (h : ∀ o ∈ C, ok_haulagelaw10_Change o) : CL C := by
 have hl := len_sum wt_haulagelaw10_Change wt_haulagelaw10_Change_pos C
 refine ⟨by omega, fun c hc => ?_⟩
 have h1 := mem_sum wt_haulagelaw10_Change hc
 have h2 : wt_api_Row c.Row + 1 ≤ (C.map wt_haulagelaw10_Change).sum := h1
 exact row_RB (s := (C.map wt_haulagelaw10_Change).sum) (by omega) hs (h c hc)
theorem arg_two {C D : List haulagelaw10_Change} (hs : (C.map wt_haulagelaw10_Change).sum ≤ 1048576) (ht : (D.map wt_haulagelaw10_Change).sum ≤ 1048576) : C.length + D.length ≤ 2097152 := by
 have h1 := len_sum wt_haulagelaw10_Change wt_haulagelaw10_Change_pos C
 have h2 := len_sum wt_haulagelaw10_Change wt_haulagelaw10_Change_pos D
 omega
end Go.Proofs.Ytdnaoecfnjalgaa.G
namespace Go.Proofs.Ytdnaoecfnjalgaa.G
open Go
set_option linter.unusedVariables false
set_option linter.unusedSimpArgs false
def swp (l : api_Line) : api_Line := ⟨l.Key, l.Hers, l.Ours⟩
def mrg (bits : Int) : List api_Row → List api_Row → List api_Line
 | [], [] => []
 | a :: A, [] => ⟨a.Key, hRow bits a, 0⟩ :: mrg bits A []
 | [], b :: B => ⟨b.Key, 0, hRow bits b⟩ :: mrg bits [] B
 | a :: A, b :: B => if cm a.Key b.Key = true then ⟨a.Key, hRow bits a, 0⟩ :: mrg bits A (b :: B)
  else if a.Key = b.Key then (if hRow bits a = hRow bits b then mrg bits A B else ⟨b.Key, hRow bits a, hRow bits b⟩ :: mrg bits A B)
  else ⟨b.Key, 0, hRow bits b⟩ :: mrg bits (a :: A) B
termination_by A B => A.length + B.length
theorem mrg_swp (bits : Int) : ∀ A B : List api_Row, mrg bits B A = (mrg bits A B).map swp
 | [], [] => by simp [mrg]
 | a :: A, [] => by rw [mrg, mrg, List.map_cons, mrg_swp bits A []]; rfl
 | [], b :: B => by rw [mrg, mrg, List.map_cons, mrg_swp bits [] B]; rfl
 | a :: A, b :: B => by
  rw [mrg, mrg]
  by_cases c : cm a.Key b.Key = true
  ·have c2 := cm_asym c
   have n := cm_ne c
   rw [if_neg (by rw [c2]; simp), if_neg (fun e => n e.symm), if_pos c, List.map_cons, mrg_swp bits A (b :: B)]; rfl
  ·rw [if_neg c]
   by_cases e : a.Key = b.Key
   ·rw [if_neg (by rw [e]; rw [cm_irr]; simp), if_pos e.symm, if_pos e]
    by_cases q : hRow bits a = hRow bits b
    ·rw [if_pos q.symm, if_pos q, mrg_swp bits A B]
    ·rw [if_neg (fun z => q z.symm), if_neg q, List.map_cons, mrg_swp bits A B]
     simp only [swp, e]
   ·have c2 : cm b.Key a.Key = true := by
     cases h : cm b.Key a.Key with
     | true => rfl
     | false => exact absurd (cm_tri (by simpa using c) h) e
    rw [if_pos c2, if_neg e, List.map_cons, mrg_swp bits (a :: A) B]; rfl
termination_by A B => A.length + B.length
theorem mrg_len (bits : Int) : ∀ A B : List api_Row, (mrg bits A B).length ≤ A.length + B.length
 | [], [] => by simp [mrg]
 | a :: A, [] => by
  have := mrg_len bits A []
  rw [mrg]; simp only [List.length_cons, List.length_nil] at *; omega
 | [], b :: B => by
  have := mrg_len bits [] B
  rw [mrg]; simp only [List.length_cons, List.length_nil] at *; omega
 | a :: A, b :: B => by
  have h1 := mrg_len bits A (b :: B)
  have h2 := mrg_len bits A B
  have h3 := mrg_len bits (a :: A) B
  rw [mrg]
  simp only [List.length_cons] at *
  (repeat' split) <;> (try simp only [List.length_cons]) <;> omega
termination_by A B => A.length + B.length
theorem mrg_key (bits : Int) {l : api_Line} : ∀ A B : List api_Row, l ∈ mrg bits A B → (∃ r ∈ A, r.Key = l.Key) ∨ ∃ r ∈ B, r.Key = l.Key
 | [], [], h => by simp [mrg] at h
 | a :: A, [], h => by
  rw [mrg] at h
  rcases List.mem_cons.1 h with rfl | h
  ·exact .inl ⟨a, List.mem_cons_self .., rfl⟩
  ·rcases mrg_key bits A [] h with ⟨r, h1, h2⟩ | ⟨r, h1, h2⟩
   ·exact .inl ⟨r, List.mem_cons_of_mem _ h1, h2⟩
   ·exact .inr ⟨r, h1, h2⟩
 | [], b :: B, h => by
  rw [mrg] at h
  rcases List.mem_cons.1 h with rfl | h
  ·exact .inr ⟨b, List.mem_cons_self .., rfl⟩
  ·rcases mrg_key bits [] B h with ⟨r, h1, h2⟩ | ⟨r, h1, h2⟩
   ·exact .inl ⟨r, h1, h2⟩
   ·exact .inr ⟨r, List.mem_cons_of_mem _ h1, h2⟩
 | a :: A, b :: B, h => by
  have f1 : l ∈ mrg bits A (b :: B) → _ := mrg_key bits A (b :: B)
  have f2 : l ∈ mrg bits A B → _ := mrg_key bits A B
  have f3 : l ∈ mrg bits (a :: A) B → _ := mrg_key bits (a :: A) B
  have g1 : (∃ r ∈ A, r.Key = l.Key) → ∃ r ∈ a :: A, r.Key = l.Key := fun ⟨r, h1, h2⟩ => ⟨r, List.mem_cons_of_mem _ h1, h2⟩
  have g2 : (∃ r ∈ B, r.Key = l.Key) → ∃ r ∈ b :: B, r.Key = l.Key := fun ⟨r, h1, h2⟩ => ⟨r, List.mem_cons_of_mem _ h1, h2⟩
  rw [mrg] at h
  split at h
  ·rcases List.mem_cons.1 h with rfl | h
   ·exact .inl ⟨a, List.mem_cons_self .., rfl⟩
   ·exact (f1 h).imp g1 id
  ·split at h
   ·split at h
    ·exact (f2 h).imp g1 g2
    ·rcases List.mem_cons.1 h with rfl | h
     ·exact .inr ⟨b, List.mem_cons_self .., rfl⟩
     ·exact (f2 h).imp g1 g2
   ·rcases List.mem_cons.1 h with rfl | h
    ·exact .inr ⟨b, List.mem_cons_self .., rfl⟩
    ·exact (f3 h).imp id g2
termination_by A B => A.length + B.length
theorem Srt.tail {a : api_Row} {A : List api_Row} (h : Srt (a :: A)) : Srt A := (List.pairwise_cons.1 h).2
theorem Srt.head {a : api_Row} {A : List api_Row} (h : Srt (a :: A)) : ∀ x ∈ A, cm a.Key x.Key = true := (List.pairwise_cons.1 h).1
theorem mrg_cons {l : api_Line} {L : List api_Line} (h : SrtK (·.Key) L) (h2 : ∀ x ∈ L, cm l.Key x.Key = true) : SrtK (·.Key) (l :: L) := List.pairwise_cons.2 ⟨h2, h⟩
theorem mrg_srt (bits : Int) : ∀ A B : List api_Row, Srt A → Srt B → SrtK (·.Key) (mrg bits A B)
 | [], [], _, _ => by rw [mrg]; exact .nil
 | a :: A, [], h1, h2 => by
  rw [mrg]
  refine mrg_cons (mrg_srt bits A [] h1.tail h2) fun x hx => ?_
  rcases mrg_key bits _ _ hx with ⟨r, g1, g2⟩ | ⟨r, g1, _⟩
  ·rw [← g2]; exact h1.head r g1
  ·cases g1
 | [], b :: B, h1, h2 => by
  rw [mrg]
  refine mrg_cons (mrg_srt bits [] B h1 h2.tail) fun x hx => ?_
  rcases mrg_key bits _ _ hx with ⟨r, g1, _⟩ | ⟨r, g1, g2⟩
  ·cases g1
  ·rw [← g2]; exact h2.head r g1
 | a :: A, b :: B, h1, h2 => by
  rw [mrg]
  by_cases c : cm a.Key b.Key = true
  ·rw [if_pos c]
   refine mrg_cons (mrg_srt bits A (b :: B) h1.tail h2) fun x hx => ?_
   rcases mrg_key bits _ _ hx with ⟨r, g1, g2⟩ | ⟨r, g1, g2⟩
   ·rw [← g2]; exact h1.head r g1
   ·rw [← g2]
    rcases List.mem_cons.1 g1 with rfl | g1
    ·exact c
    ·exact cm_tr c (h2.head r g1)
  ·rw [if_neg c]
   by_cases e : a.Key = b.Key
   ·rw [if_pos e]
    split
    ·exact mrg_srt bits A B h1.tail h2.tail
    ·refine mrg_cons (mrg_srt bits A B h1.tail h2.tail) fun x hx => ?_
     rcases mrg_key bits _ _ hx with ⟨r, g1, g2⟩ | ⟨r, g1, g2⟩
     ·rw [← g2]; show cm b.Key _ = true; rw [← e]; exact h1.head r g1
     ·rw [← g2]; exact h2.head r g1
   ·have c2 : cm b.Key a.Key = true := by
     cases h : cm b.Key a.Key with
     | true => rfl
     | false => exact absurd (cm_tri (by simpa using c) h) e
    rw [if_neg e]
    refine mrg_cons (mrg_srt bits (a :: A) B h1 h2.tail) fun x hx => ?_
    rcases mrg_key bits _ _ hx with ⟨r, g1, g2⟩ | ⟨r, g1, g2⟩
    ·rw [← g2]
     rcases List.mem_cons.1 g1 with rfl | g1
     ·exact c2
     ·exact cm_tr c2 (h1.head r g1)
    ·rw [← g2]; exact h2.head r g1
termination_by A B => A.length + B.length
def dgo (bits : Int) (key : List Int) (R : List api_Row) : Option Int := (md key R).head?.map (hRow bits)
theorem dgo_nil (bits : Int) (key : List Int) : dgo bits key [] = none := rfl
theorem dgo_self (bits : Int) (a : api_Row) (A : List api_Row) : dgo bits a.Key (a :: A) = some (hRow bits a) := by simp [dgo, md]
theorem dgo_ne {bits : Int} {a : api_Row} {A : List api_Row} {key : List Int} (h : a.Key ≠ key) : dgo bits key (a :: A) = dgo bits key A := by simp [dgo, md, h]
theorem dgo_none {bits : Int} {A : List api_Row} {key : List Int} (h : ∀ x ∈ A, x.Key ≠ key) : dgo bits key A = none := by
 unfold dgo md
 rw [filter_none fun x hx => by simpa using h x hx]; rfl
theorem mrg_iff (bits : Int) (key : List Int) : ∀ A B : List api_Row, Srt A → Srt B → ((∃ l ∈ mrg bits A B, l.Key = key) ↔ dgo bits key A ≠ dgo bits key B)
 | [], [], _, _ => by rw [mrg]; simp [dgo_nil]
 | a :: A, [], h1, h2 => by
  have ih := mrg_iff bits key A [] h1.tail h2
  rw [mrg]
  by_cases e : a.Key = key
  ·subst e
   rw [dgo_self, dgo_nil]
   exact ⟨fun _ => by simp, fun _ => ⟨_, List.mem_cons_self .., rfl⟩⟩
  ·rw [dgo_ne e, ← ih]
   exact ⟨fun ⟨l, h, k⟩ => by
    rcases List.mem_cons.1 h with rfl | h
    ·exact absurd k e
    ·exact ⟨l, h, k⟩, fun ⟨l, h, k⟩ => ⟨l, List.mem_cons_of_mem _ h, k⟩⟩
 | [], b :: B, h1, h2 => by
  have ih := mrg_iff bits key [] B h1 h2.tail
  rw [mrg]
  by_cases e : b.Key = key
  ·subst e
   rw [dgo_self, dgo_nil]
   exact ⟨fun _ => by simp, fun _ => ⟨_, List.mem_cons_self .., rfl⟩⟩
  ·rw [dgo_ne e, ← ih]
   exact ⟨fun ⟨l, h, k⟩ => by
    rcases List.mem_cons.1 h with rfl | h
    ·exact absurd k e
    ·exact ⟨l, h, k⟩, fun ⟨l, h, k⟩ => ⟨l, List.mem_cons_of_mem _ h, k⟩⟩
 | a :: A, b :: B, h1, h2 => by
  rw [mrg]
  by_cases c : cm a.Key b.Key = true
  ·rw [if_pos c]
   have ih := mrg_iff bits key A (b :: B) h1.tail h2
   by_cases e : a.Key = key
   ·subst e
    rw [dgo_self, dgo_none (A := b :: B) fun x hx => ?_]
    ·exact ⟨fun _ => by simp, fun _ => ⟨_, List.mem_cons_self .., rfl⟩⟩
    ·rcases List.mem_cons.1 hx with rfl | hx
     ·exact fun q => cm_ne c q.symm
     ·exact fun q => cm_ne (cm_tr c (h2.head x hx)) q.symm
   ·rw [dgo_ne e, ← ih]
    exact ⟨fun ⟨l, h, k⟩ => by
     rcases List.mem_cons.1 h with rfl | h
     ·exact absurd k e
     ·exact ⟨l, h, k⟩, fun ⟨l, h, k⟩ => ⟨l, List.mem_cons_of_mem _ h, k⟩⟩
  ·rw [if_neg c]
   by_cases e : a.Key = b.Key
   ·rw [if_pos e]
    have ih := mrg_iff bits key A B h1.tail h2.tail
    by_cases ek : b.Key = key
    ·subst ek
     have hA : dgo bits b.Key (a :: A) = some (hRow bits a) := by rw [← e]; exact dgo_self ..
     rw [hA, dgo_self]
     have nA : dgo bits b.Key A = none := dgo_none fun x hx q => cm_ne (h1.head x hx) (e.trans q.symm)
     have nB : dgo bits b.Key B = none := dgo_none fun x hx q => cm_ne (h2.head x hx) q.symm
     rw [nA, nB] at ih
     by_cases q : hRow bits a = hRow bits b
     ·rw [if_pos q, ih, q]; simp
     ·rw [if_neg q]
      exact ⟨fun _ => by simpa using q, fun _ => ⟨_, List.mem_cons_self .., rfl⟩⟩
    ·rw [dgo_ne (by rw [e]; exact ek), dgo_ne ek, ← ih]
     split
     ·exact Iff.rfl
     ·exact ⟨fun ⟨l, h, k⟩ => by
       rcases List.mem_cons.1 h with rfl | h
       ·exact absurd k ek
       ·exact ⟨l, h, k⟩, fun ⟨l, h, k⟩ => ⟨l, List.mem_cons_of_mem _ h, k⟩⟩
   ·have c2 : cm b.Key a.Key = true := by
     cases h : cm b.Key a.Key with
     | true => rfl
     | false => exact absurd (cm_tri (by simpa using c) h) e
    rw [if_neg e]
    have ih := mrg_iff bits key (a :: A) B h1 h2.tail
    by_cases ek : b.Key = key
    ·subst ek
     rw [dgo_self, dgo_none (A := a :: A) fun x hx => ?_]
     ·exact ⟨fun _ => by simp, fun _ => ⟨_, List.mem_cons_self .., rfl⟩⟩
     ·rcases List.mem_cons.1 hx with rfl | hx
      ·exact fun q => cm_ne c2 q.symm
      ·exact fun q => cm_ne (cm_tr c2 (h1.head x hx)) q.symm
    ·rw [dgo_ne (key := key) (a := b) ek, ← ih]
     exact ⟨fun ⟨l, h, k⟩ => by
      rcases List.mem_cons.1 h with rfl | h
      ·exact absurd k ek
      ·exact ⟨l, h, k⟩, fun ⟨l, h, k⟩ => ⟨l, List.mem_cons_of_mem _ h, k⟩⟩
termination_by A B => A.length + B.length
theorem mrg_nil (bits : Int) : ∀ A B : List api_Row, mrg bits A B = [] → A.map (hRow bits) = B.map (hRow bits)
 | [], [], _ => rfl
 | a :: A, [], h => by rw [mrg] at h; cases h
 | [], b :: B, h => by rw [mrg] at h; cases h
 | a :: A, b :: B, h => by
  rw [mrg] at h
  split at h
  ·cases h
  ·split at h
   ·split at h
    ·rename_i q
     rw [List.map_cons, List.map_cons, q, mrg_nil bits A B h]
    ·cases h
   ·cases h
termination_by A B => A.length + B.length
theorem hBk_map (k : Nat) (bits : Int) {A B : List api_Row} (h : A.map (hRow bits) = B.map (hRow bits)) : hBk k bits A = hBk k bits B := by
 unfold hBk bkB
 have : ∀ R : List api_Row, (R.flatMap fun r => dk k (hRow bits r)) = (R.map (hRow bits)).flatMap (dk k) := fun R => by rw [List.flatMap_map]
 rw [this, this, h]
def trv (D1 D2 : List Int) : Nat → Nat → List Nat × Nat
 | 0, n => if rd D1 (n : Int) = rd D2 (n : Int) then ([], 1) else ([n - 256], 1)
 | h + 1, n => if rd D1 (n : Int) = rd D2 (n : Int) then ([], 1) else
  ((trv D1 D2 h (2 * n + 1)).1 ++ (trv D1 D2 h (2 * n)).1, 1 + (trv D1 D2 h (2 * n + 1)).2 + (trv D1 D2 h (2 * n)).2)
theorem trv_swap (D1 D2 : List Int) : ∀ h n, trv D2 D1 h n = trv D1 D2 h n
 | 0, n => by
  unfold trv
  by_cases c : rd D1 (n : Int) = rd D2 (n : Int)
  ·rw [if_pos c, if_pos c.symm]
  ·rw [if_neg c, if_neg fun q => c q.symm]
 | h + 1, n => by
  unfold trv
  rw [trv_swap D1 D2 h, trv_swap D1 D2 h]
  by_cases c : rd D1 (n : Int) = rd D2 (n : Int)
  ·rw [if_pos c, if_pos c.symm]
  ·rw [if_neg c, if_neg fun q => c q.symm]
theorem trv_cnt (D1 D2 : List Int) : ∀ h n, 1 ≤ (trv D1 D2 h n).2 ∧ (trv D1 D2 h n).2 + 1 ≤ 2 ^ (h + 1)
 | 0, n => by unfold trv; split <;> simp
 | h + 1, n => by
  have h1 := trv_cnt D1 D2 h (2 * n)
  have h2 := trv_cnt D1 D2 h (2 * n + 1)
  have e : 2 ^ (h + 1 + 1) = 2 * 2 ^ (h + 1) := by rw [Nat.pow_succ]; omega
  unfold trv
  split
  ·have : 0 < 2 ^ (h + 1) := Nat.two_pow_pos _
   simp only; omega
  ·simp only; omega
theorem trv_mem (D1 D2 : List Int) : ∀ h n b, 2 ^ (8 - h) ≤ n → n < 2 * 2 ^ (8 - h) → h ≤ 8 → b ∈ (trv D1 D2 h n).1 → n * 2 ^ h ≤ 256 + b ∧ 256 + b < (n + 1) * 2 ^ h ∧ b < 256 ∧ rd D1 ((256 + b : Nat) : Int) ≠ rd D2 ((256 + b : Nat) : Int)
 | 0, n, b, h1, h2, _, hb => by
  unfold trv at hb
  split at hb
  ·cases hb
  ·rename_i c
   have hb := List.mem_singleton.1 hb
   have e1 : 2 ^ (8 - 0) = 256 := rfl
   rw [e1] at h1 h2
   rw [Nat.pow_zero, Nat.mul_one, Nat.mul_one]
   have e2 : 256 + b = n := by omega
   rw [e2]
   exact ⟨Nat.le_refl _, by omega, by omega, c⟩
 | h + 1, n, b, h1, h2, h8, hb => by
  have e : 2 ^ (8 - h) = 2 * 2 ^ (8 - (h + 1)) := by
   rw [show 8 - h = (8 - (h + 1)) + 1 by omega, Nat.pow_succ]; omega
  have ep : 2 ^ (h + 1) = 2 * 2 ^ h := by rw [Nat.pow_succ]; omega
  unfold trv at hb
  split at hb
  ·cases hb
  ·rcases List.mem_append.1 hb with hb | hb
   ·obtain ⟨a1, a2, a3, a4⟩ := trv_mem D1 D2 h (2 * n + 1) b (by omega) (by omega) (by omega) hb
    refine ⟨Nat.le_trans ?_ a1, Nat.lt_of_lt_of_le a2 ?_, a3, a4⟩
    ·rw [ep, ← Nat.mul_assoc]; exact Nat.mul_le_mul_right _ (by omega)
    ·rw [ep, ← Nat.mul_assoc]; exact Nat.mul_le_mul_right _ (by omega)
   ·obtain ⟨a1, a2, a3, a4⟩ := trv_mem D1 D2 h (2 * n) b (by omega) (by omega) (by omega) hb
    refine ⟨Nat.le_trans ?_ a1, Nat.lt_of_lt_of_le a2 ?_, a3, a4⟩
    ·rw [ep, ← Nat.mul_assoc]; exact Nat.mul_le_mul_right _ (by omega)
    ·rw [ep, ← Nat.mul_assoc]; exact Nat.mul_le_mul_right _ (by omega)
theorem trv_desc (D1 D2 : List Int) : ∀ h n, 2 ^ (8 - h) ≤ n → n < 2 * 2 ^ (8 - h) → h ≤ 8 → (trv D1 D2 h n).1.Pairwise fun a b => b < a
 | 0, n, _, _, _ => by unfold trv; split <;> simp
 | h + 1, n, h1, h2, h8 => by
  have e : 2 ^ (8 - h) = 2 * 2 ^ (8 - (h + 1)) := by
   rw [show 8 - h = (8 - (h + 1)) + 1 by omega, Nat.pow_succ]; omega
  unfold trv
  split
  ·exact .nil
  ·refine List.pairwise_append.2 ⟨trv_desc D1 D2 h _ (by omega) (by omega) (by omega), trv_desc D1 D2 h _ (by omega) (by omega) (by omega), fun a ha b hb => ?_⟩
   have a1 := (trv_mem D1 D2 h (2 * n + 1) a (by omega) (by omega) (by omega) ha).1
   have b1 := (trv_mem D1 D2 h (2 * n) b (by omega) (by omega) (by omega) hb).2.1
   omega
def dif (D1 D2 : List Int) (n : Nat) : Bool := !decide (rd D1 (n : Int) = rd D2 (n : Int))
theorem trv_few (D1 D2 : List Int) : ∀ h n, 2 ^ (8 - h) ≤ n → n < 2 * 2 ^ (8 - h) → h ≤ 8 → (trv D1 D2 h n).1.length ≤ (List.range' (n * 2 ^ h) (2 ^ h)).countP (dif D1 D2)
 | 0, n, _, _, _ => by
  unfold trv
  rw [Nat.pow_zero, Nat.mul_one]
  have er : List.range' n 1 = [n] := rfl
  rw [er]
  split
  ·simp
  ·rename_i c
   simp [dif, c]
 | h + 1, n, h1, h2, h8 => by
  have e : 2 ^ (8 - h) = 2 * 2 ^ (8 - (h + 1)) := by
   rw [show 8 - h = (8 - (h + 1)) + 1 by omega, Nat.pow_succ]; omega
  have i1 := trv_few D1 D2 h (2 * n) (by omega) (by omega) (by omega)
  have i2 := trv_few D1 D2 h (2 * n + 1) (by omega) (by omega) (by omega)
  have ea : List.range' (n * 2 ^ (h + 1)) (2 ^ (h + 1)) = List.range' (2 * n * 2 ^ h) (2 ^ h) ++ List.range' ((2 * n + 1) * 2 ^ h) (2 ^ h) := by
   have := List.range'_append (s := 2 * n * 2 ^ h) (m := 2 ^ h) (n := 2 ^ h) (step := 1)
   rw [Nat.one_mul, ← Nat.succ_mul] at this
   rw [show (2 * n + 1) * 2 ^ h = (2 * n).succ * 2 ^ h from rfl, this]
   congr 1
   ·rw [Nat.pow_succ]
    rw [Nat.mul_comm 2 n, Nat.mul_assoc, Nat.mul_comm 2 (2 ^ h)]
   ·rw [Nat.pow_succ]; omega
  rw [ea, List.countP_append]
  unfold trv
  split
  ·simp
  ·simp only [List.length_append]; omega
theorem trv_some {k : Nat} {bits : Int} {D1 D2 : List Int} (h1 : ∀ n : Nat, 1 ≤ n → n < 256 → nodeOk k bits D1 n) (h2 : ∀ n : Nat, 1 ≤ n → n < 256 → nodeOk k bits D2 n) : ∀ (h n : Nat), 2 ^ (8 - h) ≤ n → n < 2 * 2 ^ (8 - h) → h ≤ 8 → rd D1 (n : Int) ≠ rd D2 (n : Int) → (trv D1 D2 h n).1 ≠ []
 | 0, n, _, _, _, c => by unfold trv; rw [if_neg c]; simp
 | h + 1, n, g1, g2, h8, c => by
  have e : 2 ^ (8 - h) = 2 * 2 ^ (8 - (h + 1)) := by
   rw [show 8 - h = (8 - (h + 1)) + 1 by omega, Nat.pow_succ]; omega
  have hp : 0 < 2 ^ (8 - (h + 1)) := Nat.two_pow_pos _
  have hq : 2 ^ (8 - h) ≤ 256 := Nat.pow_le_pow_right (n := 2) (by decide) (show 8 - h ≤ 8 by omega)
  have a1 := h1 n (by omega) (by omega)
  have a2 := h2 n (by omega) (by omega)
  unfold nodeOk at a1 a2
  unfold trv
  rw [if_neg c]
  intro q
  obtain ⟨q1, q2⟩ := List.append_eq_nil_iff.1 q
  have e1 : rd D1 ((2 * n : Nat) : Int) = rd D2 ((2 * n : Nat) : Int) := Decidable.byContradiction fun z => trv_some h1 h2 h (2 * n) (by omega) (by omega) (by omega) z q2
  have e2 : rd D1 ((2 * n + 1 : Nat) : Int) = rd D2 ((2 * n + 1 : Nat) : Int) := Decidable.byContradiction fun z => trv_some h1 h2 h (2 * n + 1) (by omega) (by omega) (by omega) z q1
  exact c (by rw [a1, a2, e1, e2])
theorem trv_bound {k : Nat} {bits : Int} {D1 D2 : List Int} (h1 : ∀ n : Nat, 1 ≤ n → n < 256 → nodeOk k bits D1 n) (h2 : ∀ n : Nat, 1 ≤ n → n < 256 → nodeOk k bits D2 n) : ∀ (h n : Nat), 2 ^ (8 - h) ≤ n → n < 2 * 2 ^ (8 - h) → h ≤ 8 → (trv D1 D2 h n).2 ≤ 1 + 2 * h * (trv D1 D2 h n).1.length
 | 0, n, _, _, _ => by unfold trv; split <;> simp
 | h + 1, n, g1, g2, h8 => by
  have e : 2 ^ (8 - h) = 2 * 2 ^ (8 - (h + 1)) := by
   rw [show 8 - h = (8 - (h + 1)) + 1 by omega, Nat.pow_succ]; omega
  have i1 := trv_bound h1 h2 h (2 * n) (by omega) (by omega) (by omega)
  have i2 := trv_bound h1 h2 h (2 * n + 1) (by omega) (by omega) (by omega)
  by_cases c : rd D1 (n : Int) = rd D2 (n : Int)
  ·unfold trv; rw [if_pos c]; simp
  ·have hs := trv_some h1 h2 (h + 1) n g1 g2 h8 c
   have hl := List.length_pos_iff.2 hs
   unfold trv at hl ⊢
   rw [if_neg c] at hl ⊢
   simp only [List.length_append] at hl ⊢
   generalize (trv D1 D2 h (2 * n)).1.length = x at *
   generalize (trv D1 D2 h (2 * n + 1)).1.length = y at *
   have : 2 * (h + 1) * (y + x) = 2 * h * y + 2 * h * x + 2 * (y + x) := by
    rw [Nat.mul_add 2 h 1, Nat.add_mul, Nat.mul_add (2 * h)]
   omega
theorem trv_path (D1 D2 : List Int) {b : Nat} (hb : b < 256) : ∀ h, h ≤ 8 → (∀ s, s ≤ h → rd D1 (((256 + b) / 2 ^ s : Nat) : Int) ≠ rd D2 (((256 + b) / 2 ^ s : Nat) : Int)) → b ∈ (trv D1 D2 h ((256 + b) / 2 ^ h)).1
 | 0, _, hd => by
  have := hd 0 (Nat.le_refl _)
  unfold trv
  rw [if_neg this, Nat.pow_zero, Nat.div_one]
  exact List.mem_singleton.2 (by omega)
 | h + 1, h8, hd => by
  have ih := trv_path D1 D2 hb h (by omega) fun s hs => hd s (by omega)
  have hn := node_next (256 + b) h
  have := hd (h + 1) (Nat.le_refl _)
  unfold trv
  rw [if_neg this]
  rcases Nat.mod_two_eq_zero_or_one ((256 + b) / 2 ^ h) with c | c
  ·have e : 2 * ((256 + b) / 2 ^ (h + 1)) = (256 + b) / 2 ^ h := by omega
   rw [e]
   exact List.mem_append.2 (.inr ih)
  ·have e : 2 * ((256 + b) / 2 ^ (h + 1)) + 1 = (256 + b) / 2 ^ h := by omega
   rw [e]
   exact List.mem_append.2 (.inl ih)
theorem clone_eq {p : List Int} (h : p.length ≤ 1000000000) : bytes_Clone.f p = some p := by unfold bytes_Clone.f; rw [if_pos (by omega)]
section
variable {k : Nat} (hk : Fuel k) {bits : Int} (hb : okb bits)
include hk hb
omit hk hb in
theorem j8_lt {A B : List api_Row} {out : List api_Line} {c o : Int} {key : List Int} (hc : c < 0) : merkle_hold.j8 k bits B out c A key o = merkle_hold.j9 out c A o B key 0 := by
 unfold merkle_hold.j8; rw [if_neg (by omega)]
theorem j8_ge {b : api_Row} {A B : List api_Row} {out : List api_Line} {c o : Int} {key : List Int} (hc : 0 ≤ c) (hr : RB b) : merkle_hold.j8 k bits (b :: B) out c A key o = merkle_hold.j9 out c A o B b.Key (hRow bits b) := by
 have e : rd (b :: B) 0 = b := rfl
 unfold merkle_hold.j8
 rw [if_pos hc, if_pos ⟨by omega, by simp only [List.length_cons]; omega⟩, if_pos ⟨by omega, by simp only [List.length_cons]; omega⟩, e, bind_eq (clone_eq (by have := hr.1; omega)), bind_eq (ofRow_eq hk hb hr), if_pos ⟨by omega, by simp only [List.length_cons]; omega⟩]
 rfl
omit hk hb in
theorem j7_gt {A B : List api_Row} {out : List api_Line} {c : Int} (hc : 0 < c) : merkle_hold.j7 k bits A B out c = merkle_hold.j8 k bits B out c A [] 0 := by
 unfold merkle_hold.j7; rw [if_neg (by omega)]
theorem j7_le {a : api_Row} {A B : List api_Row} {out : List api_Line} {c : Int} (hc : c ≤ 0) (hr : RB a) : merkle_hold.j7 k bits (a :: A) B out c = merkle_hold.j8 k bits B out c A a.Key (hRow bits a) := by
 have e : rd (a :: A) 0 = a := rfl
 unfold merkle_hold.j7
 rw [if_pos hc, if_pos ⟨by omega, by simp only [List.length_cons]; omega⟩, if_pos ⟨by omega, by simp only [List.length_cons]; omega⟩, e, bind_eq (clone_eq (by have := hr.1; omega)), bind_eq (ofRow_eq hk hb hr), if_pos ⟨by omega, by simp only [List.length_cons]; omega⟩]
 rfl
omit hk hb in
theorem j9_ne {A B : List api_Row} {out : List api_Line} {c o e : Int} {key : List Int} (hc : c ≠ 0) (hl : out.length ≤ 1000000000000) : merkle_hold.j9 out c A o B key e = some (.next (A, B, out ++ [⟨key, o, e⟩])) := by
 unfold merkle_hold.j9 merkle_hold.j10
 rw [if_neg hc, if_pos rfl, if_pos (by simp only [List.length_singleton]; omega)]
omit hk hb in
theorem j9_eq {A B : List api_Row} {out : List api_Line} {o e : Int} {key : List Int} (hl : out.length ≤ 1000000000000) : merkle_hold.j9 out 0 A o B key e = some (.next (A, B, if o = e then out else out ++ [⟨key, o, e⟩])) := by
 unfold merkle_hold.j9 merkle_hold.j10
 rw [if_pos rfl]
 by_cases q : o = e
 ·rw [if_pos q, if_neg (by simp [q])]
 ·rw [if_neg q, if_pos (by simp [q]), if_pos (by simp only [List.length_singleton]; omega)]
theorem hold_loop : ∀ (n : Nat) (A B : List api_Row) (out : List api_Line) (m : Nat), (∀ r ∈ A, RB r) → (∀ r ∈ B, RB r) → A.length + B.length ≤ n → n < m → out.length + n ≤ 1000000000000 →
  loop (fun (s_ : (List api_Row) × (List api_Row) × (List api_Line)) => merkle_hold.b11 k bits s_.1 s_.2.1 s_.2.2) m (A, B, out) = some (out ++ mrg bits A B)
 | _, _, _, _, 0, _, _, _, h, _ => absurd h (by omega)
 | n, [], [], out, m + 1, hA, hB, hl, hm, ho => by
  rw [mrg, List.append_nil]
  refine loop_done ?_
  dsimp only
  unfold merkle_hold.b11 merkle_hold.j6
  rw [if_neg (by simp), if_neg (by simp)]
 | 0, a :: A, B, out, m + 1, hA, hB, hl, hm, ho => by simp only [List.length_cons] at hl; omega
 | 0, [], b :: B, out, m + 1, hA, hB, hl, hm, ho => by simp only [List.length_cons] at hl; omega
 | n + 1, a :: A, [], out, m + 1, hA, hB, hl, hm, ho => by
  have ra := hA a (List.mem_cons_self ..)
  simp only [List.length_cons, List.length_nil] at hl
  rw [loop_next (s' := (A, [], out ++ [⟨a.Key, hRow bits a, 0⟩])), hold_loop n A [] _ m (fun r h => hA r (List.mem_cons_of_mem _ h)) hB (by simp only [List.length_nil]; omega) (by omega) (by simp only [List.length_append, List.length_singleton]; omega), mrg, List.append_assoc]; rfl
  dsimp only
  unfold merkle_hold.b11 merkle_hold.j6
  rw [if_pos (by simp only [List.length_cons]; omega), if_pos rfl, if_neg (by simp only [List.length_cons]; omega), if_pos (by simp), j7_le hk hb (by omega) ra, j8_lt (by omega), j9_ne (by omega) (by omega)]
 | n + 1, [], b :: B, out, m + 1, hA, hB, hl, hm, ho => by
  have rb := hB b (List.mem_cons_self ..)
  simp only [List.length_cons, List.length_nil] at hl
  rw [loop_next (s' := ([], B, out ++ [⟨b.Key, 0, hRow bits b⟩])), hold_loop n [] B _ m hA (fun r h => hB r (List.mem_cons_of_mem _ h)) (by simp only [List.length_nil]; omega) (by omega) (by simp only [List.length_append, List.length_singleton]; omega), mrg, List.append_assoc]; rfl
  dsimp only
  unfold merkle_hold.b11 merkle_hold.j6
  rw [if_neg (by simp), decide_eq_true (by simp only [List.length_cons]; omega), if_pos rfl, if_pos (by simp), j7_gt (by omega), j8_ge hk hb (by omega) rb, j9_ne (by omega) (by omega)]
 | n + 1, a :: A, b :: B, out, m + 1, hA, hB, hl, hm, ho => by
  have ra := hA a (List.mem_cons_self ..)
  have rb := hB b (List.mem_cons_self ..)
  have ta : ∀ r ∈ A, RB r := fun r h => hA r (List.mem_cons_of_mem _ h)
  have tb : ∀ r ∈ B, RB r := fun r h => hB r (List.mem_cons_of_mem _ h)
  simp only [List.length_cons] at hl
  have e1 : rd (a :: A) 0 = a := rfl
  have e2 : rd (b :: B) 0 = b := rfl
  have st : merkle_hold.b11 k bits (a :: A) (b :: B) out = merkle_hold.j7 k bits (a :: A) (b :: B) out (if cm a.Key b.Key = true then -1 else if a.Key = b.Key then 0 else 1) := by
   unfold merkle_hold.b11 merkle_hold.j6
   rw [if_pos (by simp only [List.length_cons]; omega), if_pos rfl, if_neg (by simp only [List.length_cons]; omega), if_neg (by simp only [List.length_cons]; omega), if_pos ⟨by omega, by simp only [List.length_cons]; omega⟩, if_pos ⟨by omega, by simp only [List.length_cons]; omega⟩, e1, e2, bind_eq (byKey_eq ra.2.2 rb.2.2)]
  rw [mrg]
  by_cases c : cm a.Key b.Key = true
  ·rw [if_pos c] at st ⊢
   rw [loop_next (s' := (A, b :: B, out ++ [⟨a.Key, hRow bits a, 0⟩])), hold_loop n A (b :: B) _ m ta hB (by simp only [List.length_cons]; omega) (by omega) (by simp only [List.length_append, List.length_singleton]; omega), List.append_assoc]; rfl
   dsimp only
   rw [st, j7_le hk hb (by omega) ra, j8_lt (by omega), j9_ne (by omega) (by omega)]
  ·rw [if_neg c] at st ⊢
   by_cases e : a.Key = b.Key
   ·rw [if_pos e] at st ⊢
    rw [loop_next (s' := (A, B, if hRow bits a = hRow bits b then out else out ++ [⟨b.Key, hRow bits a, hRow bits b⟩]))]
    ·by_cases q : hRow bits a = hRow bits b
     ·rw [if_pos q, if_pos q]
      exact hold_loop n A B _ m ta tb (by omega) (by omega) (by omega)
     ·rw [if_neg q, if_neg q, hold_loop n A B _ m ta tb (by omega) (by omega) (by simp only [List.length_append, List.length_singleton]; omega), List.append_assoc]; rfl
    ·dsimp only
     rw [st, j7_le hk hb (by omega) ra, j8_ge hk hb (by omega) rb, j9_eq (by omega)]
   ·rw [if_neg e] at st ⊢
    rw [loop_next (s' := (a :: A, B, out ++ [⟨b.Key, 0, hRow bits b⟩])), hold_loop n (a :: A) B _ m hA tb (by simp only [List.length_cons]; omega) (by omega) (by simp only [List.length_append, List.length_singleton]; omega), List.append_assoc]; rfl
    dsimp only
    rw [st, j7_gt (by omega), j8_ge hk hb (by omega) rb, j9_ne (by omega) (by omega)]
theorem hold_eq {A B : List api_Row} (hA : RL A) (hB : RL B) : merkle_hold.f k A B bits = some (mrg bits A B) := by
 have h24 : 1099511627776 ≤ k := hk
 have h1 := hA.1
 have h2 := hB.1
 unfold merkle_hold.f
 rw [bind_eq (hold_loop hk hb (A.length + B.length) A B [] k hA.2 hB.2 (Nat.le_refl _) (by omega) (by simp only [List.length_nil]; omega))]
 rfl
def LLs (bits : Int) (R1 R2 : List api_Row) (L : List Nat) : List api_Line := L.flatMap fun b => mrg bits (fbk b R1) (fbk b R2)
omit hk hb in
theorem LLs_app (bits : Int) (R1 R2 : List api_Row) (L M : List Nat) : LLs bits R1 R2 (L ++ M) = LLs bits R1 R2 L ++ LLs bits R1 R2 M := List.flatMap_append
omit hk hb in
theorem LLs_len (bits : Int) {R1 R2 : List api_Row} (h1 : RL R1) (h2 : RL R2) : ∀ L : List Nat, (LLs bits R1 R2 L).length ≤ 8388608 * L.length
 | [] => by simp [LLs]
 | b :: L => by
  have ih := LLs_len bits h1 h2 L
  have g1 := mrg_len bits (fbk b R1) (fbk b R2)
  have g2 := fb_len b R1
  have g3 := fb_len b R2
  have g4 := h1.1
  have g5 := h2.1
  unfold LLs at ih ⊢
  rw [List.flatMap_cons, List.length_append, List.length_cons]
  omega
omit hk hb in
theorem trv_len (D1 D2 : List Int) : ∀ h n, (trv D1 D2 h n).1.length ≤ (trv D1 D2 h n).2
 | 0, n => by unfold trv; split <;> simp
 | h + 1, n => by
  have h1 := trv_len D1 D2 h (2 * n)
  have h2 := trv_len D1 D2 h (2 * n + 1)
  unfold trv
  split
  ·simp
  ·simp only [List.length_append]; omega
theorem diff_loop {t u : Mer} {R1 R2 : List api_Row} (h1 : MI k bits t R1) (h2 : MI k bits u R2) (hR1 : RL R1) (hR2 : RL R2) : ∀ (h n m : Nat) (l : List api_Line) (i : Nat) (st : List Int), 2 ^ (8 - h) ≤ n → n < 2 * 2 ^ (8 - h) → h ≤ 8 → l.length + 8388608 * (trv t.digests u.digests h n).2 ≤ 10000000000 → i + (trv t.digests u.digests h n).2 ≤ 1000000 → st.length + (trv t.digests u.digests h n).2 ≤ 1000000 →
  loop (fun (s_ : (List api_Line) × Int × (List Int)) => merkle_Diff.b2 k t u s_.1 s_.2.1 s_.2.2) (m + (trv t.digests u.digests h n).2) (l, (i : Int), st ++ [(n : Int)]) = loop (fun (s_ : (List api_Line) × Int × (List Int)) => merkle_Diff.b2 k t u s_.1 s_.2.1 s_.2.2) m (l ++ LLs bits R1 R2 (trv t.digests u.digests h n).1, ((i + (trv t.digests u.digests h n).2 : Nat) : Int), st) := by
 intro h
 induction h with
 | zero =>
  intro n m l i st g1 g2 g3 g4 g5 g6
  have e1 : 2 ^ (8 - 0) = 256 := rfl
  rw [e1] at g1 g2
  have hst : (st ++ [(n : Int)]).length = st.length + 1 := by simp
  have hw : IntKind.i64.wrap (((st ++ [(n : Int)]).length : Int) - 1) = (st.length : Int) := by rw [hst, wr (by omega) (by omega)]; omega
  have hr : rd (st ++ [(n : Int)]) (st.length : Int) = (n : Int) := by rw [rd_eq (by simp)]; simp
  have ht : (st ++ [(n : Int)]).take (st.length : Int).toNat = st := by simp
  unfold trv at g4 g5 g6 ⊢
  by_cases c : rd t.digests (n : Int) = rd u.digests (n : Int)
  ·rw [if_pos c] at g4 g5 g6 ⊢
   dsimp only at g4 g5 g6 ⊢
   rw [loop_next (s' := (l, ((i + 1 : Nat) : Int), st))]
   ·simp [LLs]
   ·dsimp only
    unfold merkle_Diff.b2
    rw [hw, hr, ht, if_pos (by omega), if_pos (by omega), if_pos (by omega), if_pos (by omega), if_pos (by omega), if_pos c, wrS i (by omega)]
  ·rw [if_neg c] at g4 g5 g6 ⊢
   dsimp only at g4 g5 g6 ⊢
   have e2 : IntKind.i64.wrap ((n : Int) - 256) = ((n - 256 : Nat) : Int) := by rw [wr (by omega) (by omega)]; omega
   have eh := hold_eq hk hb (hR1.fbk (n - 256)) (hR2.fbk (n - 256))
   have hlen := LLs_len bits hR1 hR2 [n - 256]
   have el : LLs bits R1 R2 [n - 256] = mrg bits (fbk (n - 256) R1) (fbk (n - 256) R2) := by simp [LLs]
   rw [el] at hlen ⊢
   simp only [List.length_singleton] at hlen
   rw [loop_next (s' := (l ++ mrg bits (fbk (n - 256) R1) (fbk (n - 256) R2), ((i + 1 : Nat) : Int), st))]
   dsimp only
   unfold merkle_Diff.b2
   rw [hw, hr, ht, if_pos (by omega), if_pos (by omega), if_pos (by omega), if_pos (by omega), if_pos (by omega), if_neg c, if_neg (by omega), e2, if_pos (by omega), if_pos (by omega), h1.rows _ (by omega), h2.rows _ (by omega), h1.hbits, bind_eq eh, if_pos (by omega), wrS i (by omega)]
 | succ h ih =>
  intro n m l i st g1 g2 g3 g4 g5 g6
  have e : 2 ^ (8 - h) = 2 * 2 ^ (8 - (h + 1)) := by
   rw [show 8 - h = (8 - (h + 1)) + 1 by omega, Nat.pow_succ]; omega
  have hp : 0 < 2 ^ (8 - (h + 1)) := Nat.two_pow_pos _
  have hq : 2 ^ (8 - h) ≤ 256 := Nat.pow_le_pow_right (n := 2) (by decide) (show 8 - h ≤ 8 by omega)
  have hst : (st ++ [(n : Int)]).length = st.length + 1 := by simp
  have hw : IntKind.i64.wrap (((st ++ [(n : Int)]).length : Int) - 1) = (st.length : Int) := by rw [hst, wr (by omega) (by omega)]; omega
  have hr : rd (st ++ [(n : Int)]) (st.length : Int) = (n : Int) := by rw [rd_eq (by simp)]; simp
  have ht : (st ++ [(n : Int)]).take (st.length : Int).toNat = st := by simp
  unfold trv at g4 g5 g6 ⊢
  by_cases c : rd t.digests (n : Int) = rd u.digests (n : Int)
  ·rw [if_pos c] at g4 g5 g6 ⊢
   dsimp only at g4 g5 g6 ⊢
   rw [loop_next (s' := (l, ((i + 1 : Nat) : Int), st))]
   ·simp [LLs]
   ·dsimp only
    unfold merkle_Diff.b2
    rw [hw, hr, ht, if_pos (by omega), if_pos (by omega), if_pos (by omega), if_pos (by omega), if_pos (by omega), if_pos c, wrS i (by omega)]
  ·rw [if_neg c] at g4 g5 g6 ⊢
   dsimp only at g4 g5 g6 ⊢
   have w1 : IntKind.i64.wrap (2 * (n : Int)) = ((2 * n : Nat) : Int) := by rw [wr (by omega) (by omega)]; omega
   have w2 : IntKind.i64.wrap (((2 * n : Nat) : Int) + 1) = ((2 * n + 1 : Nat) : Int) := by rw [wr (by omega) (by omega)]; omega
   have hl2 := LLs_len bits hR1 hR2 (trv t.digests u.digests h (2 * n + 1)).1
   have hc2 := trv_len t.digests u.digests h (2 * n + 1)
   have hc1 := (trv_cnt t.digests u.digests h (2 * n)).1
   generalize hx2 : (trv t.digests u.digests h (2 * n + 1)).2 = x2 at *
   generalize hx1 : (trv t.digests u.digests h (2 * n)).2 = x1 at *
   rw [show m + (1 + x2 + x1) = (m + x1 + x2) + 1 by omega, loop_next (s' := (l, ((i + 1 : Nat) : Int), (st ++ [((2 * n : Nat) : Int)]) ++ [((2 * n + 1 : Nat) : Int)]))]
   ·have i2 := ih (2 * n + 1) (m + x1) l (i + 1) (st ++ [((2 * n : Nat) : Int)]) (by omega) (by omega) (by omega) (by rw [hx2]; omega) (by rw [hx2]; omega) (by rw [hx2]; simp only [List.length_append, List.length_singleton]; omega)
    rw [hx2] at i2
    rw [i2]
    have i1 := ih (2 * n) m (l ++ LLs bits R1 R2 (trv t.digests u.digests h (2 * n + 1)).1) (i + 1 + x2) st (by omega) (by omega) (by omega) (by rw [hx1]; simp only [List.length_append]; omega) (by rw [hx1]; omega) (by rw [hx1]; omega)
    rw [hx1] at i1
    rw [i1, LLs_app, List.append_assoc]
    congr 3
    omega
   ·dsimp only
    unfold merkle_Diff.b2
    rw [hw, hr, ht, if_pos (by omega), if_pos (by omega), if_pos (by omega), if_pos (by omega), if_pos (by omega), if_neg c, if_pos (by omega), w1, w2, if_pos (by simp only [List.length_cons, List.length_nil]; omega), wrS i (by omega)]
    simp
end
theorem dgo_fb (bits : Int) (key : List Int) (R : List api_Row) : dgo bits key (fbk (bkt key) R) = dgo bits key R := by unfold dgo; rw [md_fb]
theorem LLs_iff {bits : Int} {R1 R2 : List api_Row} (s1 : Srt R1) (s2 : Srt R2) (L : List Nat) (key : List Int) : (∃ l ∈ LLs bits R1 R2 L, l.Key = key) ↔ bkt key ∈ L ∧ dgo bits key R1 ≠ dgo bits key R2 := by
 have hm := mrg_iff bits key (fbk (bkt key) R1) (fbk (bkt key) R2) (s1.filter _) (s2.filter _)
 rw [dgo_fb, dgo_fb] at hm
 constructor
 ·rintro ⟨l, hl, rfl⟩
  obtain ⟨b, hb, hl⟩ := List.mem_flatMap.1 hl
  have e : bkt l.Key = b := by
   rcases mrg_key bits _ _ hl with ⟨r, g1, g2⟩ | ⟨r, g1, g2⟩
   ·rw [← g2]; simpa [fbk] using (List.mem_filter.1 g1).2
   ·rw [← g2]; simpa [fbk] using (List.mem_filter.1 g1).2
  rw [e] at hm ⊢
  exact ⟨hb, hm.1 ⟨l, hl, rfl⟩⟩
 ·rintro ⟨h1, h2⟩
  obtain ⟨l, hl, e⟩ := hm.2 h2
  exact ⟨l, List.mem_flatMap.2 ⟨_, h1, hl⟩, e⟩
theorem LLs_key {bits : Int} {R1 R2 : List api_Row} {L : List Nat} {l : api_Line} (hl : l ∈ LLs bits R1 R2 L) : (∃ r ∈ R1, r.Key = l.Key) ∨ ∃ r ∈ R2, r.Key = l.Key := by
 obtain ⟨b, hb, hl⟩ := List.mem_flatMap.1 hl
 rcases mrg_key bits _ _ hl with ⟨r, g1, g2⟩ | ⟨r, g1, g2⟩
 ·exact .inl ⟨r, fb_mem g1, g2⟩
 ·exact .inr ⟨r, fb_mem g1, g2⟩
theorem LLs_nodup {bits : Int} {R1 R2 : List api_Row} (s1 : Srt R1) (s2 : Srt R2) {L : List Nat} (hL : L.Pairwise fun a b => b < a) : ((LLs bits R1 R2 L).map (·.Key)).Nodup := by
 unfold List.Nodup
 rw [List.pairwise_map]
 unfold LLs
 have hb : ∀ b l, l ∈ mrg bits (fbk b R1) (fbk b R2) → bkt l.Key = b := fun b l hl => by
  rcases mrg_key bits _ _ hl with ⟨r, g1, g2⟩ | ⟨r, g1, g2⟩
  ·rw [← g2]; simpa [fbk] using (List.mem_filter.1 g1).2
  ·rw [← g2]; simpa [fbk] using (List.mem_filter.1 g1).2
 rw [List.pairwise_flatMap]
 refine ⟨fun b _ => (mrg_srt bits _ _ (s1.filter _) (s2.filter _)).imp fun h => cm_ne h, hL.imp fun {a b} h x hx y hy e => ?_⟩
 have := hb a x hx
 have := hb b y hy
 rw [e] at *
 omega
theorem insK_map {key : api_Line → List Int} {f : api_Line → api_Line} (hf : ∀ l, key (f l) = key l) (r : api_Line) : ∀ l, insK key (f r) (l.map f) = (insK key r l).map f
 | [] => rfl
 | x :: l => by
  unfold insK
  rw [List.map_cons]
  simp only [hf]
  split
  ·rfl
  ·rw [List.map_cons, insK_map hf r l]
theorem srtK_map {key : api_Line → List Int} {f : api_Line → api_Line} (hf : ∀ l, key (f l) = key l) : ∀ l, srtK key (l.map f) = (srtK key l).map f
 | [] => rfl
 | x :: l => by
  have ih := srtK_map hf l
  show insK key (f x) (srtK key (l.map f)) = _
  rw [ih]
  exact insK_map hf x _
theorem LLs_swp (bits : Int) (R1 R2 : List api_Row) (L : List Nat) : LLs bits R2 R1 L = (LLs bits R1 R2 L).map swp := by
 unfold LLs
 rw [List.map_flatMap]
 congr 1
 funext b
 exact mrg_swp bits (fbk b R1) (fbk b R2)
theorem Diff_eq {k : Nat} (hk : Fuel k) {bits : Int} (hb : okb bits) {t u : Mer} {R1 R2 : List api_Row} (h1 : MI k bits t R1) (h2 : MI k bits u R2) (hR1 : RL R1) (hR2 : RL R2) (s1 : Srt R1) (s2 : Srt R2) :
  merkle_Diff.f k (some t) (some u) = some (srtK (·.Key) (LLs bits R1 R2 (trv t.digests u.digests 8 1).1), ((trv t.digests u.digests 8 1).2 : Int), 0) := by
 have h24 : 1099511627776 ≤ k := hk
 unfold merkle_Diff.f merkle_Diff.j1
 rw [if_neg (by simp), if_neg (by simp), Option.bind_some, Option.bind_some, if_pos (by rw [h1.hbits, h2.hbits])]
 by_cases c : t.digests = u.digests
 ·rw [if_pos c, c]
  unfold trv
  rw [if_pos rfl]
  rfl
 ·rw [if_neg c]
  have hc := (trv_cnt t.digests u.digests 8 1).2
  have e9 : 2 ^ (8 + 1) = 512 := rfl
  rw [e9] at hc
  have hl := diff_loop hk hb h1 h2 hR1 hR2 8 1 (k - (trv t.digests u.digests 8 1).2) [] 0 [] (by decide) (by decide) (by decide) (by simp only [List.length_nil]; omega) (by omega) (by simp only [List.length_nil]; omega)
  rw [show k - (trv t.digests u.digests 8 1).2 + (trv t.digests u.digests 8 1).2 = k by omega] at hl
  have hd : loop (fun (s_ : (List api_Line) × Int × (List Int)) => merkle_Diff.b2 k t u s_.1 s_.2.1 s_.2.2) k ([], 0, [1]) = some (LLs bits R1 R2 (trv t.digests u.digests 8 1).1, ((trv t.digests u.digests 8 1).2 : Int)) := by
   refine Eq.trans hl ?_
   obtain ⟨q, hq⟩ : ∃ q, k - (trv t.digests u.digests 8 1).2 = q + 1 := ⟨k - (trv t.digests u.digests 8 1).2 - 1, by omega⟩
   rw [hq, List.nil_append, Nat.zero_add]
   refine loop_done ?_
   dsimp only
   unfold merkle_Diff.b2
   rw [if_neg (by simp)]
  rw [bind_eq hd]
  unfold merkle_Diff.j3 slices_SortLine.f
  have hlen := LLs_len bits hR1 hR2 (trv t.digests u.digests 8 1).1
  have htl := trv_len t.digests u.digests 8 1
  have hbr : ∀ l ∈ LLs bits R1 R2 (trv t.digests u.digests 8 1).1, ∀ n ∈ l.Key, 0 ≤ n ∧ n ≤ 255 := fun l hl => by
   rcases LLs_key hl with ⟨r, g1, g2⟩ | ⟨r, g1, g2⟩
   ·rw [← g2]; exact hR1.br r g1
   ·rw [← g2]; exact hR2.br r g1
  rw [if_pos ⟨hbr, LLs_nodup s1 s2 (trv_desc _ _ 8 1 (by decide) (by decide) (by decide)), by dsimp only; omega⟩]
  rfl
theorem dgo_told (bits : Int) (key : List Int) (R : List api_Row) : dgo bits key R = if (told key R).2 = true then some (hRow bits (told key R).1) else none := by
 unfold dgo told
 cases md key R <;> rfl
theorem told_off {key : List Int} {R : List api_Row} (h : (told key R).2 = false) : told key R = (zeroR, false) := by
 unfold told at h ⊢
 cases e : md key R with
 | nil => rfl
 | cons x l => rw [e] at h; cases h
theorem told_RB {key : List Int} {R : List api_Row} (hR : RL R) (hs : Srt R) (h : (told key R).2 = true) : RB (told key R).1 := by
 rcases told_cases key hR hs with ⟨e, _⟩ | ⟨x, e, _, hm, _⟩
 ·rw [e] at h; cases h
 ·rw [e]; exact hR.2 x hm
section
variable {k : Nat} (hk : Fuel k) {bits : Int} (hb : okb bits) {t u : Mer} {R1 R2 : List api_Row} (h1 : MI k bits t R1) (h2 : MI k bits u R2) (hR1 : RL R1) (hR2 : RL R2) (s1 : Srt R1) (s2 : Srt R2)
include hk h1 h2 hR1 hR2 s1 s2
theorem unlike_eq {key : List Int} (hkl : key.length ≤ 1000000000) (hkb : brange key) : haulagelaw10_unlike.f k (some t) (some u) key = some (!decide (told key R1 = told key R2)) := by
 have l1 := told_len (key := key) hR1 s1
 have l2 := told_len (key := key) hR2 s2
 have er := sameRow_eq hk (told key R1).1 (told key R2).1 l1.1 l1.2
 unfold haulagelaw10_unlike.f
 rw [bind_eq (Get_told hk h1 hR1 s1 hkl hkb), bind_eq (Get_told hk h2 hR2 s2 hkl hkb)]
 by_cases c : (told key R1).2 = (told key R2).2
 ·rw [if_pos (by simpa using c), bind_eq er]
  congr 2
  exact decide_eq_decide.2 ⟨fun e => Prod.ext e c, fun e => by rw [e]⟩
 ·rw [if_neg (by simpa using c), decide_eq_false (fun e => c (by rw [e]))]; rfl
include hb
theorem covered_eq {key : List Int} (hkl : key.length ≤ 1000000000) (hkb : brange key) (hn : ¬ ∃ l ∈ LLs bits R1 R2 (trv t.digests u.digests 8 1).1, l.Key = key) (hu : told key R1 ≠ told key R2) : haulagelaw10_covered.f k (some t) (some u) bits key = some true := by
 have h24 : 1099511627776 ≤ k := hk
 have hl := bkt_lt key
 have eb := bucket_law hk hkl
 rw [show (256 : Int) + (bkt key : Int) = ((256 + bkt key : Nat) : Int) by omega] at eb
 unfold haulagelaw10_covered.f
 rw [bind_eq eb]
 have L := loop_inv (f := fun (s_ : Int) => haulagelaw10_covered.b1 (some t) (some u) s_) (I := fun i s => s = (((256 + bkt key) / 2 ^ i : Nat) : Int) ∧ ∀ j, j < i → rd t.digests (((256 + bkt key) / 2 ^ j : Nat) : Int) ≠ rd u.digests (((256 + bkt key) / 2 ^ j : Nat) : Int)) (P := fun x => x = .inr true ∨ (x = .inl () ∧ ∀ j, j ≤ 8 → rd t.digests (((256 + bkt key) / 2 ^ j : Nat) : Int) ≠ rd u.digests (((256 + bkt key) / 2 ^ j : Nat) : Int))) (N := 9) ?_ ?_ 9 0 ((256 + bkt key : Nat) : Int) k ⟨by simp, fun j h => absurd h (by omega)⟩ (by omega) (by omega)
 ·obtain ⟨x, e, rfl | ⟨rfl, hd⟩⟩ := L
  ·rw [bind_eq e]
  ·rw [bind_eq e]
   have hp := trv_path t.digests u.digests hl 8 (Nat.le_refl _) hd
   rw [node_top hl] at hp
   have hdg : dgo bits key R1 = dgo bits key R2 := Decidable.byContradiction fun z => hn ((LLs_iff s1 s2 _ key).2 ⟨hp, z⟩)
   rw [dgo_told, dgo_told] at hdg
   have f1 : (told key R1).2 = true := by
    cases c : (told key R1).2 with
    | true => rfl
    | false =>
     rw [c, if_neg (by simp)] at hdg
     cases c2 : (told key R2).2 with
     | true => rw [c2, if_pos rfl] at hdg; cases hdg
     | false => exact absurd ((told_off c).trans (told_off c2).symm) hu
   have f2 : (told key R2).2 = true := by
    cases c : (told key R2).2 with
    | true => rfl
    | false => rw [c, f1, if_pos rfl, if_neg (by simp)] at hdg; cases hdg
   rw [f1, f2, if_pos rfl, if_pos rfl] at hdg
   have hdg := Option.some.inj hdg
   dsimp only
   unfold haulagelaw10_covered.j2
   rw [bind_eq (Get_told hk h1 hR1 s1 hkl hkb), bind_eq (Get_told hk h2 hR2 s2 hkl hkb), if_pos f1, if_pos f2, bind_eq (ofRow_law hk hb (told_RB hR1 s1 f1)), bind_eq (ofRow_law hk hb (told_RB hR2 s2 f2)), decide_eq_true hdg]
 ·rintro i s hi ⟨hs, hd⟩
  subst hs
  obtain ⟨r1, r2⟩ : 1 ≤ (256 + bkt key) / 2 ^ i ∧ (256 + bkt key) / 2 ^ i < 512 := by
   by_cases c : i < 8
   ·have := node_rng hl c; omega
   ·have : i = 8 := by omega
    subst this; rw [node_top hl]; omega
  simp only [haulagelaw10_covered.b1]
  rw [if_pos (by omega), bind_eq (Digest_eq r1 r2), bind_eq (Digest_eq r1 r2)]
  by_cases c : rd t.digests (((256 + bkt key) / 2 ^ i : Nat) : Int) = rd u.digests (((256 + bkt key) / 2 ^ i : Nat) : Int)
  ·rw [if_pos c]; exact .inr ⟨_, rfl, .inl rfl⟩
  ·have hz := Int.natCast_nonneg ((256 + bkt key) / 2 ^ (i + 1))
   have hy : (((256 + bkt key) / 2 ^ (i + 1) : Nat) : Int) ≤ ((256 + bkt key : Nat) : Int) := Int.ofNat_le.2 (Nat.div_le_self _ _)
   rw [if_neg c, tdiv2, ← node_next, wr (by omega) (by omega)]
   exact .inl ⟨_, rfl, rfl, fun j hj => by
    by_cases e : j = i
    ·rw [e]; exact c
    ·exact hd j (by omega)⟩
 ·rintro s ⟨hs, hd⟩
  subst hs
  have e0 : (256 + bkt key) / 2 ^ 9 = 0 := Nat.div_eq_of_lt (by have : 2 ^ 9 = 512 := rfl; omega)
  simp only [haulagelaw10_covered.b1]
  rw [e0, if_neg (by decide)]
  exact ⟨_, rfl, .inr ⟨rfl, fun j hj => hd j (by omega)⟩⟩
end
theorem put_has (r : api_Row) {R : List api_Row} {key : List Int} (h : (∃ x ∈ R, x.Key = key) ∨ r.Key = key) : ∃ x ∈ putL r R, x.Key = key := by
 unfold putL
 rcases h with ⟨x, hx, rfl⟩ | rfl
 ·by_cases c : cm x.Key r.Key = true
  ·exact ⟨x, List.mem_append_left _ (lo_mem.2 ⟨hx, c⟩), rfl⟩
  ·by_cases c2 : cm r.Key x.Key = true
   ·exact ⟨x, List.mem_append_right _ (List.mem_cons_of_mem _ (hi_mem.2 ⟨hx, c2⟩)), rfl⟩
   ·exact ⟨r, List.mem_append_right _ (List.mem_cons_self ..), cm_tri (by simpa using c2) (by simpa using c)⟩
 ·exact ⟨r, List.mem_append_right _ (List.mem_cons_self ..), rfl⟩
theorem fold_has {key : List Int} : ∀ (X o : List api_Row), ((∃ x ∈ o, x.Key = key) ∨ ∃ x ∈ X, x.Key = key) → ∃ x ∈ X.foldl (fun o r => putL r o) o, x.Key = key
 | [], o, h => by
  rcases h with h | ⟨x, hx, _⟩
  ·exact h
  ·cases hx
 | r :: X, o, h => by
  rw [List.foldl_cons]
  refine fold_has X _ ?_
  rcases h with h | ⟨x, hx, e⟩
  ·exact .inl (put_has r (.inl h))
  ·rcases List.mem_cons.1 hx with rfl | hx
   ·exact .inl (put_has x (.inr e))
   ·exact .inr ⟨x, hx, e⟩
theorem sortL_has {key : List Int} {X : List api_Row} (h : ∃ x ∈ X, x.Key = key) : ∃ x ∈ sortL X, x.Key = key := fold_has X [] (.inr h)
theorem count_eq (D1 D2 : List Int) {t u : Mer} (e1 : t.digests = D1) (e2 : u.digests = D2) (o1 o2 : List api_Row) {k : Nat} (hk : Fuel k) : loop (fun (s_ : Int × Int) => haulagelaw10_MerkleDiffs.b11 (some t, o1) (some u, o2) s_.1 s_.2) k (0, 256) = some (((List.range' 256 256).countP (dif D1 D2) : Nat) : Int) := by
 have h24 : 1099511627776 ≤ k := hk
 have L := loop_inv (f := fun (s_ : Int × Int) => haulagelaw10_MerkleDiffs.b11 (some t, o1) (some u, o2) s_.1 s_.2) (I := fun i s => s.1 = (((List.range' 256 i).countP (dif D1 D2) : Nat) : Int) ∧ s.2 = ((256 + i : Nat) : Int)) (P := fun x => x = (((List.range' 256 256).countP (dif D1 D2) : Nat) : Int)) (N := 256) ?_ ?_ 256 0 (0, 256) k ⟨rfl, rfl⟩ (by omega) (by omega)
 ·obtain ⟨x, e, rfl⟩ := L; exact e
 ·rintro i ⟨a, b⟩ hi ⟨ha, hbb⟩
  left
  simp only at ha hbb; subst hbb
  have hle := List.countP_le_length (p := dif D1 D2) (l := List.range' 256 i)
  rw [List.length_range'] at hle
  have en : List.range' 256 (i + 1) = List.range' 256 i ++ [256 + i] := by rw [List.range'_concat]; simp
  simp only [haulagelaw10_MerkleDiffs.b11]
  rw [if_pos (by omega), bind_eq (Digest_eq (by omega) (by omega)), bind_eq (Digest_eq (by omega) (by omega)), e1, e2, wrS (256 + i) (by omega)]
  by_cases c : rd D1 ((256 + i : Nat) : Int) = rd D2 ((256 + i : Nat) : Int)
  ·rw [if_pos c]
   refine ⟨_, rfl, ?_, rfl⟩
   have ed : dif D1 D2 (256 + i) = false := by unfold dif; rw [decide_eq_true c]; rfl
   rw [en, List.countP_append, List.countP_singleton, ed, if_neg (by simp), Nat.add_zero]; exact ha
  ·rw [if_neg c]
   refine ⟨_, rfl, ?_, rfl⟩
   have ed : dif D1 D2 (256 + i) = true := by unfold dif; rw [decide_eq_false c]; rfl
   rw [en, List.countP_append, List.countP_singleton, ed, if_pos rfl]
   dsimp only
   rw [ha, wrS _ (by omega)]
 ·rintro ⟨a, b⟩ ⟨ha, hbb⟩
  simp only at ha hbb; subst hbb
  simp only [haulagelaw10_MerkleDiffs.b11]
  rw [if_neg (by omega)]
  exact ⟨_, rfl, ha⟩
theorem runR_app (C D : List haulagelaw10_Change) : CL C → CL D → C.length + D.length ≤ 2097152 → CL (C ++ D) := fun h1 h2 h => ⟨by rw [List.length_append]; exact h, fun c hc => by
 rcases List.mem_append.1 hc with hc | hc
 ·exact h1.2 c hc
 ·exact h2.2 c hc⟩
section
variable {k : Nat} (hk : Fuel k) {n0 : Int} (hb : okb (IntKind.i64.wrap (1 + n0))) {t u : Mer} {R1 R2 : List api_Row} (h1 : MI k (IntKind.i64.wrap (1 + n0)) t R1) (h2 : MI k (IntKind.i64.wrap (1 + n0)) u R2) (hR1 : RL R1) (hR2 : RL R2) (s1 : Srt R1) (s2 : Srt R2)
include hk h1 h2 hR1 hR2 s1 s2
theorem turned_loop (n e : Int) {X : List api_Line} (hX : X = srtK (·.Key) (LLs (IntKind.i64.wrap (1 + n0)) R1 R2 (trv t.digests u.digests 8 1).1)) (hS : SrtK (·.Key) X) (hl : X.length ≤ 10000000000) :
  loop (fun (s_ : Int) => haulagelaw10_MerkleDiffs.b5 k (some t, R1) (some u, R2) (X, n, 0) (X.map swp, e, 0) s_) k 0 = some (.inl ()) := by
 have h24 : 1099511627776 ≤ k := hk
 have hmem : ∀ l, l ∈ X ↔ l ∈ LLs (IntKind.i64.wrap (1 + n0)) R1 R2 (trv t.digests u.digests 8 1).1 := fun l => by rw [hX]; exact (srtK_perm _).mem_iff
 have L := loop_inv (f := fun (s_ : Int) => haulagelaw10_MerkleDiffs.b5 k (some t, R1) (some u, R2) (X, n, 0) (X.map swp, e, 0) s_) (I := fun i s => s = (i : Int)) (P := fun x => x = .inl ()) (N := X.length) ?_ ?_ X.length 0 0 k rfl (by omega) (by omega)
 ·obtain ⟨x, e, rfl⟩ := L; exact e
 ·rintro i s hi hs
  left
  subst hs
  have hm := (hmem _).1 (List.getElem_mem hi)
  have hKB : X[i].Key.length ≤ 2097152 ∧ brange X[i].Key := by
   rcases LLs_key hm with ⟨r, g1, g2⟩ | ⟨r, g1, g2⟩
   ·rw [← g2]; exact ⟨(hR1.2 r g1).1, (hR1.2 r g1).2.2⟩
   ·rw [← g2]; exact ⟨(hR2.2 r g1).1, (hR2.2 r g1).2.2⟩
  have hd := ((LLs_iff s1 s2 _ X[i].Key).1 ⟨_, hm, rfl⟩).2
  have hu : told X[i].Key R1 ≠ told X[i].Key R2 := fun q => hd (by rw [dgo_told, dgo_told, q])
  have eu := unlike_eq hk h1 h2 hR1 hR2 s1 s2 (key := X[i].Key) (by have := hKB.1; omega) hKB.2
  rw [decide_eq_false hu] at eu
  have hml : (X.map swp).length = X.length := List.length_map ..
  have e1 : rd X (i : Int) = X[i] := rd_eq hi
  have e2 : rd (X.map swp) (i : Int) = swp X[i] := by rw [rd_eq (by omega)]; simp
  have hsame : haulagelaw10_same.f k X[i].Key (swp X[i]).Key = some true := by
   rw [same_eq hk _ _ (.inl (by have := hKB.1; omega)), decide_eq_true (show X[i].Key = (swp X[i]).Key from rfl)]
  simp only [haulagelaw10_MerkleDiffs.b5]
  rw [e1, e2, hml, if_pos (by omega), if_pos (by omega), if_pos (by omega), bind_eq hsame, if_pos rfl, if_pos (by omega), if_pos (by omega), if_pos (show X[i].Ours = (swp X[i]).Hers from rfl), if_pos (by omega), if_pos (by omega)]
  unfold haulagelaw10_MerkleDiffs.j3
  dsimp only
  rw [e1, if_pos (decide_eq_true (show X[i].Hers = (swp X[i]).Ours from rfl)), if_pos (by omega), bind_eq eu, if_pos (show (!false) = true from rfl)]
  unfold haulagelaw10_MerkleDiffs.j4
  by_cases c : i = 0
  ·subst c
   rw [if_neg (by simp), if_neg (by simp), wrS 0 (by omega)]
   exact ⟨_, rfl, rfl⟩
  ·have hi1 : i - 1 < X.length := by omega
   have w1 : IntKind.i64.wrap ((i : Int) - 1) = ((i - 1 : Nat) : Int) := by rw [wr (by omega) (by omega)]; omega
   have hm1 := (hmem _).1 (List.getElem_mem hi1)
   have hK1 : X[i - 1].Key.length ≤ 2097152 := by
    rcases LLs_key hm1 with ⟨r, g1, g2⟩ | ⟨r, g1, g2⟩
    ·rw [← g2]; exact (hR1.2 r g1).1
    ·rw [← g2]; exact (hR2.2 r g1).1
   have hcm : cm X[i - 1].Key X[i].Key = true := List.pairwise_iff_getElem.1 hS (i - 1) i hi1 hi (by omega)
   rw [if_pos (by omega), w1, if_pos (by omega), if_pos (by omega), rd_eq hi1, bind_eq (comes_eq hk _ _ (by omega)), hcm, if_neg (by simp), wrS i (by omega)]
   exact ⟨_, rfl, rfl⟩
 ·rintro s hs
  subst hs
  simp only [haulagelaw10_MerkleDiffs.b5]
  rw [if_neg (by omega)]
  exact ⟨_, rfl, rfl⟩
include hb
theorem found_all (n : Int) {X : List api_Line} {Y : List api_Row} (hX : X = srtK (·.Key) (LLs (IntKind.i64.wrap (1 + n0)) R1 R2 (trv t.digests u.digests 8 1).1)) (hS : SrtK (·.Key) X) (hl : X.length ≤ 10000000000) (hY : Srt Y) (hYR : ∀ r ∈ Y, RB r) (hYl : Y.length ≤ 10000000000) (hXY : ∀ l ∈ X, ∃ r ∈ Y, r.Key = l.Key) :
  loop (fun (s_ : Int × Int) => haulagelaw10_MerkleDiffs.b9 k n0 (some t, R1) (some u, R2) (X, n, 0) Y s_.1 s_.2) k (0, 0) = some (.inl (X.length : Int)) := by
 have h24 : 1099511627776 ≤ k := hk
 have hmem : ∀ l, l ∈ X ↔ l ∈ LLs (IntKind.i64.wrap (1 + n0)) R1 R2 (trv t.digests u.digests 8 1).1 := fun l => by rw [hX]; exact (srtK_perm _).mem_iff
 have L := loop_inv (f := fun (s_ : Int × Int) => haulagelaw10_MerkleDiffs.b9 k n0 (some t, R1) (some u, R2) (X, n, 0) Y s_.1 s_.2) (I := fun i s => s.2 = (i : Int) ∧ ∃ a : Nat, s.1 = (a : Int) ∧ a ≤ X.length ∧ (∀ q (h : q < X.length), q < a → ∃ j, ∃ (hj : j < Y.length), j < i ∧ Y[j].Key = X[q].Key) ∧ (∀ q (h : q < X.length), a ≤ q → ∃ j, ∃ (hj : j < Y.length), i ≤ j ∧ Y[j].Key = X[q].Key)) (P := fun x => x = .inl (X.length : Int)) (N := Y.length) ?_ ?_ Y.length 0 (0, 0) k ⟨rfl, 0, rfl, Nat.zero_le _, fun q h g => absurd g (by omega), fun q h _ => ?_⟩ (by omega) (by omega)
 ·obtain ⟨x, e, rfl⟩ := L; exact e
 ·rintro i ⟨s, j⟩ hi ⟨hj, a, hs, ha, hA, hB⟩
  left
  simp only at hj hs; subst hj hs
  have hr := hYR _ (List.getElem_mem hi)
  have inj : ∀ x y (hx : x < Y.length) (hy : y < Y.length), Y[x].Key = Y[y].Key → x = y := fun x y hx hy e => by
   rcases Nat.lt_trichotomy x y with c | c | c
   ·exact absurd e (cm_ne (List.pairwise_iff_getElem.1 hY x y hx hy c))
   ·exact c
   ·exact absurd e.symm (cm_ne (List.pairwise_iff_getElem.1 hY y x hy hx c))
  simp only [haulagelaw10_MerkleDiffs.b9]
  rw [if_pos (by omega)]
  have other : (∀ q (h : q < X.length), X[q].Key ≠ Y[i].Key) → ∃ s', haulagelaw10_MerkleDiffs.j7 k n0 (some t, R1) (some u, R2) Y (a : Int) (i : Int) false = some (.next s') ∧ s'.2 = ((i + 1 : Nat) : Int) ∧ ∃ a : Nat, s'.1 = (a : Int) ∧ a ≤ X.length ∧ (∀ q (h : q < X.length), q < a → ∃ j, ∃ (hj : j < Y.length), j < i + 1 ∧ Y[j].Key = X[q].Key) ∧ (∀ q (h : q < X.length), a ≤ q → ∃ j, ∃ (hj : j < Y.length), i + 1 ≤ j ∧ Y[j].Key = X[q].Key) := by
   intro hno
   have eu := unlike_eq hk h1 h2 hR1 hR2 s1 s2 (key := Y[i].Key) (by have := hr.1; omega) hr.2.2
   have hn : ¬ ∃ l ∈ LLs (IntKind.i64.wrap (1 + n0)) R1 R2 (trv t.digests u.digests 8 1).1, l.Key = Y[i].Key := fun ⟨l, g1, g2⟩ => by
    obtain ⟨q, hq, rfl⟩ := List.getElem_of_mem ((hmem l).2 g1)
    exact hno q hq g2
   refine ⟨((a : Int), ((i + 1 : Nat) : Int)), ?_, rfl, a, rfl, ha, fun q h g => ?_, fun q h g => ?_⟩
   ·unfold haulagelaw10_MerkleDiffs.j7
    rw [if_neg (by simp), if_pos (by omega), rd_eq hi, bind_eq eu]
    unfold haulagelaw10_MerkleDiffs.j8
    by_cases c : told Y[i].Key R1 = told Y[i].Key R2
    ·rw [decide_eq_true c, if_neg (by simp), if_neg (by simp), wrS i (by omega)]
    ·rw [decide_eq_false c, if_pos (by simp), if_pos (by omega), bind_eq (covered_eq hk hb h1 h2 hR1 hR2 s1 s2 (by have := hr.1; omega) hr.2.2 hn c), if_neg (by simp), wrS i (by omega)]
   ·obtain ⟨j, hj, g1, g2⟩ := hA q h g
    exact ⟨j, hj, by omega, g2⟩
   ·obtain ⟨j, hj, g1, g2⟩ := hB q h g
    refine ⟨j, hj, ?_, g2⟩
    by_cases c : j = i
    ·subst c; exact absurd g2.symm (hno q h)
    ·omega
  by_cases c : a < X.length
  ·rw [if_pos (by omega), if_pos (by omega), if_pos (by omega), rd_eq c, rd_eq hi]
   have hlm : X[a].Key.length ≤ 2097152 := by
    rcases LLs_key ((hmem _).1 (List.getElem_mem c)) with ⟨r, g1, g2⟩ | ⟨r, g1, g2⟩
    ·rw [← g2]; exact (hR1.2 r g1).1
    ·rw [← g2]; exact (hR2.2 r g1).1
   rw [bind_eq (same_eq hk _ _ (.inl (by omega)))]
   by_cases e : X[a].Key = Y[i].Key
   ·rw [decide_eq_true e]
    unfold haulagelaw10_MerkleDiffs.j7
    rw [if_pos rfl, wrS a (by omega), wrS i (by omega)]
    refine ⟨_, rfl, rfl, a + 1, rfl, by omega, fun q h g => ?_, fun q h g => ?_⟩
    ·by_cases cq : q = a
     ·subst cq; exact ⟨i, hi, by omega, e.symm⟩
     ·obtain ⟨j, hj, g1, g2⟩ := hA q h (by omega)
      exact ⟨j, hj, by omega, g2⟩
    ·obtain ⟨j, hj, g1, g2⟩ := hB q h (by omega)
     refine ⟨j, hj, ?_, g2⟩
     by_cases cj : j = i
     ·subst cj
      have : cm X[a].Key X[q].Key = true := List.pairwise_iff_getElem.1 hS a q c h (by omega)
      rw [e, g2] at this
      exact absurd rfl (cm_ne this)
     ·omega
   ·rw [decide_eq_false e]
    refine other fun q h g => ?_
    by_cases cq : q < a
    ·obtain ⟨j, hj, g1, g2⟩ := hA q h cq
     have := inj j i hj hi (g2.trans g)
     omega
    ·by_cases cq2 : q = a
     ·subst cq2; exact e g
     ·have hlt : cm X[a].Key X[q].Key = true := List.pairwise_iff_getElem.1 hS a q c h (by omega)
      obtain ⟨j, hj, g1, g2⟩ := hB a c (Nat.le_refl _)
      rw [g, ← g2] at hlt
      rcases Nat.lt_trichotomy i j with z | z | z
      ·have := cm_asym (List.pairwise_iff_getElem.1 hY i j hi hj z); rw [hlt] at this; cases this
      ·subst z; exact absurd rfl (cm_ne hlt)
      ·omega
  ·rw [if_neg (by omega)]
   refine other fun q h g => ?_
   obtain ⟨j, hj, g1, g2⟩ := hA q h (by omega)
   have := inj j i hj hi (g2.trans g)
   omega
 ·rintro ⟨s, j⟩ ⟨hj, a, hs, ha, hA, hB⟩
  simp only at hj hs; subst hj hs
  simp only [haulagelaw10_MerkleDiffs.b9]
  rw [if_neg (by omega)]
  refine ⟨_, rfl, ?_⟩
  by_cases c : a < X.length
  ·obtain ⟨j, hj, g1, g2⟩ := hB a c (Nat.le_refl _)
   omega
  ·have : a = X.length := by omega
   rw [this]
 ·obtain ⟨r, hr, e⟩ := hXY X[q] (List.getElem_mem h)
  obtain ⟨j, hj, rfl⟩ := List.getElem_of_mem hr
  exact ⟨j, hj, Nat.zero_le _, e⟩
end
theorem MerkleDiffs_true (C D : List haulagelaw10_Change) (w : Int) (hC : CL C) (hD : CL D) (hCD : C.length + D.length ≤ 2097152) : haulagelaw10_MerkleDiffs.f 1099511627776 C D w = some true := by
 have hk : Fuel 1099511627776 := Nat.le_refl _
 obtain ⟨n0, en, hb⟩ := bits_eq w
 obtain ⟨t, et, h1, hR1, s1, l1⟩ := grown_eq hk hb hC
 obtain ⟨u, eu, h2, hR2, s2, l2⟩ := grown_eq hk hb (runR_app C D hC hD hCD)
 rw [List.length_append] at l2
 have d1 := Diff_eq hk hb h1 h2 hR1 hR2 s1 s2
 have d2 := Diff_eq hk hb h2 h1 hR2 hR1 s2 s1
 rw [trv_swap, LLs_swp, srtK_map (key := (·.Key)) (f := swp) (fun l => rfl)] at d2
 have hlen := LLs_len (IntKind.i64.wrap (1 + n0)) hR1 hR2 (trv t.digests u.digests 8 1).1
 have htl := trv_len t.digests u.digests 8 1
 have htc := trv_cnt t.digests u.digests 8 1
 have e9 : 2 ^ (8 + 1) = 512 := rfl
 rw [e9] at htc
 have htb := trv_bound h1.node h2.node 8 1 (by decide) (by decide) (by decide)
 have htf := trv_few t.digests u.digests 8 1 (by decide) (by decide) (by decide)
 have e8 : 1 * 2 ^ 8 = 256 := rfl
 have e8' : 2 ^ 8 = 256 := rfl
 rw [e8, e8'] at htf
 obtain ⟨X, hX⟩ : ∃ X, X = srtK (·.Key) (LLs (IntKind.i64.wrap (1 + n0)) (runR C) (runR (C ++ D)) (trv t.digests u.digests 8 1).1) := ⟨_, rfl⟩
 have hS : SrtK (·.Key) X := by rw [hX]; exact srtK_srt _ (LLs_nodup s1 s2 (trv_desc _ _ 8 1 (by decide) (by decide) (by decide)))
 have hXl : X.length = (LLs (IntKind.i64.wrap (1 + n0)) (runR C) (runR (C ++ D)) (trv t.digests u.digests 8 1).1).length := by rw [hX]; exact (srtK_perm _).length_eq
 rw [← hX] at d1 d2
 have hXe : X.length = 0 → rd t.digests 1 = rd u.digests 1 := fun h0 => Decidable.byContradiction fun z => by
  have ht := trv_some h1.node h2.node 8 1 (by decide) (by decide) (by decide) z
  obtain ⟨b, L, hbL⟩ := List.exists_cons_of_ne_nil ht
  obtain ⟨_, _, hb3, hb4⟩ := trv_mem t.digests u.digests 8 1 b (by decide) (by decide) (by decide) (by rw [hbL]; exact List.mem_cons_self ..)
  rw [h1.leaf b hb3, h2.leaf b hb3] at hb4
  have hz : LLs (IntKind.i64.wrap (1 + n0)) (runR C) (runR (C ++ D)) (trv t.digests u.digests 8 1).1 = [] := List.length_eq_zero_iff.1 (by omega)
  rw [hbL] at hz
  unfold LLs at hz
  rw [List.flatMap_cons] at hz
  exact hb4 (hBk_map _ _ (mrg_nil _ _ _ (List.append_eq_nil_iff.1 hz).1))
 have hAll : RL (([] ++ runR C) ++ runR (C ++ D)) := ⟨by simp only [List.nil_append, List.length_append]; omega, fun r hr => by
  rcases List.mem_append.1 hr with hr | hr
  ·exact hR1.2 r (by simpa using hr)
  ·exact hR2.2 r hr⟩
 have hsl := sortL_rl hAll
 have hAl := hAll.1
 have hXY : ∀ l ∈ X, ∃ r ∈ sortL (([] ++ runR C) ++ runR (C ++ D)), r.Key = l.Key := fun l hl => by
  rw [hX] at hl
  refine sortL_has ?_
  rcases LLs_key ((srtK_perm _).mem_iff.1 hl) with ⟨r, g1, g2⟩ | ⟨r, g1, g2⟩
  ·exact ⟨r, by simp [g1], g2⟩
  ·exact ⟨r, by simp [g1], g2⟩
 unfold haulagelaw10_MerkleDiffs.f
 rw [bind_eq awake_true, if_pos rfl, bind_eq en, bind_eq et, if_pos (by have := hC.1; omega), if_pos (by simp only [List.nil_append]; omega), List.nil_append, bind_eq eu]
 dsimp only
 rw [if_neg (by simp)]
 unfold haulagelaw10_MerkleDiffs.j1
 rw [if_neg (by simp), bind_eq d1, bind_eq d2]
 dsimp only
 rw [if_pos rfl, if_pos rfl, if_pos rfl, if_pos (by rw [List.length_map])]
 have rest : haulagelaw10_MerkleDiffs.j2 1099511627776 n0 (some t, runR C) (some u, runR (C ++ D)) (X, ((trv t.digests u.digests 8 1).2 : Int), 0) (X.map swp, ((trv t.digests u.digests 8 1).2 : Int), 0) false = some true := by
  unfold haulagelaw10_MerkleDiffs.j2
  rw [if_neg (by simp), bind_eq (turned_loop hk h1 h2 hR1 hR2 s1 s2 _ _ hX hS (by omega))]
  dsimp only
  unfold haulagelaw10_MerkleDiffs.j6
  dsimp only
  rw [if_pos (by omega), if_pos (by simp only [List.nil_append]; omega), bind_eq (sorted_eq hk hAll), bind_eq (found_all hk hb h1 h2 hR1 hR2 s1 s2 _ hX hS (by omega) (sortL_srt _) hsl.2 (by omega) hXY)]
  dsimp only
  unfold haulagelaw10_MerkleDiffs.j10
  rw [bind_eq (count_eq t.digests u.digests rfl rfl _ _ hk)]
  unfold haulagelaw10_MerkleDiffs.j12
  dsimp only
  have hc := List.countP_le_length (p := dif t.digests u.digests) (l := List.range' 256 256)
  rw [List.length_range'] at hc
  have w16 : IntKind.i64.wrap (1 + IntKind.i64.wrap (16 * (((List.range' 256 256).countP (dif t.digests u.digests) : Nat) : Int))) = 1 + 16 * (((List.range' 256 256).countP (dif t.digests u.digests) : Nat) : Int) := by
   rw [wr (n := 16 * (((List.range' 256 256).countP (dif t.digests u.digests) : Nat) : Int)) (by omega) (by omega), wr (by omega) (by omega)]
  rw [if_pos rfl, if_pos (by omega), w16, decide_eq_true (by omega)]
 by_cases c : X.length = 0
 ·rw [if_pos (by omega), bind_eq Root_eq, bind_eq Root_eq, decide_eq_true (hXe c)]
  exact rest
 ·rw [if_neg (by omega)]
  exact rest
end Go.Proofs.Ytdnaoecfnjalgaa.G
namespace Go.Proofs.Ytdnaoecfnjalgaa.merkleDiffs
open Go.ChangeShapes Go.WideShapes Go.ChangeAt Go.RowKit
set_option linter.unusedVariables false
set_option maxRecDepth 100000 in
theorem contract (H : Type) (enc : TypeId × Value → H) (W : World) (base : Nat) (args : Array Value) (ds gs : List (DataW H)) (before : List MemPlace)
  (hval : ∀ (j : Nat) t v, Try.f6.params[j]? = some t → args[j]? = some v → Value.okWide Try.prog W .any base t v)
  (hW : DataW.Whole enc Try.prog Try.f6.params.toList Rows.merkleDiffsSpec.vars false W args.toList ds gs before) (hk : Rows.uptoSmall H (ds ++ gs) = true) :
  Calls Try.prog 6 args W fun e W' => ∃ v, e = .returned v ∧ Rows.merkleDiffsSpec.post enc Try.prog Try.f6 false true false false W args v W' := by
 have hW' := hW
 obtain ⟨p, q, hA0, hV, rfl, hfz, hnd⟩ := hW
 have hA : DataW.TrodAll enc Try.prog W 0 (fun _ => true) true Try.f6.params.toList args.toList ds p := hA0
 rw [Try.params6] at hA hval
 obtain ⟨v0, vs0, d0, ds0, p0, q0, hargs, rfl, rfl, h0, r0⟩ := trodAll_cons hA
 obtain ⟨v1, vs1, d1, ds1, p1, q1, rfl, rfl, rfl, h1, r1⟩ := trodAll_cons r0
 obtain ⟨v2, vs2, d2, ds2, p2, q2, rfl, rfl, rfl, h2, r2⟩ := trodAll_cons r1
 obtain ⟨rfl, rfl, rfl⟩ := trodAll_nil r2
 obtain rfl : args = #[v0, v1, v2] := by cases args; simp_all
 obtain ⟨rfl, rfl⟩ := trodVars_none hV
 have k0 := h0
 have lt0 : ∀ x ∈ p0, x.block < W.heap.size := by obtain ⟨m, hm⟩ := k0; exact DataW.trod_lt m _ _ _ hm
 obtain ⟨A0, C0, a0, rfl, s0, b0, o0⟩ := G.arg_changes (okWide_slice Try.underlying22 (hval 0 22 v0 rfl rfl)) h0
 have l0 := G.len_sum G.wt_haulagelaw10_Change G.wt_haulagelaw10_Change_pos a0
 have k1 := h1
 have lt1 : ∀ x ∈ p1, x.block < W.heap.size := by obtain ⟨m, hm⟩ := k1; exact DataW.trod_lt m _ _ _ hm
 obtain ⟨A1, C1, a1, rfl, s1, b1, o1⟩ := G.arg_changes (okWide_slice Try.underlying22 (hval 1 22 v1 rfl rfl)) h1
 have l1 := G.len_sum G.wt_haulagelaw10_Change G.wt_haulagelaw10_Change_pos a1
 obtain ⟨a2, rfl, rfl, rfl, w2⟩ := open_int Try.underlying3 (hval 2 3 v2 rfl rfl) h2
 have hb : Rows.uptoBulkAll [d0, d1, (DataW.lit (H := H) (.int .i64 a2))] ≤ 1048576 := of_decide_eq_true hk
 simp only [Rows.uptoBulkAll] at hb
 refine (G.haulagelaw10_MerkleDiffs.calls 1099511627776 (m := 1) (c0 := G.c0) (w0 := W) (Nat.lt_succ_self 0) (fun _ _ => Nat.lt_succ_self 0) s0 s1 true (G.MerkleDiffs_true _ _ _ (G.arg_CL (by omega) o0) (G.arg_CL (by omega) o1) (G.arg_two (by omega) (by omega)))).mono fun e W' ⟨c_, he, ev_, _⟩ => ?_
 subst he
 have bel : Below W.heap.size W W' := G.Ev.below ev_
 exact ⟨_, rfl, _, _, _, [], _, [], hW', trodAll_mk1 (shut_bool Try.underlying4 _), (trodAll_cons_mk (Below.trod G.row_laidOut (by kernel_rfl) (of_decide_eq_true (by kernel_rfl)) k0 bel lt0) (trodAll_cons_mk (Below.trod G.row_laidOut (by kernel_rfl) (of_decide_eq_true (by kernel_rfl)) k1 bel lt1) (trodAll_cons_mk (shut_int Try.underlying3 w2) trodAll_mk0))), rfl, bel.frame _, fun h => by cases h⟩
set_option maxRecDepth 100000 in
theorem lifted (os : Os) (started : os.Started) (H : Type) (enc : TypeId × Value → H) (F : Stop.Interp) :
  ReturnsInHanded {} Try.checked os 6 .any ((Rows.OpenSpec.upto Rows.merkleDiffsSpec).pre6 enc Try.prog Try.f6 Rows.merkleDiffsUptoRow.domain false) (((Rows.OpenSpec.upto Rows.merkleDiffsSpec).at F).post enc Try.prog Try.f6 false true false false) := by
 refine returnsInHanded_of_cond (C := Try.checked) (s := Rows.OpenSpec.upto Rows.merkleDiffsSpec) (k := Rows.uptoSmall) rfl G.row_own started (by kernel_rfl) Try.func6
  (OpenSpec.witness (enc := enc) (C := Try.checked) (s := Rows.OpenSpec.upto Rows.merkleDiffsSpec) (k := Rows.uptoSmall) rfl false ⟨#[], #[.slice none 0 0, .slice none 0 0, .int .i64 0], []⟩ 8 (by kernel_rfl) (by kernel_rfl) (by kernel_rfl)
   (x := ([.nil, .nil, .lit (.int .i64 0)], [], [])) (by kernel_rfl) rfl (by kernel_rfl)) ?_
 intro W base args ds gs before hval hW _ hk _
 exact contract H enc W base args ds gs before hval hW hk
theorem over : Rows.merkleDiffsUptoRow.holds Try.pinned (Rows.OpenSpec.upto Rows.merkleDiffsSpec) :=
 OpenClaim.holds_of_cond 6 Try.f6 rfl rfl rfl rfl rfl rfl rfl ⟨rfl, rfl, rfl, rfl, rfl⟩ rfl rfl rfl rfl rfl (by kernel_rfl) Try.func6 (by kernel_rfl)
  (of_decide_eq_true (by kernel_rfl)) (by unfold Func.isWrapper; first | (rw [if_pos (by decide +kernel)]; kernel_rfl) | (rw [if_neg (by decide +kernel)]; exact ⟨rfl, rfl⟩))
  (fun os started H enc _ F => lifted os started H enc F)
theorem proved : Rows.MerkleDiffsUptoSaid := over
end Go.Proofs.Ytdnaoecfnjalgaa.merkleDiffs
namespace Go.Proofs.Ytdnaoecfnjalgaa
theorem merkleDiffs_holds : Rows.MerkleDiffsUptoSaid := merkleDiffs.proved
end Go.Proofs.Ytdnaoecfnjalgaa