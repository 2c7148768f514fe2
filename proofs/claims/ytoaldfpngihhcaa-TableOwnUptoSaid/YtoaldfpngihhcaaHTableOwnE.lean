/- Words and laws on which the row of 'TableOwn' hangs (its '..UptoSaid': bulk at most 1048576). -/
import Derived.Test.YtoaldfpngihhcaaHTableOwnB
import Derived.Test.YtoaldfpngihhcaaHTableOwnC
import Derived.Test.YtoaldfpngihhcaaHTableOwnD
import Derived.Test.YtoaldfpngihhcaaHTableOwnA
import Derived.Test.YtoaldfpngihhcaaRows
import Derived.Deep.Slices
import Derived.ChangeArms
import Derived.KernelRfl
import Derived.Laws.OwnMore
import Derived.Laws.Strings
namespace Go.Proofs.Ytoaldfpngihhcaa.G
open Go Go.RowKit
set_option linter.unusedVariables false
set_option linter.unusedSimpArgs false
set_option maxRecDepth 100000
set_option maxHeartbeats 40000000
theorem haulagelaw13_TableOwn.calls (k : Nat) {m : Nat} {c0 : Nat → Nat} {w0 : World} {A2 : Option Addr} {C3 : Nat} {A6 : Option Addr} {C7 : Nat} {a1 : List api_Op} {a5 : List Int} (hm0 : 0 < m) (B0 : CB m c0 w0) (h4 : SL false K_api_Op 0 0 c0 w0 A2 C3 a1) (h8 : SL false (Kint .u8) 0 0 c0 w0 A6 C7 a5) (r : Bool) (H : haulagelaw13_TableOwn.f k a1 a5 = some r) : Calls Try.prog 3 #[.slice A2 a1.length C3, .slice A6 a5.length C7] w0 (fun e w_ => ∃ (c_ : Nat → Nat), e = .returned (.bool r) ∧ Ev (fun x => False) c0 w0 c_ w_ ∧ CB m c_ w_) := by
 unfold haulagelaw13_TableOwn.f at H; have B := B0.mono (show m ≤ m + 49 by omega); have E : Ev (fun x => False ∨ m ≤ x) c0 w0 c0 w0 := Ev.refl; refine enter (N := 338) (l := [.slice A2 a1.length C3, .slice A6 a5.length C7]) Try.func3 rfl rfl (nb rfl) fun a F => ?_; refine sr fun K9 hK9 => qa F fun a F => nil (hK9 _ _ ?_); refine sq fun K10 hK10 => ?_; refine sr fun K11 hK11 => ?_; obtain ⟨t12, q13, H⟩ := bind_some H; refine qc F Try.func4 (haulagelaw13_awake.calls k (m := m + 49) (pl hm0) B _ q13) ?_; rintro e w15 ⟨c14, rfl, E16, B⟩; refine rt fun a F => ?_; replace h4 := h4.ev E16; replace h8 := h8.ev E16
 as_aux_lemma =>
 replace E := E.n E16; refine qv F (r_not F rfl) fun a F => ?_; refine nil (hK11 _ _ ?_)
 by_cases hb19 : t12 = true
 ·replace H := ip hb19 H; refine wcf (fb F (congrArg not hb19)) (wp_skip (hK10 _ _ ?_)); refine sr fun K21 hK21 => ?_; obtain ⟨t22, q23, H⟩ := bind_some H; refine qc F Try.func5 (table_New.calls (m := m + 49) (pl hm0) B (m + 1) lm _ q23) ?_; rintro e w25 ⟨c24, p28, rfl, E26, B, h29⟩; refine rt fun a F => ?_; replace h4 := h4.ev E26; replace h8 := h8.ev E26; replace E := E.n E26; refine qa F fun a F => nil (hK21 _ _ ?_)
  as_aux_lemma =>
  refine sr fun K31 hK31 => qa F fun a F => qa F fun a F => nil (hK31 _ _ ?_); refine sr fun K32 hK32 => qa F fun a F => nil (hK32 _ _ ?_); refine sq fun K33 hK33 => ?_; refine sr fun K34 hK34 => qa F fun a F => nil (hK34 _ _ ?_); refine wp_block ?_; obtain ⟨x393, HL, HR392⟩ := bind_some H; have J731 : ∀ (c732 : Nat → Nat) (w733 : World) (a : Act) (o718 : Option Tab) (l720 : List api_Answer) (A721 : Option Addr) (C722 : Nat) (l724 : List api_Answer) (A725 : Option Addr) (C726 : Nat) (l728 : List (List Int)) (A729 : Option Addr) (C730 : Nat), Fr a 338 [(0, .slice A2 a1.length C3), (1, .slice A6 a5.length C7), (5, .pointer p28), (6, .slice A721 l720.length C722), (7, .slice A725 l724.length C726), (8, .slice A729 l728.length C730)] → Ev (fun x => False ∨ m ≤ x) c0 w0 c732 w733 → CB (m + 49) c732 w733 → SL false K_api_Op 0 0 c732 w733 A2 C3 a1 → SL false (Kint .u8) 0 0 c732 w733 A6 C7 a5 → TB (m + 1) c732 w733 p28 o718 → OL KO_api_Answer (m + 12) (m + 13) c732 w733 A721 C722 l720 → SL true K_api_Answer (m + 14) 0 c732 w733 A725 C726 l724 → SP (Kint .u8) (m + 9) (m + 10) c732 w733 A729 C730 l728 0 → haulagelaw13_TableOwn.j10 k a1 a5 o718 l720 l724 l728 = some r → K33 a w733 := by
   intro c732 w733 a o718 l720 A721 C722 l724 A725 C726 l728 A729 C730 F E B h4 h8 h717 h719 h723 h727 H; unfold haulagelaw13_TableOwn.j10 at H; refine hK33 _ _ ?_; refine sr fun K734 hK734 => qm F fun a F => ?_; obtain ⟨t735, q736, H⟩ := bind_some H; refine qc F Try.func9 (table_Table_Bytes.calls k (m := m + 49) (pl hm0) B h717 lm (m + 15) lm _ q736) ?_; rintro e w738 ⟨c737, A741, C742, rfl, E739, B, h743⟩
   as_aux_lemma =>
   refine rt fun a F => ?_; replace E := E.n E739; refine qa F fun a F => nil (hK734 _ _ ?_); refine sr fun K745 hK745 => ?_; refine q_eff F rfl rfl (by decide) (e_build0 (ee := 5) F (fun w => by kernel_rfl) c737 (m + 16)) ?_; rintro v w747 a ⟨c746, A748, rfl, E749, B750⟩ F; replace B := B750 _ B lm; replace h743 := h743.ev E749; replace E := E.n E749; refine qm F fun a F => ?_; replace H := ifN H; obtain ⟨g752, H⟩ := H; refine q_eff F rfl rfl (by decide) (e_append0 (e := (Kint .u8)) (vs := t735) (c := c746) (j := 0) F et_23 rfl rfl h743 g752 (len_ok g752)) ?_; rintro v w754 a ⟨c753, A755, C756, rfl, E757, h758, B759⟩ F
   as_aux_lemma =>
   replace B := B759 _ B (pl hm0); replace h717 := ((h717.ev E739).ev E749).ev E757; replace E := E.n E757; refine qa F fun a F => nil (hK745 _ _ ?_); refine sr fun K760 hK760 => qm F fun a F => ?_; obtain ⟨t761, q762, H⟩ := bind_some H; refine qc F Try.func9 (table_Table_Bytes.calls k (m := m + 49) (pl hm0) B h717 lm (m + 17) lm _ q762) ?_; rintro e w764 ⟨c763, A767, C768, rfl, E765, B, h769⟩; refine rt fun a F => ?_; replace h717 := h717.ev E765; replace E := E.n E765; refine qa F fun a F => nil (hK760 _ _ ?_); refine sr fun K771 hK771 => qm F fun a F => ?_; obtain ⟨t772, q773, H⟩ := bind_some H
   as_aux_lemma =>
   refine qc F Try.func10 (table_Table_Rows.calls (m := m + 49) (pl hm0) B h717 lm (m + 18) lm (m + 19) ⟨(pl hm0), lm⟩ _ q773) ?_; rintro e w775 ⟨c774, A778, C779, rfl, E776, B, h780⟩; refine rt fun a F => ?_; replace h717 := h717.ev E776; replace E := E.n E776; refine qm F fun a F => ?_; obtain ⟨t782, q783, H⟩ := bind_some H; refine qc F Try.func10 (table_Table_Rows.calls (m := m + 49) (pl hm0) B h717 lm (m + 20) lm (m + 21) ⟨(pl hm0), lm⟩ _ q783) ?_; rintro e w785 ⟨c784, A788, C789, rfl, E786, B, h790⟩; refine rt fun a F => ?_; replace E := E.n E786; refine qa F fun a F => qa F fun a F => nil (hK771 _ _ ?_); replace F : Fr a 338 [(0, .slice A2 a1.length C3), (1, .slice A6 a5.length C7), (5, .pointer p28), (6, .slice A721 l720.length C722), (7, .slice A725 l724.length C726), (8, .slice A729 l728.length C730), (15, .slice A741 t735.length C742), (16, .slice A755 t735.length C756), (17, .slice A767 t761.length C768), (18, .slice A778 t772.length C779), (19, .slice A788 t782.length C789)] := F.sub ⟨rfl, rfl, rfl, rfl, rfl, rfl, rfl, rfl, rfl, rfl, rfl, trivial⟩; refine sr fun K792 hK792 => ?_
   as_aux_lemma =>
   refine q_eff F rfl rfl (by decide) (e_build0 (ee := 5) F (fun w => by kernel_rfl) c784 (m + 22)) ?_; rintro v w794 a ⟨c793, A795, rfl, E796, B797⟩ F; replace B := B797 _ B lm; replace h743 := ((((h743.ev E757).ev E765).ev E776).ev E786).ev E796; replace E := E.n E796; refine qm F fun a F => ?_; replace H := ifN H; obtain ⟨g799, H⟩ := H; refine q_eff F rfl rfl (by decide) (e_append0 (e := (Kint .u8)) (vs := t735) (c := c793) (j := (m + 23)) F et_23 rfl rfl h743 g799 (len_ok g799)) ?_; rintro v w801 a ⟨c800, A802, C803, rfl, E804, h805, B806⟩ F; replace B := B806 _ B lm; replace E := E.n E804; refine qa F fun a F => nil (hK792 _ _ ?_); refine sr fun K807 hK807 => qm F fun a F => ?_; obtain ⟨t808, q809, H⟩ := bind_some H
   as_aux_lemma =>
   refine qc F Try.func11 (table_Read.calls k (m := m + 49) (pl hm0) B h805.r lm (m + 24) lm _ q809) ?_; rintro e w811 ⟨c810, p814, rfl, E812, B, h815⟩; refine rt fun a F => ?_; replace h4 := ((((((((h4.ev E739).ev E749).ev E757).ev E765).ev E776).ev E786).ev E796).ev E804).ev E812; replace h8 := ((((((((h8.ev E739).ev E749).ev E757).ev E765).ev E776).ev E786).ev E796).ev E804).ev E812; replace h717 := (((h717.ev E786).ev E796).ev E804).ev E812; replace h719 := ((((((((h719.ev E739).ev E749).ev E757).ev E765).ev E776).ev E786).ev E796).ev E804).ev E812; replace h723 := ((((((((h723.ev E739).ev E749).ev E757).ev E765).ev E776).ev E786).ev E796).ev E804).ev E812; replace h727 := ((((((((h727.ev E739).ev E749).ev E757).ev E765).ev E776).ev E786).ev E796).ev E804).ev E812; replace h743 := (h743.ev E804).ev E812; replace h758 := (((((h758.ev E765).ev E776).ev E786).ev E796).ev E804).ev E812; replace h769 := ((((h769.ev E776).ev E786).ev E796).ev E804).ev E812; replace h780 := (((h780.ev E786).ev E796).ev E804).ev E812; replace h790 := ((h790.ev E796).ev E804).ev E812
   as_aux_lemma =>
   replace h805 := h805.ev E812; replace E := E.n E812; refine qm F fun a F => ?_; refine qx F fun a F => ?_; refine qx F fun a F => ?_; refine qa F fun a F => qa F fun a F => nil (hK807 _ _ ?_); replace F : Fr a 338 [(0, .slice A2 a1.length C3), (1, .slice A6 a5.length C7), (5, .pointer p28), (6, .slice A721 l720.length C722), (7, .slice A725 l724.length C726), (8, .slice A729 l728.length C730), (15, .slice A741 t735.length C742), (16, .slice A755 t735.length C756), (17, .slice A767 t761.length C768), (18, .slice A778 t772.length C779), (19, .slice A788 t782.length C789), (20, .slice A802 t735.length C803), (21, .pointer p814), (22, .int .i64 t808.2)] := F.sub ⟨rfl, rfl, rfl, rfl, rfl, rfl, rfl, rfl, rfl, rfl, rfl, rfl, rfl, rfl, trivial⟩; refine sq fun K817 hK817 => ?_; refine sq fun K818 hK818 => ?_; have J864 : ∀ (c865 : Nat → Nat) (w866 : World) (a : Act) (b863 : Bool), Fr a 338 [(1, .slice A6 a5.length C7), (5, .pointer p28), (6, .slice A721 l720.length C722), (7, .slice A725 l724.length C726), (8, .slice A729 l728.length C730), (15, .slice A741 t735.length C742), (16, .slice A755 t735.length C756), (17, .slice A767 t761.length C768), (18, .slice A778 t772.length C779), (19, .slice A788 t782.length C789), (20, .slice A802 t735.length C803), (21, .pointer p814), (149, .bool b863)] → Ev (fun x => False ∨ m ≤ x) c0 w0 c865 w866 → CB (m + 49) c865 w866 → SL false (Kint .u8) 0 0 c865 w866 A6 C7 a5 → TB (m + 1) c865 w866 p28 o718 → OL KO_api_Answer (m + 12) (m + 13) c865 w866 A721 C722 l720 → SL true K_api_Answer (m + 14) 0 c865 w866 A725 C726 l724 → SP (Kint .u8) (m + 9) (m + 10) c865 w866 A729 C730 l728 0 → SL true (Kint .u8) (m + 15) 0 c865 w866 A741 C742 t735 → SL true (Kint .u8) 0 0 c865 w866 A755 C756 t735 → SL true (Kint .u8) (m + 17) 0 c865 w866 A767 C768 t761 → OL KO_api_Row (m + 18) (m + 19) c865 w866 A778 C779 t772 → OL KO_api_Row (m + 20) (m + 21) c865 w866 A788 C789 t782 → SL true (Kint .u8) (m + 23) 0 c865 w866 A802 C803 t735 → TB (m + 24) c865 w866 p814 t808.1 → haulagelaw13_TableOwn.j11 k a5 o718 l720 l724 l728 t735 t761 t772 t782 t808 b863 = some r → K818 a w866 := by
    intro c865 w866 a b863 F E B h8 h717 h719 h723 h727 h743 h758 h769 h780 h790 h805 h815 H; unfold haulagelaw13_TableOwn.j11 at H; refine hK818 _ _ ?_
    by_cases hb867 : b863 = true
    ·replace H := ip hb867 H
     as_aux_lemma =>
     refine wct (fb F hb867) ?_; refine sr fun K868 hK868 => qa F fun a F => nil (hK868 _ _ ?_); replace F : Fr a 338 [(4, .bool false)] := F.sub ⟨rfl, trivial⟩; refine wp_ret ?_; refine thenR ?_; obtain rfl := si H; refine out1 F rfl rfl ?_; exact ⟨cf (ct m) c865, rfl, E.lv B0, cfb⟩
    replace H := im hb867 H; refine wcf (fb F (bfalse hb867)) (wp_skip (hK817 _ _ ?_)); refine sr fun K869 hK869 => qm F fun a F => qm F fun a F => ?_; obtain ⟨t870, q871, H⟩ := bind_some H; refine qc F Try.func15 (haulagelaw13_get.calls (m := m + 49) (pl hm0) B h8 (pl hm0) 0 (pl hm0) _ q871) ?_; rintro e w873 ⟨c872, A876, C877, A879, C880, rfl, E874, B, h878, h881⟩
    as_aux_lemma =>
    refine rt fun a F => ?_; replace h815 := h815.ev E874; replace E := E.n E874; obtain ⟨t883, q884, H⟩ := bind_some H; refine qc F Try.func7 (table_Table_Do.calls k (m := m + 49) (pl hm0) B h815 h878 h881.r ⟨(pl hm0), lm⟩ ⟨(by omega), (by omega)⟩ ⟨(pl hm0), ne_zm⟩ (m + 26) lm (m + 27) lm _ q884) ?_; rintro e w886 ⟨c885, A889, C890, A892, C893, rfl, E887, B, h891, h894, h895⟩; refine rt fun a F => ?_; replace E := E.trans E887 lc1; refine qm F fun a F => ?_; refine qx F fun a F => ?_; refine qx F fun a F => ?_; refine q_eff F rfl rfl (by decide) (e_alloc F zv_33 c885 (m + 28)) ?_; rintro v w898 a ⟨c897, qa899, rfl, E900, h901, B902⟩ F; replace B := B902 _ B lm
    as_aux_lemma =>
    replace E := E.n E900; replace h901 : AT _ _ _ _ _ [.bool false, .slice none 0 0, .slice none 0 0, .int .i64 0, .int .i64 0] := h901; refine q_eff0 F rfl rfl (e_storeN0 (us := [.bool t883.1.Done, .slice A889 t883.1.Key.length C890, .slice A892 t883.1.Value.length C893, .int .i64 t883.1.Rev, .int .i64 t883.1.At]) F rfl rfl sz_33 h901 (nb rfl) (one_all rfl)) ?_; rintro w904 a ⟨E905, h901, Z906⟩ F; replace B := B.size Z906; replace h8 := (((h8.ev E874).ev E887).ev E900).ev E905; replace E := E.trans E905 lc1; replace h901 : AT _ _ _ _ _ [.bool t883.1.Done, .slice A889 t883.1.Key.length C890, .slice A892 t883.1.Value.length C893, .int .i64 t883.1.Rev, .int .i64 t883.1.At] := h901; refine qa F fun a F => nil (hK869 _ _ ?_); replace F : Fr a 338 [(1, .slice A6 a5.length C7), (5, .pointer p28), (6, .slice A721 l720.length C722), (7, .slice A725 l724.length C726), (8, .slice A729 l728.length C730), (15, .slice A741 t735.length C742), (16, .slice A755 t735.length C756), (17, .slice A767 t761.length C768), (18, .slice A778 t772.length C779), (19, .slice A788 t782.length C789), (20, .slice A802 t735.length C803), (21, .pointer p814), (23, .pointer (some qa899)), (24, .int .i64 t883.2.1)] := F.sub ⟨rfl, rfl, rfl, rfl, rfl, rfl, rfl, rfl, rfl, rfl, rfl, rfl, rfl, rfl, trivial⟩; refine sr fun K907 hK907 => qm F fun a F => qm F fun a F => ?_; obtain ⟨t908, q909, H⟩ := bind_some H; refine qc F Try.func15 (haulagelaw13_get.calls (m := m + 49) (pl hm0) B h8 (pl hm0) 0 (pl hm0) _ q909) ?_; rintro e w911 ⟨c910, A914, C915, A917, C918, rfl, E912, B, h916, h919⟩
    as_aux_lemma =>
    refine rt fun a F => ?_; replace h895 := ((h895.ev E900).ev E905).ev E912; replace E := E.n E912; obtain ⟨t921, q922, H⟩ := bind_some H; refine qc F Try.func7 (table_Table_Do.calls k (m := m + 49) (pl hm0) B h895 h916 h919.r ⟨(pl hm0), lm⟩ ⟨(by omega), (by omega)⟩ ⟨(pl hm0), ne_zm⟩ (m + 29) lm (m + 30) lm _ q922) ?_; rintro e w924 ⟨c923, A927, C928, A930, C931, rfl, E925, B, h929, h932, h933⟩; refine rt fun a F => ?_; replace E := E.trans E925 lc1; refine qm F fun a F => ?_; refine qx F fun a F => ?_; refine qx F fun a F => ?_; refine q_eff F rfl rfl (by decide) (e_alloc F zv_33 c923 (m + 31)) ?_; rintro v w936 a ⟨c935, qa937, rfl, E938, h939, B940⟩ F; replace B := B940 _ B lm
    as_aux_lemma =>
    replace E := E.n E938; replace h939 : AT _ _ _ _ _ [.bool false, .slice none 0 0, .slice none 0 0, .int .i64 0, .int .i64 0] := h939; refine q_eff0 F rfl rfl (e_storeN0 (us := [.bool t921.1.Done, .slice A927 t921.1.Key.length C928, .slice A930 t921.1.Value.length C931, .int .i64 t921.1.Rev, .int .i64 t921.1.At]) F rfl rfl sz_33 h939 (nb rfl) (one_all rfl)) ?_; rintro w942 a ⟨E943, h939, Z944⟩ F; replace B := B.size Z944; replace h717 := (((((((h717.ev E874).ev E887).ev E900).ev E905).ev E912).ev E925).ev E938).ev E943; replace h719 := (((((((h719.ev E874).ev E887).ev E900).ev E905).ev E912).ev E925).ev E938).ev E943; replace h723 := (((((((h723.ev E874).ev E887).ev E900).ev E905).ev E912).ev E925).ev E938).ev E943; replace h727 := (((((((h727.ev E874).ev E887).ev E900).ev E905).ev E912).ev E925).ev E938).ev E943; replace h743 := (((((((h743.ev E874).ev E887).ev E900).ev E905).ev E912).ev E925).ev E938).ev E943; replace h758 := (((((((h758.ev E874).ev E887).ev E900).ev E905).ev E912).ev E925).ev E938).ev E943; replace h769 := (((((((h769.ev E874).ev E887).ev E900).ev E905).ev E912).ev E925).ev E938).ev E943; replace h780 := (((((((h780.ev E874).ev E887).ev E900).ev E905).ev E912).ev E925).ev E938).ev E943; replace h790 := (((((((h790.ev E874).ev E887).ev E900).ev E905).ev E912).ev E925).ev E938).ev E943
    as_aux_lemma =>
    replace h805 := (((((((h805.ev E874).ev E887).ev E900).ev E905).ev E912).ev E925).ev E938).ev E943; replace h891 := (((((h891.ev E900).ev E905).ev E912).ev E925).ev E938).ev E943; replace h894 := (((((h894.ev E900).ev E905).ev E912).ev E925).ev E938).ev E943; replace h901 := (((h901.ev E912).ev E925).ev E938).ev E943; replace h929 := (h929.ev E938).ev E943; replace h932 := (h932.ev E938).ev E943; replace h933 := (h933.ev E938).ev E943; replace E := E.trans E943 lc1; replace h939 : AT _ _ _ _ _ [.bool t921.1.Done, .slice A927 t921.1.Key.length C928, .slice A930 t921.1.Value.length C931, .int .i64 t921.1.Rev, .int .i64 t921.1.At] := h939; refine qa F fun a F => nil (hK907 _ _ ?_); replace F : Fr a 338 [(5, .pointer p28), (6, .slice A721 l720.length C722), (7, .slice A725 l724.length C726), (8, .slice A729 l728.length C730), (15, .slice A741 t735.length C742), (16, .slice A755 t735.length C756), (17, .slice A767 t761.length C768), (18, .slice A778 t772.length C779), (19, .slice A788 t782.length C789), (20, .slice A802 t735.length C803), (21, .pointer p814), (23, .pointer (some qa899)), (24, .int .i64 t883.2.1), (25, .pointer (some qa937)), (26, .int .i64 t921.2.1)] := F.sub ⟨rfl, rfl, rfl, rfl, rfl, rfl, rfl, rfl, rfl, rfl, rfl, rfl, rfl, rfl, rfl, trivial⟩; refine sq fun K945 hK945 => ?_; refine sq fun K946 hK946 => ?_; have J956 : ∀ (c957 : Nat → Nat) (w958 : World) (a : Act) (b955 : Bool), Fr a 338 [(5, .pointer p28), (6, .slice A721 l720.length C722), (7, .slice A725 l724.length C726), (8, .slice A729 l728.length C730), (15, .slice A741 t735.length C742), (16, .slice A755 t735.length C756), (17, .slice A767 t761.length C768), (18, .slice A778 t772.length C779), (19, .slice A788 t782.length C789), (20, .slice A802 t735.length C803), (21, .pointer p814), (23, .pointer (some qa899)), (25, .pointer (some qa937)), (172, .bool b955)] → Ev (fun x => False ∨ m ≤ x) c0 w0 c957 w958 → CB (m + 49) c957 w958 → AT true (m + 28) c957 w958 qa899 [.bool t883.1.Done, .slice A889 t883.1.Key.length C890, .slice A892 t883.1.Value.length C893, .int .i64 t883.1.Rev, .int .i64 t883.1.At] → AT true (m + 31) c957 w958 qa937 [.bool t921.1.Done, .slice A927 t921.1.Key.length C928, .slice A930 t921.1.Value.length C931, .int .i64 t921.1.Rev, .int .i64 t921.1.At] → TB (m + 1) c957 w958 p28 o718 → OL KO_api_Answer (m + 12) (m + 13) c957 w958 A721 C722 l720 → SL true K_api_Answer (m + 14) 0 c957 w958 A725 C726 l724 → SP (Kint .u8) (m + 9) (m + 10) c957 w958 A729 C730 l728 0 → SL true (Kint .u8) (m + 15) 0 c957 w958 A741 C742 t735 → SL true (Kint .u8) 0 0 c957 w958 A755 C756 t735 → SL true (Kint .u8) (m + 17) 0 c957 w958 A767 C768 t761 → OL KO_api_Row (m + 18) (m + 19) c957 w958 A778 C779 t772 → OL KO_api_Row (m + 20) (m + 21) c957 w958 A788 C789 t782 → SL true (Kint .u8) (m + 23) 0 c957 w958 A802 C803 t735 → TB (m + 24) c957 w958 p814 t921.2.2 → SL true (Kint .u8) (m + 26) 0 c957 w958 A889 C890 t883.1.Key → SL true (Kint .u8) (m + 27) 0 c957 w958 A892 C893 t883.1.Value → SL true (Kint .u8) (m + 29) 0 c957 w958 A927 C928 t921.1.Key → SL true (Kint .u8) (m + 30) 0 c957 w958 A930 C931 t921.1.Value → haulagelaw13_TableOwn.j12 k o718 l720 l724 l728 t735 t761 t772 t782 t883 t921 b955 = some r → K946 a w958 := by
     intro c957 w958 a b955 F E B h901 h939 h717 h719 h723 h727 h743 h758 h769 h780 h790 h805 h933 h891 h894 h929 h932 H; unfold haulagelaw13_TableOwn.j12 at H
     as_aux_lemma =>
     refine hK946 _ _ ?_
     by_cases hb959 : b955 = true
     ·replace H := ip hb959 H; refine wct (fb F hb959) ?_; refine sr fun K960 hK960 => qa F fun a F => nil (hK960 _ _ ?_); replace F : Fr a 338 [(4, .bool false)] := F.sub ⟨rfl, trivial⟩; refine wp_ret ?_; refine thenR ?_; obtain rfl := si H; refine out1 F rfl rfl ?_; exact ⟨cf (ct m) c957, rfl, E.lv B0, cfb⟩
     replace H := im hb959 H; refine wcf (fb F (bfalse hb959)) (wp_skip (hK945 _ _ ?_)); refine sq fun K961 hK961 => ?_; refine sr fun K962 hK962 => qa F fun a F => nil (hK962 _ _ ?_)
     as_aux_lemma =>
     refine wp_block ?_; obtain ⟨x1004, HL, HR1003⟩ := bind_some H; have J1028 : ∀ (c1029 : Nat → Nat) (w1030 : World) (a : Act) (l1027 : List Int), Fr a 338 [(5, .pointer p28), (6, .slice A721 l720.length C722), (7, .slice A725 l724.length C726), (8, .slice A729 l728.length C730), (15, .slice A741 t735.length C742), (16, .slice A755 t735.length C756), (17, .slice A767 t761.length C768), (18, .slice A778 t772.length C779), (19, .slice A788 t782.length C789), (20, .slice A802 l1027.length C803), (21, .pointer p814), (23, .pointer (some qa899)), (25, .pointer (some qa937))] → Ev (fun x => False ∨ m ≤ x) c0 w0 c1029 w1030 → CB (m + 49) c1029 w1030 → AT true (m + 28) c1029 w1030 qa899 [.bool t883.1.Done, .slice A889 t883.1.Key.length C890, .slice A892 t883.1.Value.length C893, .int .i64 t883.1.Rev, .int .i64 t883.1.At] → AT true (m + 31) c1029 w1030 qa937 [.bool t921.1.Done, .slice A927 t921.1.Key.length C928, .slice A930 t921.1.Value.length C931, .int .i64 t921.1.Rev, .int .i64 t921.1.At] → TB (m + 1) c1029 w1030 p28 o718 → OL KO_api_Answer (m + 12) (m + 13) c1029 w1030 A721 C722 l720 → SL true K_api_Answer (m + 14) 0 c1029 w1030 A725 C726 l724 → SP (Kint .u8) (m + 9) (m + 10) c1029 w1030 A729 C730 l728 0 → SL true (Kint .u8) (m + 15) 0 c1029 w1030 A741 C742 t735 → SL true (Kint .u8) 0 0 c1029 w1030 A755 C756 t735 → SL true (Kint .u8) (m + 17) 0 c1029 w1030 A767 C768 t761 → OL KO_api_Row (m + 18) (m + 19) c1029 w1030 A778 C779 t772 → OL KO_api_Row (m + 20) (m + 21) c1029 w1030 A788 C789 t782 → TB (m + 24) c1029 w1030 p814 t921.2.2 → SL true (Kint .u8) (m + 26) 0 c1029 w1030 A889 C890 t883.1.Key → SL true (Kint .u8) (m + 27) 0 c1029 w1030 A892 C893 t883.1.Value → SL true (Kint .u8) (m + 29) 0 c1029 w1030 A927 C928 t921.1.Key → SL true (Kint .u8) (m + 30) 0 c1029 w1030 A930 C931 t921.1.Value → SL true (Kint .u8) (m + 23) 0 c1029 w1030 A802 C803 l1027 → haulagelaw13_TableOwn.j14 k o718 l720 l724 l728 t735 t761 t772 t782 t883 t921 l1027 = some r → K961 a w1030 := by
      intro c1029 w1030 a l1027 F E B h901 h939 h717 h719 h723 h727 h743 h758 h769 h780 h790 h933 h891 h894 h929 h932 h1026 H; unfold haulagelaw13_TableOwn.j14 at H; refine hK961 _ _ ?_; refine sq fun K1031 hK1031 => ?_; have J1043 : ∀ (c1044 : Nat → Nat) (w1045 : World) (a : Act) (l1042 : List Int) (A1039 : Option Addr) (C1040 : Nat), Fr a 338 [(5, .pointer p28), (6, .slice A721 l720.length C722), (7, .slice A725 l724.length C726), (8, .slice A729 l728.length C730), (15, .slice A741 t735.length C742), (16, .slice A755 t735.length C756), (17, .slice A767 t761.length C768), (18, .slice A778 t772.length C779), (19, .slice A788 t782.length C789), (20, .slice A1039 l1042.length C1040), (21, .pointer p814), (23, .pointer (some qa899)), (25, .pointer (some qa937))] → Ev (fun x => False ∨ m ≤ x) c0 w0 c1044 w1045 → CB (m + 49) c1044 w1045 → AT true (m + 28) c1044 w1045 qa899 [.bool t883.1.Done, .slice A889 t883.1.Key.length C890, .slice A892 t883.1.Value.length C893, .int .i64 t883.1.Rev, .int .i64 t883.1.At] → AT true (m + 31) c1044 w1045 qa937 [.bool t921.1.Done, .slice A927 t921.1.Key.length C928, .slice A930 t921.1.Value.length C931, .int .i64 t921.1.Rev, .int .i64 t921.1.At] → TB (m + 1) c1044 w1045 p28 o718 → OL KO_api_Answer (m + 12) (m + 13) c1044 w1045 A721 C722 l720 → SL true K_api_Answer (m + 14) 0 c1044 w1045 A725 C726 l724 → SP (Kint .u8) (m + 9) (m + 10) c1044 w1045 A729 C730 l728 0 → SL true (Kint .u8) (m + 15) 0 c1044 w1045 A741 C742 t735 → SL true (Kint .u8) 0 0 c1044 w1045 A755 C756 t735 → SL true (Kint .u8) (m + 17) 0 c1044 w1045 A767 C768 t761 → OL KO_api_Row (m + 18) (m + 19) c1044 w1045 A778 C779 t772 → OL KO_api_Row (m + 20) (m + 21) c1044 w1045 A788 C789 t782 → TB (m + 24) c1044 w1045 p814 t921.2.2 → SL true (Kint .u8) (m + 26) 0 c1044 w1045 A889 C890 t883.1.Key → SL true (Kint .u8) (m + 27) 0 c1044 w1045 A892 C893 t883.1.Value → SL true (Kint .u8) (m + 29) 0 c1044 w1045 A927 C928 t921.1.Key → SL true (Kint .u8) (m + 30) 0 c1044 w1045 A930 C931 t921.1.Value → SL true (Kint .u8) (m + 23) 0 c1044 w1045 A1039 C1040 l1042 → haulagelaw13_TableOwn.j15 k o718 l720 l724 l728 t735 t761 t772 t782 t883 t921 l1042 = some r → K1031 a w1045 := by
       intro c1044 w1045 a l1042 A1039 C1040 F E B h901 h939 h717 h719 h723 h727 h743 h758 h769 h780 h790 h933 h891 h894 h929 h932 h1041 H; unfold haulagelaw13_TableOwn.j15 at H; refine hK1031 _ _ ?_; refine sr fun K1046 hK1046 => qm F fun a F => ?_; obtain ⟨t1047, q1048, H⟩ := bind_some H; refine qc F Try.func11 (table_Read.calls k (m := m + 49) (pl hm0) B h1041.r lm (m + 32) lm _ q1048) ?_; rintro e w1050 ⟨c1049, p1053, rfl, E1051, B, h1054⟩
       as_aux_lemma =>
       refine rt fun a F => ?_; replace h901 := h901.ev E1051; replace h939 := h939.ev E1051; replace h717 := h717.ev E1051; replace h719 := h719.ev E1051; replace h723 := h723.ev E1051; replace h727 := h727.ev E1051; replace h743 := h743.ev E1051; replace h758 := h758.ev E1051; replace h769 := h769.ev E1051; replace h780 := h780.ev E1051; replace h790 := h790.ev E1051; replace h933 := h933.ev E1051; replace h891 := h891.ev E1051
       as_aux_lemma =>
       replace h894 := h894.ev E1051; replace h929 := h929.ev E1051; replace h932 := h932.ev E1051; replace E := E.n E1051; refine qm F fun a F => ?_; refine qx F fun a F => ?_; refine qx F fun a F => ?_; refine qa F fun a F => qa F fun a F => nil (hK1046 _ _ ?_); refine sq fun K1056 hK1056 => ?_; refine sq fun K1057 hK1057 => ?_; have J1094 : ∀ (c1095 : Nat → Nat) (w1096 : World) (a : Act) (b1093 : Bool), Fr a 338 [(5, .pointer p28), (6, .slice A721 l720.length C722), (7, .slice A725 l724.length C726), (8, .slice A729 l728.length C730), (15, .slice A741 t735.length C742), (16, .slice A755 t735.length C756), (17, .slice A767 t761.length C768), (18, .slice A778 t772.length C779), (19, .slice A788 t782.length C789), (21, .pointer p814), (23, .pointer (some qa899)), (25, .pointer (some qa937)), (28, .pointer p1053), (214, .bool b1093)] → Ev (fun x => False ∨ m ≤ x) c0 w0 c1095 w1096 → CB (m + 49) c1095 w1096 → AT true (m + 28) c1095 w1096 qa899 [.bool t883.1.Done, .slice A889 t883.1.Key.length C890, .slice A892 t883.1.Value.length C893, .int .i64 t883.1.Rev, .int .i64 t883.1.At] → AT true (m + 31) c1095 w1096 qa937 [.bool t921.1.Done, .slice A927 t921.1.Key.length C928, .slice A930 t921.1.Value.length C931, .int .i64 t921.1.Rev, .int .i64 t921.1.At] → TB (m + 1) c1095 w1096 p28 o718 → OL KO_api_Answer (m + 12) (m + 13) c1095 w1096 A721 C722 l720 → SL true K_api_Answer (m + 14) 0 c1095 w1096 A725 C726 l724 → SP (Kint .u8) (m + 9) (m + 10) c1095 w1096 A729 C730 l728 0 → SL true (Kint .u8) (m + 15) 0 c1095 w1096 A741 C742 t735 → SL true (Kint .u8) 0 0 c1095 w1096 A755 C756 t735 → SL true (Kint .u8) (m + 17) 0 c1095 w1096 A767 C768 t761 → OL KO_api_Row (m + 18) (m + 19) c1095 w1096 A778 C779 t772 → OL KO_api_Row (m + 20) (m + 21) c1095 w1096 A788 C789 t782 → TB (m + 24) c1095 w1096 p814 t921.2.2 → SL true (Kint .u8) (m + 26) 0 c1095 w1096 A889 C890 t883.1.Key → SL true (Kint .u8) (m + 27) 0 c1095 w1096 A892 C893 t883.1.Value → SL true (Kint .u8) (m + 29) 0 c1095 w1096 A927 C928 t921.1.Key → SL true (Kint .u8) (m + 30) 0 c1095 w1096 A930 C931 t921.1.Value → TB (m + 32) c1095 w1096 p1053 t1047.1 → haulagelaw13_TableOwn.j16 k o718 l720 l724 l728 t735 t761 t772 t782 t883 t921 t1047 b1093 = some r → K1057 a w1096 := by
        intro c1095 w1096 a b1093 F E B h901 h939 h717 h719 h723 h727 h743 h758 h769 h780 h790 h933 h891 h894 h929 h932 h1054 H; unfold haulagelaw13_TableOwn.j16 at H; refine hK1057 _ _ ?_
        by_cases hb1097 : b1093 = true
        ·replace H := ip hb1097 H
         as_aux_lemma =>
         refine wct (fb F hb1097) ?_; refine sr fun K1098 hK1098 => qa F fun a F => nil (hK1098 _ _ ?_); replace F : Fr a 338 [(4, .bool false)] := F.sub ⟨rfl, trivial⟩; refine wp_ret ?_; refine thenR ?_; obtain rfl := si H; refine out1 F rfl rfl ?_; exact ⟨cf (ct m) c1095, rfl, E.lv B0, cfb⟩
        replace H := im hb1097 H; refine wcf (fb F (bfalse hb1097)) (wp_skip (hK1056 _ _ ?_)); refine sr fun K1099 hK1099 => ?_; refine q_eff F rfl rfl (by decide) (e_buildSlice (n := 2) (e := 5) (c := c1095) (k := (Kint .u8)) (i := 0) F [(0, .int .u8 5), (1, .int .u8 5)] [.int .u8 5, .int .u8 5] ([5, 5] : List Int) (by exact ⟨rfl, rfl, rfl, rfl, trivial⟩) (fun w => by kernel_rfl) rfl (by decide) rfl ⟨rfl, rfl, trivial⟩ (fun q => q) (m + 33)) ?_; rintro v w1101 a ⟨c1100, A1102, C1103, rfl, E1104, h1105, B1106⟩ F; replace B := B1106 _ B lm
        as_aux_lemma =>
        replace E := E.n E1104; refine q_eff F rfl rfl (by decide) (e_buildSlice (n := 1) (e := 5) (c := c1100) (k := (Kint .u8)) (i := 0) F [(0, .int .u8 1)] [.int .u8 1] ([1] : List Int) (by exact ⟨rfl, rfl, trivial⟩) (fun w => by kernel_rfl) rfl (by decide) rfl ⟨rfl, trivial⟩ (fun q => q) (m + 34)) ?_; rintro v w1108 a ⟨c1107, A1109, C1110, rfl, E1111, h1112, B1113⟩ F; replace B := B1113 _ B lm; replace h901 := (h901.ev E1104).ev E1111; replace h939 := (h939.ev E1104).ev E1111; replace h717 := (h717.ev E1104).ev E1111; replace h719 := (h719.ev E1104).ev E1111; replace h723 := (h723.ev E1104).ev E1111; replace h727 := (h727.ev E1104).ev E1111; replace h743 := (h743.ev E1104).ev E1111; replace h758 := (h758.ev E1104).ev E1111; replace h769 := (h769.ev E1104).ev E1111; replace h780 := (h780.ev E1104).ev E1111
        as_aux_lemma =>
        replace h790 := (h790.ev E1104).ev E1111; replace h933 := (h933.ev E1104).ev E1111; replace h891 := (h891.ev E1104).ev E1111; replace h894 := (h894.ev E1104).ev E1111; replace h929 := (h929.ev E1104).ev E1111; replace h932 := (h932.ev E1104).ev E1111; replace h1054 := (h1054.ev E1104).ev E1111; replace h1105 := h1105.ev E1111; replace E := E.n E1111; obtain ⟨t1114, q1115, H⟩ := bind_some H; refine qc F Try.func19 (haulagelaw13_put.calls (m := m + 49) (pl hm0) B h1105 h1112 ⟨(pl hm0), lm⟩ ⟨(pl hm0), lm, mm⟩ _ q1115) ?_; rintro e w1117 ⟨c1116, A1120, C1121, A1123, C1124, rfl, E1118, B, h1122, h1125⟩; refine rt fun a F => ?_; replace h901 := h901.ev E1118 (nor mm mm)
        as_aux_lemma =>
        replace h939 := h939.ev E1118 (nor mm mm); replace h717 := h717.ev E1118 (nor mm mm) (nor ne_zm ne_zm); replace h719 := h719.ev E1118 (nor mm mm) (nor mm mm) (nor ne_zm ne_zm); replace h723 := h723.ev E1118 (nor mm mm) (nor ne_zm ne_zm); replace h727 := h727.ev E1118 (nor mm mm) (nor mm mm) (nor ne_zm ne_zm); replace h743 := h743.ev E1118 (nor mm mm) (nor ne_zm ne_zm); replace h758 := h758.ev E1118 (nor ne_zm ne_zm) (nor ne_zm ne_zm); replace h769 := h769.ev E1118 (nor mm mm) (nor ne_zm ne_zm); replace h780 := h780.ev E1118 (nor mm mm) (nor mm mm) (nor ne_zm ne_zm); replace h790 := h790.ev E1118 (nor mm mm) (nor mm mm) (nor ne_zm ne_zm); replace h933 := h933.ev E1118 (nor mm mm) (nor ne_zm ne_zm); replace h891 := h891.ev E1118 (nor mm mm) (nor ne_zm ne_zm); replace h894 := h894.ev E1118 (nor mm mm) (nor ne_zm ne_zm); replace h929 := h929.ev E1118 (nor mm mm) (nor ne_zm ne_zm)
        as_aux_lemma =>
        replace h932 := h932.ev E1118 (nor mm mm) (nor ne_zm ne_zm); replace h1054 := h1054.ev E1118 (nor mm mm) (nor ne_zm ne_zm); replace E := E.trans E1118 lc2; refine q_eff F rfl rfl (by decide) (e_alloc F zv_30 c1116 (m + 35)) ?_; rintro v w1128 a ⟨c1127, qa1129, rfl, E1130, h1131, B1132⟩ F; replace B := B1132 _ B lm; replace E := E.n E1130; replace h1131 : AT _ _ _ _ _ [.int .i64 0, .slice none 0 0, .slice none 0 0, .int .i64 0] := h1131; refine q_eff0 F rfl rfl (e_storeN0 (us := [.int .i64 t1114.Kind, .slice A1120 t1114.Key.length C1121, .slice A1123 t1114.Value.length C1124, .int .i64 t1114.Rev]) F rfl rfl sz_30 h1131 (nb rfl) (one_all rfl)) ?_; rintro w1134 a ⟨E1135, h1131, Z1136⟩ F; replace B := B.size Z1136; replace h1054 := (h1054.ev E1130).ev E1135; replace h1122 := (h1122.ev E1130).ev E1135; replace h1125 := (h1125.ev E1130).ev E1135
        as_aux_lemma =>
        replace E := E.trans E1135 lc1; replace h1131 : AT _ _ _ _ _ [.int .i64 t1114.Kind, .slice A1120 t1114.Key.length C1121, .slice A1123 t1114.Value.length C1124, .int .i64 t1114.Rev] := h1131; refine nil (hK1099 _ _ ?_); refine sr fun K1137 hK1137 => qm F fun a F => ?_; refine qv F (r_loads (cs := [.int .i64 t1114.Kind, .slice A1120 t1114.Key.length C1121, .slice A1123 t1114.Value.length C1124, .int .i64 t1114.Rev]) F rfl ag_30 sz_30 h1131) fun a F => ?_; obtain ⟨t1138, q1139, H⟩ := bind_some H; refine qc F Try.func7 (table_Table_Do.calls k (m := m + 49) (pl hm0) B h1054 h1122.r h1125.r ⟨(pl hm0), lm⟩ ⟨lm, mm⟩ ⟨lm, mm⟩ 0 (pl hm0) 0 (pl hm0) _ q1139) ?_; rintro e w1141 ⟨c1140, A1144, C1145, A1147, C1148, rfl, E1142, B, h1146, h1149, h1150⟩; refine rt fun a F => ?_; replace h723 := ((h723.ev E1130).ev E1135).ev E1142; replace h1125 := h1125.ev E1142; replace h1131 := h1131.ev E1142; replace E := E.trans E1142 lc1; refine qm F fun a F => ?_
        as_aux_lemma =>
        refine qx F fun a F => ?_; refine qx F fun a F => ?_; refine nil (hK1137 _ _ ?_); replace F : Fr a 338 [(5, .pointer p28), (6, .slice A721 l720.length C722), (7, .slice A725 l724.length C726), (8, .slice A729 l728.length C730), (15, .slice A741 t735.length C742), (16, .slice A755 t735.length C756), (17, .slice A767 t761.length C768), (18, .slice A778 t772.length C779), (19, .slice A788 t782.length C789), (21, .pointer p814), (23, .pointer (some qa899)), (25, .pointer (some qa937)), (28, .pointer p1053), (30, .pointer (some qa1129))] := F.sub ⟨rfl, rfl, rfl, rfl, rfl, rfl, rfl, rfl, rfl, rfl, rfl, rfl, rfl, rfl, trivial⟩; refine sq fun K1152 hK1152 => ?_; refine regD (SB (fun x => x = m + 33) c1140 w1141) 7 (.q 0 (.q 1 (.q 2 (.q 3 (.q 4 (.e 5 (.q 6 (.e 7 .nil)))))))) Try_hm (by decide +kernel) ?_; intro w1153 w1_ w2_ w3_ w4_; have E1154 : Ev No c1140 w1141 c1140 w1153 := Ev.same w1_ w2_ w3_ w4_; replace B := B.same w1_; have zh723 := h723; have zh1125 := h1125; have zh1131 := h1131; have ER : Ev (fun x => x = m + 33) c1140 w1141 c1140 w1153 := Ev.same w1_ w2_ w3_ w4_; replace h1122 := (h1122.ev E1142).ev E1154
        as_aux_lemma =>
        replace E := E.n E1154; refine df F ff_30_1 ER.sb fun a F => ?_; refine dl F ag_23 zh1131 mm ER.sb fun a F => ?_; refine df F ff_30_2 ER.sb fun a F => ?_; refine dl F ag_23 zh1131 mm ER.sb fun a F => ?_; replace H := ifN H; obtain ⟨g1155, H⟩ := H; obtain ⟨ad1156, cs1157, e1158, h1159, r1160⟩ := SL.at h1122 0 g1155.1 g1155.2; obtain rfl : cs1157 = [.int .u8 (rd t1114.Key 0)] := r1160; obtain ⟨qa1161, qqa1161⟩ : ∃ q, q = (ad1156.add ((0 : Int).toNat * 1)) := ⟨_, rfl⟩; have h1159 : AT true (m + 33) c1140 w1153 qa1161 [.int .u8 (rd t1114.Key 0)] := by rw [qqa1161]; exact h1159
        refine dq F (fun wq hS => r_indexAddr' F Try.underlying23 sz_5 rfl rfl g1155.1 g1155.2 e1158 qqa1161) ER.sb fun a F => ?_; refine d_e ?_; refine o_eff0 F rfl rfl rfl (e_storeel0 (k := (Kint .u8)) F rfl rfl sz_5 h1122 g1155.1 g1155.2 e1158 qqa1161 h1159 rfl (nb rfl) rfl 6 rfl ne_zm) ?_; rintro w1163 a ⟨E1164, h1122, Z1165⟩ F
        as_aux_lemma =>
        replace B := B.size Z1165; replace ER := ER.trans E1164 (fun x q => by replace q : x = m + 33 := q; show x = m + 33; omega); replace h1125 := (h1125.ev E1154).ev E1164; replace h1131 := (h1131.ev E1154).ev E1164; replace E := E.trans E1164 lc1; have hl1166 : t1114.Key.length = (t1114.Key.set (0 : Int).toNat 6).length := by simp
        have h1131 : AT true (m + 35) c1140 w1163 qa1129 [.int .i64 t1114.Kind, .slice A1120 (t1114.Key.set (0 : Int).toNat 6).length C1121, .slice A1123 t1114.Value.length C1124, .int .i64 t1114.Rev] := by rw [← hl1166]; exact h1131
        replace F := F.sub (L' := [(5, .pointer p28), (6, .slice A721 l720.length C722), (7, .slice A725 l724.length C726), (8, .slice A729 l728.length C730), (15, .slice A741 t735.length C742), (16, .slice A755 t735.length C756), (17, .slice A767 t761.length C768), (18, .slice A778 t772.length C779), (19, .slice A788 t782.length C789), (21, .pointer p814), (23, .pointer (some qa899)), (25, .pointer (some qa937)), (28, .pointer p1053), (30, .pointer (some qa1129)), (224, .pointer (some (qa1129.add 1))), (225, .slice A1120 (t1114.Key.set (0 : Int).toNat 6).length C1121), (226, .pointer (some (qa1129.add 2))), (227, .slice A1123 t1114.Value.length C1124)]) ⟨rfl, rfl, rfl, rfl, rfl, rfl, rfl, rfl, rfl, rfl, rfl, rfl, rfl, rfl, rfl, (by rw [← hl1166]; rfl), rfl, rfl, trivial⟩; refine ⟨fun _ => ER.sb, ?_⟩; replace H := ifN H; obtain ⟨g1167, H⟩ := H; obtain ⟨ad1168, cs1169, e1170, h1171, r1172⟩ := SL.at zh1125 0 g1167.1 g1167.2; obtain rfl : cs1169 = [.int .u8 (rd t1114.Value 0)] := r1172; obtain ⟨qa1173, qqa1173⟩ : ∃ q, q = (ad1168.add ((0 : Int).toNat * 1)) := ⟨_, rfl⟩; have h1171 : AT true (m + 34) c1140 w1141 qa1173 [.int .u8 (rd t1114.Value 0)] := by rw [qqa1173]; exact h1171
        as_aux_lemma =>
        replace h1171 := h1171.ev ER mm; refine dq F (fun wq hS => r_indexAddr' F Try.underlying23 sz_5 rfl rfl g1167.1 g1167.2 e1170 qqa1173) ER.sb fun a F => ?_; refine d_e ?_; refine o_eff0 F rfl rfl rfl (e_storeel0 (k := (Kint .u8)) F rfl rfl sz_5 h1125 g1167.1 g1167.2 e1170 qqa1173 h1171 rfl (nb rfl) rfl 2 rfl ne_zm) ?_; rintro w1175 a ⟨E1176, h1125, Z1177⟩ F; replace B := B.size Z1177; replace h1122 := h1122.ev E1176; replace h1131 := h1131.ev E1176; replace h1150 := ((h1150.ev E1154).ev E1164).ev E1176; replace E := E.trans E1176 lc1; have hl1178 : t1114.Value.length = (t1114.Value.set (0 : Int).toNat 2).length := by simp
        have h1131 : AT true (m + 35) c1140 w1175 qa1129 [.int .i64 t1114.Kind, .slice A1120 (t1114.Key.set (0 : Int).toNat 6).length C1121, .slice A1123 (t1114.Value.set (0 : Int).toNat 2).length C1124, .int .i64 t1114.Rev] := by rw [← hl1178]; exact h1131
        replace F := F.sub (L' := [(5, .pointer p28), (6, .slice A721 l720.length C722), (7, .slice A725 l724.length C726), (8, .slice A729 l728.length C730), (15, .slice A741 t735.length C742), (16, .slice A755 t735.length C756), (17, .slice A767 t761.length C768), (18, .slice A778 t772.length C779), (19, .slice A788 t782.length C789), (21, .pointer p814), (23, .pointer (some qa899)), (25, .pointer (some qa937)), (28, .pointer p1053), (30, .pointer (some qa1129)), (224, .pointer (some (qa1129.add 1))), (225, .slice A1120 (t1114.Key.set (0 : Int).toNat 6).length C1121), (226, .pointer (some (qa1129.add 2))), (227, .slice A1123 (t1114.Value.set (0 : Int).toNat 2).length C1124)]) ⟨rfl, rfl, rfl, rfl, rfl, rfl, rfl, rfl, rfl, rfl, rfl, rfl, rfl, rfl, rfl, rfl, rfl, (by rw [← hl1178]; rfl), trivial⟩; refine ⟨fun q => absurd rfl q, ?_⟩
        as_aux_lemma =>
        refine d_nil ?_; refine hK1152 _ _ ?_; refine sr fun K1179 hK1179 => qm F fun a F => ?_; refine qv F (r_loads (cs := [.int .i64 t1114.Kind, .slice A1120 (t1114.Key.set (0 : Int).toNat 6).length C1121, .slice A1123 (t1114.Value.set (0 : Int).toNat 2).length C1124, .int .i64 t1114.Rev]) F rfl ag_30 sz_30 h1131) fun a F => ?_; obtain ⟨t1180, q1181, H⟩ := bind_some H; refine qc F Try.func7 (table_Table_Do.calls k (m := m + 49) (a5 := api_Op.mk t1114.Kind (t1114.Key.set (0 : Int).toNat 6) (t1114.Value.set (0 : Int).toNat 2) t1114.Rev) (pl hm0) B h1150 h1122.r h1125.r ⟨(pl hm0), lm⟩ ⟨lm, mm⟩ ⟨lm, mm⟩ 0 (pl hm0) 0 (pl hm0) _ q1181) ?_; rintro e w1183 ⟨c1182, A1186, C1187, A1189, C1190, rfl, E1184, B, h1188, h1191, h1192⟩; refine rt fun a F => ?_; replace E := E.trans E1184 lc1; refine qm F fun a F => ?_; refine qx F fun a F => ?_; refine qx F fun a F => ?_; refine q_eff F rfl rfl (by decide) (e_alloc F zv_33 c1182 (m + 36)) ?_; rintro v w1195 a ⟨c1194, qa1196, rfl, E1197, h1198, B1199⟩ F
        as_aux_lemma =>
        replace B := B1199 _ B lm; replace E := E.n E1197; replace h1198 : AT _ _ _ _ _ [.bool false, .slice none 0 0, .slice none 0 0, .int .i64 0, .int .i64 0] := h1198; refine q_eff0 F rfl rfl (e_storeN0 (us := [.bool t1180.1.Done, .slice A1186 t1180.1.Key.length C1187, .slice A1189 t1180.1.Value.length C1190, .int .i64 t1180.1.Rev, .int .i64 t1180.1.At]) F rfl rfl sz_33 h1198 (nb rfl) (one_all rfl)) ?_; rintro w1201 a ⟨E1202, h1198, Z1203⟩ F; replace B := B.size Z1203; replace h901 := ((((((((h901.ev E1130).ev E1135).ev E1142).ev E1154).ev E1164).ev E1176).ev E1184).ev E1197).ev E1202; replace h939 := ((((((((h939.ev E1130).ev E1135).ev E1142).ev E1154).ev E1164).ev E1176).ev E1184).ev E1197).ev E1202; replace h717 := ((((((((h717.ev E1130).ev E1135).ev E1142).ev E1154).ev E1164).ev E1176).ev E1184).ev E1197).ev E1202; replace h719 := ((((((((h719.ev E1130).ev E1135).ev E1142).ev E1154).ev E1164).ev E1176).ev E1184).ev E1197).ev E1202; replace h723 := (((((h723.ev E1154).ev E1164).ev E1176).ev E1184).ev E1197).ev E1202; replace h727 := ((((((((h727.ev E1130).ev E1135).ev E1142).ev E1154).ev E1164).ev E1176).ev E1184).ev E1197).ev E1202; replace h743 := ((((((((h743.ev E1130).ev E1135).ev E1142).ev E1154).ev E1164).ev E1176).ev E1184).ev E1197).ev E1202; replace h758 := ((((((((h758.ev E1130).ev E1135).ev E1142).ev E1154).ev E1164).ev E1176).ev E1184).ev E1197).ev E1202
        as_aux_lemma =>
        replace h769 := ((((((((h769.ev E1130).ev E1135).ev E1142).ev E1154).ev E1164).ev E1176).ev E1184).ev E1197).ev E1202; replace h780 := ((((((((h780.ev E1130).ev E1135).ev E1142).ev E1154).ev E1164).ev E1176).ev E1184).ev E1197).ev E1202; replace h790 := ((((((((h790.ev E1130).ev E1135).ev E1142).ev E1154).ev E1164).ev E1176).ev E1184).ev E1197).ev E1202; replace h933 := ((((((((h933.ev E1130).ev E1135).ev E1142).ev E1154).ev E1164).ev E1176).ev E1184).ev E1197).ev E1202; replace h891 := ((((((((h891.ev E1130).ev E1135).ev E1142).ev E1154).ev E1164).ev E1176).ev E1184).ev E1197).ev E1202; replace h894 := ((((((((h894.ev E1130).ev E1135).ev E1142).ev E1154).ev E1164).ev E1176).ev E1184).ev E1197).ev E1202; replace h929 := ((((((((h929.ev E1130).ev E1135).ev E1142).ev E1154).ev E1164).ev E1176).ev E1184).ev E1197).ev E1202; replace h932 := ((((((((h932.ev E1130).ev E1135).ev E1142).ev E1154).ev E1164).ev E1176).ev E1184).ev E1197).ev E1202; replace h1122 := ((h1122.ev E1184).ev E1197).ev E1202; replace h1125 := ((h1125.ev E1184).ev E1197).ev E1202; replace h1131 := ((h1131.ev E1184).ev E1197).ev E1202; replace h1192 := (h1192.ev E1197).ev E1202; replace E := E.trans E1202 lc1; replace h1198 : AT _ _ _ _ _ [.bool t1180.1.Done, .slice A1186 t1180.1.Key.length C1187, .slice A1189 t1180.1.Value.length C1190, .int .i64 t1180.1.Rev, .int .i64 t1180.1.At] := h1198
        as_aux_lemma =>
        refine qa F fun a F => nil (hK1179 _ _ ?_); replace F : Fr a 338 [(5, .pointer p28), (6, .slice A721 l720.length C722), (7, .slice A725 l724.length C726), (8, .slice A729 l728.length C730), (15, .slice A741 t735.length C742), (16, .slice A755 t735.length C756), (17, .slice A767 t761.length C768), (18, .slice A778 t772.length C779), (19, .slice A788 t782.length C789), (21, .pointer p814), (23, .pointer (some qa899)), (25, .pointer (some qa937)), (28, .pointer p1053), (30, .pointer (some qa1129)), (31, .pointer (some qa1196))] := F.sub ⟨rfl, rfl, rfl, rfl, rfl, rfl, rfl, rfl, rfl, rfl, rfl, rfl, rfl, rfl, rfl, trivial⟩; refine sq fun K1204 hK1204 => ?_; refine sq fun K1205 hK1205 => ?_; have J1215 : ∀ (c1216 : Nat → Nat) (w1217 : World) (a : Act) (b1214 : Bool), Fr a 338 [(5, .pointer p28), (6, .slice A721 l720.length C722), (7, .slice A725 l724.length C726), (8, .slice A729 l728.length C730), (15, .slice A741 t735.length C742), (16, .slice A755 t735.length C756), (17, .slice A767 t761.length C768), (18, .slice A778 t772.length C779), (19, .slice A788 t782.length C789), (21, .pointer p814), (23, .pointer (some qa899)), (25, .pointer (some qa937)), (30, .pointer (some qa1129)), (243, .bool b1214)] → Ev (fun x => False ∨ m ≤ x) c0 w0 c1216 w1217 → CB (m + 49) c1216 w1217 → AT true (m + 28) c1216 w1217 qa899 [.bool t883.1.Done, .slice A889 t883.1.Key.length C890, .slice A892 t883.1.Value.length C893, .int .i64 t883.1.Rev, .int .i64 t883.1.At] → AT true (m + 31) c1216 w1217 qa937 [.bool t921.1.Done, .slice A927 t921.1.Key.length C928, .slice A930 t921.1.Value.length C931, .int .i64 t921.1.Rev, .int .i64 t921.1.At] → AT true (m + 35) c1216 w1217 qa1129 [.int .i64 t1114.Kind, .slice A1120 (t1114.Key.set (0 : Int).toNat 6).length C1121, .slice A1123 (t1114.Value.set (0 : Int).toNat 2).length C1124, .int .i64 t1114.Rev] → TB (m + 1) c1216 w1217 p28 o718 → OL KO_api_Answer (m + 12) (m + 13) c1216 w1217 A721 C722 l720 → SL true K_api_Answer (m + 14) 0 c1216 w1217 A725 C726 l724 → SP (Kint .u8) (m + 9) (m + 10) c1216 w1217 A729 C730 l728 0 → SL true (Kint .u8) (m + 15) 0 c1216 w1217 A741 C742 t735 → SL true (Kint .u8) 0 0 c1216 w1217 A755 C756 t735 → SL true (Kint .u8) (m + 17) 0 c1216 w1217 A767 C768 t761 → OL KO_api_Row (m + 18) (m + 19) c1216 w1217 A778 C779 t772 → OL KO_api_Row (m + 20) (m + 21) c1216 w1217 A788 C789 t782 → TB (m + 24) c1216 w1217 p814 t921.2.2 → SL true (Kint .u8) (m + 26) 0 c1216 w1217 A889 C890 t883.1.Key → SL true (Kint .u8) (m + 27) 0 c1216 w1217 A892 C893 t883.1.Value → SL true (Kint .u8) (m + 29) 0 c1216 w1217 A927 C928 t921.1.Key → SL true (Kint .u8) (m + 30) 0 c1216 w1217 A930 C931 t921.1.Value → SL true (Kint .u8) (m + 33) 0 c1216 w1217 A1120 C1121 (t1114.Key.set (0 : Int).toNat 6) → SL true (Kint .u8) (m + 34) 0 c1216 w1217 A1123 C1124 (t1114.Value.set (0 : Int).toNat 2) → haulagelaw13_TableOwn.j17 k o718 l720 l724 l728 t735 t761 t772 t782 t883 t921 t1114 b1214 = some r → K1205 a w1217 := by
         intro c1216 w1217 a b1214 F E B h901 h939 h1131 h717 h719 h723 h727 h743 h758 h769 h780 h790 h933 h891 h894 h929 h932 h1122 h1125 H; unfold haulagelaw13_TableOwn.j17 at H; refine hK1205 _ _ ?_
         by_cases hb1218 : b1214 = true
         ·replace H := ip hb1218 H; refine wct (fb F hb1218) ?_; refine sr fun K1219 hK1219 => qa F fun a F => nil (hK1219 _ _ ?_); replace F : Fr a 338 [(4, .bool false)] := F.sub ⟨rfl, trivial⟩; refine wp_ret ?_; refine thenR ?_; obtain rfl := si H
          as_aux_lemma =>
          refine out1 F rfl rfl ?_; exact ⟨cf (ct m) c1216, rfl, E.lv B0, cfb⟩
         replace H := im hb1218 H; refine wcf (fb F (bfalse hb1218)) (wp_skip (hK1204 _ _ ?_)); refine sq fun K1220 hK1220 => ?_; refine sr fun K1221 hK1221 => qa F fun a F => nil (hK1221 _ _ ?_); refine wp_block ?_; replace h719 : OL KO_api_Answer (m + 12) (m + 13) c1216 w1217 A721 C722 l720 (fun q_ => q_ < (0 : Int).toNat) := OL.weak h719 (fun k_ h_ => h_.elim); obtain ⟨x1236, HL, HR1235⟩ := bind_some H; have J1323 : ∀ (c1324 : Nat → Nat) (w1325 : World) (a : Act) (l1320 : List (List Int)) (A1321 : Option Addr) (C1322 : Nat), Fr a 338 [(5, .pointer p28), (8, .slice A1321 l1320.length C1322), (15, .slice A741 t735.length C742), (16, .slice A755 t735.length C756), (17, .slice A767 t761.length C768), (18, .slice A778 t772.length C779), (19, .slice A788 t782.length C789), (21, .pointer p814), (23, .pointer (some qa899)), (25, .pointer (some qa937)), (30, .pointer (some qa1129))] → Ev (fun x => False ∨ m ≤ x) c0 w0 c1324 w1325 → CB (m + 49) c1324 w1325 → AT true (m + 28) c1324 w1325 qa899 [.bool t883.1.Done, .slice A889 t883.1.Key.length C890, .slice A892 t883.1.Value.length C893, .int .i64 t883.1.Rev, .int .i64 t883.1.At] → AT true (m + 31) c1324 w1325 qa937 [.bool t921.1.Done, .slice A927 t921.1.Key.length C928, .slice A930 t921.1.Value.length C931, .int .i64 t921.1.Rev, .int .i64 t921.1.At] → AT true (m + 35) c1324 w1325 qa1129 [.int .i64 t1114.Kind, .slice A1120 (t1114.Key.set (0 : Int).toNat 6).length C1121, .slice A1123 (t1114.Value.set (0 : Int).toNat 2).length C1124, .int .i64 t1114.Rev] → TB (m + 1) c1324 w1325 p28 o718 → SL true (Kint .u8) (m + 15) 0 c1324 w1325 A741 C742 t735 → SL true (Kint .u8) 0 0 c1324 w1325 A755 C756 t735 → SL true (Kint .u8) (m + 17) 0 c1324 w1325 A767 C768 t761 → OL KO_api_Row (m + 18) (m + 19) c1324 w1325 A778 C779 t772 → OL KO_api_Row (m + 20) (m + 21) c1324 w1325 A788 C789 t782 → TB (m + 24) c1324 w1325 p814 t921.2.2 → SL true (Kint .u8) (m + 26) 0 c1324 w1325 A889 C890 t883.1.Key → SL true (Kint .u8) (m + 27) 0 c1324 w1325 A892 C893 t883.1.Value → SL true (Kint .u8) (m + 29) 0 c1324 w1325 A927 C928 t921.1.Key → SL true (Kint .u8) (m + 30) 0 c1324 w1325 A930 C931 t921.1.Value → SL true (Kint .u8) (m + 33) 0 c1324 w1325 A1120 C1121 (t1114.Key.set (0 : Int).toNat 6) → SL true (Kint .u8) (m + 34) 0 c1324 w1325 A1123 C1124 (t1114.Value.set (0 : Int).toNat 2) → SP (Kint .u8) (m + 9) (m + 10) c1324 w1325 A1321 C1322 l1320 0 → haulagelaw13_TableOwn.j19 k o718 t735 t761 t772 t782 t883 t921 t1114 l1320 = some r → K1220 a w1325 := by
          intro c1324 w1325 a l1320 A1321 C1322 F E B h901 h939 h1131 h717 h743 h758 h769 h780 h790 h933 h891 h894 h929 h932 h1122 h1125 h1319 H; unfold haulagelaw13_TableOwn.j19 at H; refine hK1220 _ _ ?_; refine sq fun K1326 hK1326 => ?_
          as_aux_lemma =>
          refine sr fun K1327 hK1327 => qa F fun a F => nil (hK1327 _ _ ?_); refine wp_block ?_; replace h780 : OL KO_api_Row (m + 18) (m + 19) c1324 w1325 A778 C779 t772 (fun q_ => q_ < (0 : Int).toNat) := OL.weak h780 (fun k_ h_ => h_.elim); replace h790 : OL KO_api_Row (m + 20) (m + 21) c1324 w1325 A788 C789 t782 (fun q_ => q_ < (0 : Int).toNat) := OL.weak h790 (fun k_ h_ => h_.elim); obtain ⟨x1342, HL, HR1341⟩ := bind_some H; have J1426 : ∀ (c1427 : Nat → Nat) (w1428 : World) (a : Act) (l1423 : List (List Int)) (A1424 : Option Addr) (C1425 : Nat), Fr a 338 [(5, .pointer p28), (8, .slice A1424 l1423.length C1425), (15, .slice A741 t735.length C742), (16, .slice A755 t735.length C756), (17, .slice A767 t761.length C768), (18, .slice A778 (List.replicate t772.length (none : Option (List Value))).length C779), (19, .slice A788 (List.replicate t782.length (none : Option (List Value))).length C789), (21, .pointer p814), (23, .pointer (some qa899)), (25, .pointer (some qa937)), (30, .pointer (some qa1129))] → Ev (fun x => False ∨ m ≤ x) c0 w0 c1427 w1428 → CB (m + 49) c1427 w1428 → AT true (m + 28) c1427 w1428 qa899 [.bool t883.1.Done, .slice A889 t883.1.Key.length C890, .slice A892 t883.1.Value.length C893, .int .i64 t883.1.Rev, .int .i64 t883.1.At] → AT true (m + 31) c1427 w1428 qa937 [.bool t921.1.Done, .slice A927 t921.1.Key.length C928, .slice A930 t921.1.Value.length C931, .int .i64 t921.1.Rev, .int .i64 t921.1.At] → AT true (m + 35) c1427 w1428 qa1129 [.int .i64 t1114.Kind, .slice A1120 (t1114.Key.set (0 : Int).toNat 6).length C1121, .slice A1123 (t1114.Value.set (0 : Int).toNat 2).length C1124, .int .i64 t1114.Rev] → TB (m + 1) c1427 w1428 p28 o718 → SL true (Kint .u8) (m + 15) 0 c1427 w1428 A741 C742 t735 → SL true (Kint .u8) 0 0 c1427 w1428 A755 C756 t735 → SL true (Kint .u8) (m + 17) 0 c1427 w1428 A767 C768 t761 → SL true (Krw 3 (by decide)) (m + 18) 0 c1427 w1428 A778 C779 (List.replicate t772.length (none : Option (List Value))) → SL true (Krw 3 (by decide)) (m + 20) 0 c1427 w1428 A788 C789 (List.replicate t782.length (none : Option (List Value))) → TB (m + 24) c1427 w1428 p814 t921.2.2 → SL true (Kint .u8) (m + 26) 0 c1427 w1428 A889 C890 t883.1.Key → SL true (Kint .u8) (m + 27) 0 c1427 w1428 A892 C893 t883.1.Value → SL true (Kint .u8) (m + 29) 0 c1427 w1428 A927 C928 t921.1.Key → SL true (Kint .u8) (m + 30) 0 c1427 w1428 A930 C931 t921.1.Value → SL true (Kint .u8) (m + 33) 0 c1427 w1428 A1120 C1121 (t1114.Key.set (0 : Int).toNat 6) → SL true (Kint .u8) (m + 34) 0 c1427 w1428 A1123 C1124 (t1114.Value.set (0 : Int).toNat 2) → SP (Kint .u8) (m + 9) (m + 10) c1427 w1428 A1424 C1425 l1423 0 → haulagelaw13_TableOwn.j21 k o718 t735 t761 t772 t782 t883 t921 t1114 l1423 = some r → K1326 a w1428 := by
           intro c1427 w1428 a l1423 A1424 C1425 F E B h901 h939 h1131 h717 h743 h758 h769 h780 h790 h933 h891 h894 h929 h932 h1122 h1125 h1422 H; unfold haulagelaw13_TableOwn.j21 at H; refine hK1326 _ _ ?_; refine sr fun K1429 hK1429 => qm F fun a F => qm F fun a F => qm F fun a F => qf F ff_33_1 fun a F => ?_; refine ql F ag_23 h901 fun a F => ?_; refine qf F ff_33_2 fun a F => ?_; refine ql F ag_23 h901 fun a F => ?_; refine qf F ff_33_1 fun a F => ?_
           as_aux_lemma =>
           refine ql F ag_23 h939 fun a F => ?_; refine qf F ff_33_2 fun a F => ?_; refine ql F ag_23 h939 fun a F => ?_; refine qf F ff_30_1 fun a F => ?_; refine ql F ag_23 h1131 fun a F => ?_; refine qf F ff_30_2 fun a F => ?_; refine ql F ag_23 h1131 fun a F => ?_; have h1430 : GR (KOsl (Kint .u8)) (m + 47) c1427 w1428 (([] : List Value).map one1) ([] : List (List Int)) := GR.nil (pl hm0); obtain ⟨c1431, e1432, e1433, h1430⟩ := GP.push h1430 h743 ⟨mm, (pl hm0)⟩; replace h717 := TB.rc h717 (rk e1432 mm) (rk e1432 ne_zm); replace h758 := SL.rc h758 (rk e1432 ne_zm) (rk e1432 ne_zm); replace h769 := SL.rc h769 (rk e1432 mm) (rk e1432 ne_zm); replace h780 := SL.rc h780 (rk e1432 mm) (rk e1432 ne_zm); replace h790 := SL.rc h790 (rk e1432 mm) (rk e1432 ne_zm)
           as_aux_lemma =>
           replace h933 := TB.rc h933 (rk e1432 mm) (rk e1432 ne_zm); replace h891 := SL.rc h891 (rk e1432 mm) (rk e1432 ne_zm); replace h894 := SL.rc h894 (rk e1432 mm) (rk e1432 ne_zm); replace h929 := SL.rc h929 (rk e1432 mm) (rk e1432 ne_zm); replace h932 := SL.rc h932 (rk e1432 mm) (rk e1432 ne_zm); replace h1122 := SL.rc h1122 (rk e1432 mm) (rk e1432 ne_zm); replace h1125 := SL.rc h1125 (rk e1432 mm) (rk e1432 ne_zm); replace h1422 := SP.rc h1422 (rk e1432 mm) (rk e1432 mm) (rk e1432 ne_zm) (pl hm0); replace E := E.rk B0 e1432; replace B := B.rk e1433 lm; obtain ⟨c1434, e1435, e1436, h1430⟩ := GP.push h1430 h769 ⟨mm, (pl hm0)⟩; replace h717 := TB.rc h717 (rk e1435 mm) (rk e1435 ne_zm); replace h758 := SL.rc h758 (rk e1435 ne_zm) (rk e1435 ne_zm); replace h780 := SL.rc h780 (rk e1435 mm) (rk e1435 ne_zm)
           as_aux_lemma =>
           replace h790 := SL.rc h790 (rk e1435 mm) (rk e1435 ne_zm); replace h933 := TB.rc h933 (rk e1435 mm) (rk e1435 ne_zm); replace h891 := SL.rc h891 (rk e1435 mm) (rk e1435 ne_zm); replace h894 := SL.rc h894 (rk e1435 mm) (rk e1435 ne_zm); replace h929 := SL.rc h929 (rk e1435 mm) (rk e1435 ne_zm); replace h932 := SL.rc h932 (rk e1435 mm) (rk e1435 ne_zm); replace h1122 := SL.rc h1122 (rk e1435 mm) (rk e1435 ne_zm); replace h1125 := SL.rc h1125 (rk e1435 mm) (rk e1435 ne_zm); replace h1422 := SP.rc h1422 (rk e1435 mm) (rk e1435 mm) (rk e1435 ne_zm) (pl hm0); replace E := E.rk B0 e1435; replace B := B.rk e1436 lm; obtain ⟨c1437, e1438, e1439, h1430⟩ := GP.push h1430 h891 ⟨mm, (pl hm0)⟩; replace h717 := TB.rc h717 (rk e1438 mm) (rk e1438 ne_zm); replace h758 := SL.rc h758 (rk e1438 ne_zm) (rk e1438 ne_zm)
           as_aux_lemma =>
           replace h780 := SL.rc h780 (rk e1438 mm) (rk e1438 ne_zm); replace h790 := SL.rc h790 (rk e1438 mm) (rk e1438 ne_zm); replace h933 := TB.rc h933 (rk e1438 mm) (rk e1438 ne_zm); replace h894 := SL.rc h894 (rk e1438 mm) (rk e1438 ne_zm); replace h929 := SL.rc h929 (rk e1438 mm) (rk e1438 ne_zm); replace h932 := SL.rc h932 (rk e1438 mm) (rk e1438 ne_zm); replace h1122 := SL.rc h1122 (rk e1438 mm) (rk e1438 ne_zm); replace h1125 := SL.rc h1125 (rk e1438 mm) (rk e1438 ne_zm); replace h1422 := SP.rc h1422 (rk e1438 mm) (rk e1438 mm) (rk e1438 ne_zm) (pl hm0); replace E := E.rk B0 e1438; replace B := B.rk e1439 lm; obtain ⟨c1440, e1441, e1442, h1430⟩ := GP.push h1430 h894 ⟨mm, (pl hm0)⟩; replace h717 := TB.rc h717 (rk e1441 mm) (rk e1441 ne_zm); replace h758 := SL.rc h758 (rk e1441 ne_zm) (rk e1441 ne_zm)
           as_aux_lemma =>
           replace h780 := SL.rc h780 (rk e1441 mm) (rk e1441 ne_zm); replace h790 := SL.rc h790 (rk e1441 mm) (rk e1441 ne_zm); replace h933 := TB.rc h933 (rk e1441 mm) (rk e1441 ne_zm); replace h929 := SL.rc h929 (rk e1441 mm) (rk e1441 ne_zm); replace h932 := SL.rc h932 (rk e1441 mm) (rk e1441 ne_zm); replace h1122 := SL.rc h1122 (rk e1441 mm) (rk e1441 ne_zm); replace h1125 := SL.rc h1125 (rk e1441 mm) (rk e1441 ne_zm); replace h1422 := SP.rc h1422 (rk e1441 mm) (rk e1441 mm) (rk e1441 ne_zm) (pl hm0); replace E := E.rk B0 e1441; replace B := B.rk e1442 lm; obtain ⟨c1443, e1444, e1445, h1430⟩ := GP.push h1430 h929 ⟨mm, (pl hm0)⟩; replace h717 := TB.rc h717 (rk e1444 mm) (rk e1444 ne_zm); replace h758 := SL.rc h758 (rk e1444 ne_zm) (rk e1444 ne_zm); replace h780 := SL.rc h780 (rk e1444 mm) (rk e1444 ne_zm)
           as_aux_lemma =>
           replace h790 := SL.rc h790 (rk e1444 mm) (rk e1444 ne_zm); replace h933 := TB.rc h933 (rk e1444 mm) (rk e1444 ne_zm); replace h932 := SL.rc h932 (rk e1444 mm) (rk e1444 ne_zm); replace h1122 := SL.rc h1122 (rk e1444 mm) (rk e1444 ne_zm); replace h1125 := SL.rc h1125 (rk e1444 mm) (rk e1444 ne_zm); replace h1422 := SP.rc h1422 (rk e1444 mm) (rk e1444 mm) (rk e1444 ne_zm) (pl hm0); replace E := E.rk B0 e1444; replace B := B.rk e1445 lm; obtain ⟨c1446, e1447, e1448, h1430⟩ := GP.push h1430 h932 ⟨mm, (pl hm0)⟩; replace h717 := TB.rc h717 (rk e1447 mm) (rk e1447 ne_zm); replace h758 := SL.rc h758 (rk e1447 ne_zm) (rk e1447 ne_zm); replace h780 := SL.rc h780 (rk e1447 mm) (rk e1447 ne_zm); replace h790 := SL.rc h790 (rk e1447 mm) (rk e1447 ne_zm); replace h933 := TB.rc h933 (rk e1447 mm) (rk e1447 ne_zm)
           as_aux_lemma =>
           replace h1122 := SL.rc h1122 (rk e1447 mm) (rk e1447 ne_zm); replace h1125 := SL.rc h1125 (rk e1447 mm) (rk e1447 ne_zm); replace h1422 := SP.rc h1422 (rk e1447 mm) (rk e1447 mm) (rk e1447 ne_zm) (pl hm0); replace E := E.rk B0 e1447; replace B := B.rk e1448 lm; obtain ⟨c1449, e1450, e1451, h1430⟩ := GP.push h1430 h1122 ⟨mm, (pl hm0)⟩; replace h717 := TB.rc h717 (rk e1450 mm) (rk e1450 ne_zm); replace h758 := SL.rc h758 (rk e1450 ne_zm) (rk e1450 ne_zm); replace h780 := SL.rc h780 (rk e1450 mm) (rk e1450 ne_zm); replace h790 := SL.rc h790 (rk e1450 mm) (rk e1450 ne_zm); replace h933 := TB.rc h933 (rk e1450 mm) (rk e1450 ne_zm); replace h1125 := SL.rc h1125 (rk e1450 mm) (rk e1450 ne_zm); replace h1422 := SP.rc h1422 (rk e1450 mm) (rk e1450 mm) (rk e1450 ne_zm) (pl hm0); replace E := E.rk B0 e1450
           as_aux_lemma =>
           replace B := B.rk e1451 lm; obtain ⟨c1452, e1453, e1454, h1430⟩ := GP.push h1430 h1125 ⟨mm, (pl hm0)⟩; replace h717 := TB.rc h717 (rk e1453 mm) (rk e1453 ne_zm); replace h758 := SL.rc h758 (rk e1453 ne_zm) (rk e1453 ne_zm); replace h780 := SL.rc h780 (rk e1453 mm) (rk e1453 ne_zm); replace h790 := SL.rc h790 (rk e1453 mm) (rk e1453 ne_zm); replace h933 := TB.rc h933 (rk e1453 mm) (rk e1453 ne_zm); replace h1422 := SP.rc h1422 (rk e1453 mm) (rk e1453 mm) (rk e1453 ne_zm) (pl hm0); replace E := E.rk B0 e1453; replace B := B.rk e1454 lm; refine q_eff F rfl rfl (by decide) (e_buildSlice (n := 8) (e := 23) (c := c1452) (k := Kval) (i := 0) F [(0, .slice A741 t735.length C742), (1, .slice A767 t761.length C768), (2, .slice A889 t883.1.Key.length C890), (3, .slice A892 t883.1.Value.length C893), (4, .slice A927 t921.1.Key.length C928), (5, .slice A930 t921.1.Value.length C931), (6, .slice A1120 (t1114.Key.set (0 : Int).toNat 6).length C1121), (7, .slice A1123 (t1114.Value.set (0 : Int).toNat 2).length C1124)] [.slice A741 t735.length C742, .slice A767 t761.length C768, .slice A889 t883.1.Key.length C890, .slice A892 t883.1.Value.length C893, .slice A927 t921.1.Key.length C928, .slice A930 t921.1.Value.length C931, .slice A1120 (t1114.Key.set (0 : Int).toNat 6).length C1121, .slice A1123 (t1114.Value.set (0 : Int).toNat 2).length C1124] ([.slice A741 t735.length C742, .slice A767 t761.length C768, .slice A889 t883.1.Key.length C890, .slice A892 t883.1.Value.length C893, .slice A927 t921.1.Key.length C928, .slice A930 t921.1.Value.length C931, .slice A1120 (t1114.Key.set (0 : Int).toNat 6).length C1121, .slice A1123 (t1114.Value.set (0 : Int).toNat 2).length C1124] : List Value) (by exact ⟨rfl, rfl, rfl, rfl, rfl, rfl, rfl, rfl, rfl, rfl, rfl, rfl, rfl, rfl, rfl, rfl, trivial⟩) (fun w => bS_28_8_23 _ _ _ _ _ _ _ _ _ _ _ _ _ _ _ _ _ _ _ _ _ _ _ _ w) rfl (by decide) rfl ⟨⟨rfl, rfl⟩, ⟨rfl, rfl⟩, ⟨rfl, rfl⟩, ⟨rfl, rfl⟩, ⟨rfl, rfl⟩, ⟨rfl, rfl⟩, ⟨rfl, rfl⟩, ⟨rfl, rfl⟩, trivial⟩ (fun q => q) (m + 48)) ?_; rintro v w1456 a ⟨c1455, A1457, C1458, rfl, E1459, h1460, B1461⟩ F; replace B := B1461 _ B lm; replace h1422 := h1422.ev E1459
           as_aux_lemma =>
           replace h1430 := h1430.ev E1459; replace E := E.n E1459; replace h1460 : SP (Kint .u8) (m + 48) (m + 47) c1455 w1456 A1457 C1458 [t735, t761, t883.1.Key, t883.1.Value, t921.1.Key, t921.1.Value, (t1114.Key.set (0 : Int).toNat 6), (t1114.Value.set (0 : Int).toNat 2)] 0 := SP.mk h1460 h1430; replace H := ifN H; obtain ⟨g1462, H⟩ := H; refine q_eff F rfl rfl (by decide) (e_appendS (e := (Kint .u8)) (xss := l1423) (yss := [t735, t761, t883.1.Key, t883.1.Value, t921.1.Key, t921.1.Value, (t1114.Key.set (0 : Int).toNat 6), (t1114.Value.set (0 : Int).toNat 2)]) (c := c1455) (j := (m + 9)) (y0 := (m + 10)) F et_28 rfl rfl h1422 h1460 g1462 (len_ok g1462) (pl hm0) mm mm mm) ?_; rintro v w1467 a ⟨c1463, A1468, C1469, rfl, E1470, B1472, c1464, e1465, e1466, h1471⟩ F; replace B := B1472 _ B lm; replace h717 := (h717.ev E1459).ev E1470; replace h758 := (h758.ev E1459).ev E1470; replace h780 := (h780.ev E1459).ev E1470; replace h790 := (h790.ev E1459).ev E1470; replace h933 := (h933.ev E1459).ev E1470; replace E := E.trans E1470 lc1
           as_aux_lemma =>
           replace h717 := TB.rc h717 (rk e1465 mm) (rk e1465 ne_zm); replace h758 := SL.rc h758 (rk e1465 ne_zm) (rk e1465 ne_zm); replace h780 := SL.rc h780 (rk e1465 mm) (rk e1465 ne_zm); replace h790 := SL.rc h790 (rk e1465 mm) (rk e1465 ne_zm); replace h933 := TB.rc h933 (rk e1465 mm) (rk e1465 ne_zm); replace E := E.rk B0 e1465; replace B := B.rk e1466 lm; refine qa F fun a F => nil (hK1429 _ _ ?_); replace F : Fr a 338 [(5, .pointer p28), (8, .slice A1468 (l1423 ++ [t735, t761, t883.1.Key, t883.1.Value, t921.1.Key, t921.1.Value, (t1114.Key.set (0 : Int).toNat 6), (t1114.Value.set (0 : Int).toNat 2)]).length C1469), (16, .slice A755 t735.length C756), (18, .slice A778 (List.replicate t772.length (none : Option (List Value))).length C779), (19, .slice A788 (List.replicate t782.length (none : Option (List Value))).length C789), (21, .pointer p814)] := F.sub ⟨rfl, rfl, rfl, rfl, rfl, rfl, trivial⟩; refine sq fun K1473 hK1473 => ?_; refine sq fun K1474 hK1474 => ?_; have J1491 : ∀ (c1492 : Nat → Nat) (w1493 : World) (a : Act) (b1490 : Bool), Fr a 338 [(5, .pointer p28), (16, .slice A755 t735.length C756), (21, .pointer p814), (327, .bool b1490)] → Ev (fun x => False ∨ m ≤ x) c0 w0 c1492 w1493 → CB (m + 49) c1492 w1493 → TB (m + 1) c1492 w1493 p28 o718 → SL true (Kint .u8) 0 0 c1492 w1493 A755 C756 t735 → TB (m + 24) c1492 w1493 p814 t921.2.2 → haulagelaw13_TableOwn.j22 k o718 t735 t921 b1490 = some r → K1474 a w1493 := by
            intro c1492 w1493 a b1490 F E B h717 h758 h933 H; unfold haulagelaw13_TableOwn.j22 at H
            as_aux_lemma =>
            refine hK1474 _ _ ?_
            by_cases hb1494 : b1490 = true
            ·replace H := ip hb1494 H; refine wct (fb F hb1494) ?_; refine sr fun K1495 hK1495 => qa F fun a F => nil (hK1495 _ _ ?_); refine wp_ret ?_; refine thenR ?_; obtain rfl := si H; refine out1 F rfl rfl ?_; exact ⟨cf (ct m) c1492, rfl, E.lv B0, cfb⟩
            replace H := im hb1494 H; refine wcf (fb F (bfalse hb1494)) (wp_skip (hK1473 _ _ ?_)); refine sr fun K1496 hK1496 => qm F fun a F => ?_; obtain ⟨t1497, q1498, H⟩ := bind_some H; refine qc F Try.func9 (table_Table_Bytes.calls k (m := m + 49) (pl hm0) B h717 lm 0 (pl hm0) _ q1498) ?_; rintro e w1500 ⟨c1499, A1503, C1504, rfl, E1501, B, h1505⟩
            as_aux_lemma =>
            refine rt fun a F => ?_; replace h758 := h758.ev E1501; replace E := E.n E1501; refine qm F fun a F => ?_; obtain ⟨t1507, q1508, H⟩ := bind_some H; refine qc F Try.func12 (haulagelaw13_same.calls k (m := m + 49) (pl hm0) B h1505.r h758.r (pl hm0) (pl hm0) _ q1508) ?_; rintro e w1510 ⟨c1509, rfl, E1511, B⟩; refine rt fun a F => ?_; replace h758 := h758.ev E1511; replace h933 := (h933.ev E1501).ev E1511; replace E := E.n E1511; refine qm F fun a F => ?_
            by_cases hb1514 : t1507 = true
            ·replace H := ip hb1514 H; refine qy F hb1514 ?_
             as_aux_lemma =>
             refine qm F fun a F => ?_; obtain ⟨t1515, q1516, H⟩ := bind_some H; refine qy F hb1514 ?_; refine qc F Try.func9 (table_Table_Bytes.calls k (m := m + 49) (pl hm0) B h933 lm 0 (pl hm0) _ q1516) ?_; rintro e w1518 ⟨c1517, A1521, C1522, rfl, E1519, B, h1523⟩; refine rt fun a F => ?_; replace h758 := h758.ev E1519; replace E := E.n E1519; refine qy F hb1514 ?_; refine qm F fun a F => ?_; obtain ⟨t1525, q1526, H⟩ := bind_some H; refine qy F hb1514 ?_; refine qc F Try.func12 (haulagelaw13_same.calls k (m := m + 49) (pl hm0) B h1523.r h758.r (pl hm0) (pl hm0) _ q1526) ?_; rintro e w1528 ⟨c1527, rfl, E1529, B⟩
             as_aux_lemma =>
             refine rt fun a F => ?_; replace E := E.n E1529; refine qv F (r_pick_t F rfl hb1514 rfl) fun a F => ?_; refine qa F fun a F => nil (hK1496 _ _ ?_); replace F : Fr a 338 [(4, .bool t1525)] := F.sub ⟨rfl, trivial⟩; refine wp_ret ?_; obtain rfl := si H; refine out1 F rfl rfl ?_; exact ⟨cf (ct m) c1527, rfl, E.lv B0, cfb⟩
            replace H := im hb1514 H; refine qn F (bfalse hb1514) fun a F => qn F (bfalse hb1514) fun a F => qn F (bfalse hb1514) fun a F => qn F (bfalse hb1514) fun a F => ?_; refine qv F (r_pick_f F rfl (bfalse hb1514) rfl) fun a F => ?_; refine qa F fun a F => nil (hK1496 _ _ ?_); replace F : Fr a 338 [(4, .bool false)] := F.sub ⟨rfl, trivial⟩
            as_aux_lemma =>
            refine wp_ret ?_; obtain rfl := si H; refine out1 F rfl rfl ?_; exact ⟨cf (ct m) c1509, rfl, E.lv B0, cfb⟩
           refine reg ?_; refine qm F fun a F => ?_; obtain ⟨t1475, q1476, H⟩ := bind_some H; refine qc F Try.func20 (haulagelaw13_apart.calls k (m := m + 49) (pl hm0) B h1471 ⟨(pl hm0), lm⟩ ⟨(pl hm0), lm, mm⟩ _ q1476) ?_; rintro e w1478 ⟨c1477, rfl, E1479, B⟩; refine rt fun a F => ?_; replace h717 := h717.ev E1479 (nor mm mm) (nor ne_zm ne_zm); replace h758 := h758.ev E1479 (nor ne_zm ne_zm) (nor ne_zm ne_zm); replace h780 := h780.ev E1479 (nor mm mm) (nor ne_zm ne_zm); replace h790 := h790.ev E1479 (nor mm mm) (nor ne_zm ne_zm)
           as_aux_lemma =>
           replace h933 := h933.ev E1479 (nor mm mm) (nor ne_zm ne_zm); replace E := E.trans E1479 lc2; refine qv F (r_not F rfl) fun a F => ?_; refine qm F fun a F => ?_
           by_cases hb1482 : t1475 = true
           ·replace H := ip hb1482 H; refine qy F (congrArg not hb1482) ?_; refine qm F fun a F => ?_; refine qy F (congrArg not hb1482) ?_; refine qm F fun a F => ?_; obtain ⟨t1483, q1484, H⟩ := bind_some H; refine qy F (congrArg not hb1482) ?_; refine qc F Try.func21 (haulagelaw13_parted.calls k (m := m + 49) (pl hm0) B h780 h790 ⟨(pl hm0), lm⟩ ⟨(pl hm0), lm, mm⟩ _ q1484) ?_; rintro e w1486 ⟨c1485, rfl, E1487, B⟩; refine rt fun a F => ?_
            as_aux_lemma =>
            replace h717 := h717.ev E1487 (nor mm mm) (nor ne_zm ne_zm); replace h758 := h758.ev E1487 (nor ne_zm ne_zm) (nor ne_zm ne_zm); replace h933 := h933.ev E1487 (nor mm mm) (nor ne_zm ne_zm); replace E := E.trans E1487 lc2; refine qy F (congrArg not hb1482) ?_; refine qv F (r_not F rfl) fun a F => ?_; refine qv F (r_pick_f F rfl (congrArg not hb1482) rfl) fun a F => ?_; refine nil ?_; exact J1491 c1485 w1486 a (!t1483) (F.sub ⟨rfl, rfl, rfl, rfl, trivial⟩) E B h717 h758 h933 H
           replace H := im hb1482 H; refine qn F (congrArg not (bfalse hb1482)) fun a F => qn F (congrArg not (bfalse hb1482)) fun a F => qn F (congrArg not (bfalse hb1482)) fun a F => qn F (congrArg not (bfalse hb1482)) fun a F => ?_; refine qv F (r_pick_t F rfl (congrArg not (bfalse hb1482)) rfl) fun a F => ?_; refine nil ?_; exact J1491 c1477 w1478 a true (F.sub ⟨rfl, rfl, rfl, rfl, trivial⟩) E B h717 h758 h933 H
          refine loop_fuel (I := fun n a w => ∃ (l1328 : List (List Int)) (A1329 : Option Addr) (C1330 : Nat) (i1332 : Int) (c : Nat → Nat), Fr a 338 [(5, .pointer p28), (8, .slice A1329 l1328.length C1330), (15, .slice A741 t735.length C742), (16, .slice A755 t735.length C756), (17, .slice A767 t761.length C768), (18, .slice A778 t772.length C779), (19, .slice A788 t782.length C789), (21, .pointer p814), (23, .pointer (some qa899)), (25, .pointer (some qa937)), (30, .pointer (some qa1129)), (34, .int .i64 i1332)] ∧ Ev (fun x => False ∨ m ≤ x) c0 w0 c w ∧ CB (m + 49) c w ∧ AT true (m + 28) c w qa899 [.bool t883.1.Done, .slice A889 t883.1.Key.length C890, .slice A892 t883.1.Value.length C893, .int .i64 t883.1.Rev, .int .i64 t883.1.At] ∧ AT true (m + 31) c w qa937 [.bool t921.1.Done, .slice A927 t921.1.Key.length C928, .slice A930 t921.1.Value.length C931, .int .i64 t921.1.Rev, .int .i64 t921.1.At] ∧ AT true (m + 35) c w qa1129 [.int .i64 t1114.Kind, .slice A1120 (t1114.Key.set (0 : Int).toNat 6).length C1121, .slice A1123 (t1114.Value.set (0 : Int).toNat 2).length C1124, .int .i64 t1114.Rev] ∧ TB (m + 1) c w p28 o718 ∧ SL true (Kint .u8) (m + 15) 0 c w A741 C742 t735 ∧ SL true (Kint .u8) 0 0 c w A755 C756 t735 ∧ SL true (Kint .u8) (m + 17) 0 c w A767 C768 t761 ∧ OL KO_api_Row (m + 18) (m + 19) c w A778 C779 t772 (fun q_ => q_ < i1332.toNat) ∧ OL KO_api_Row (m + 20) (m + 21) c w A788 C789 t782 (fun q_ => q_ < i1332.toNat) ∧ TB (m + 24) c w p814 t921.2.2 ∧ SL true (Kint .u8) (m + 26) 0 c w A889 C890 t883.1.Key ∧ SL true (Kint .u8) (m + 27) 0 c w A892 C893 t883.1.Value ∧ SL true (Kint .u8) (m + 29) 0 c w A927 C928 t921.1.Key ∧ SL true (Kint .u8) (m + 30) 0 c w A930 C931 t921.1.Value ∧ SL true (Kint .u8) (m + 33) 0 c w A1120 C1121 (t1114.Key.set (0 : Int).toNat 6) ∧ SL true (Kint .u8) (m + 34) 0 c w A1123 C1124 (t1114.Value.set (0 : Int).toNat 2) ∧ SP (Kint .u8) (m + 9) (m + 10) c w A1329 C1330 l1328 0 ∧ loop (fun (s_ : (List (List Int)) × Int) => haulagelaw13_TableOwn.b20 t772 t782 s_.1 s_.2) n (l1328, i1332) = some x1342) (k := k) ⟨l1320, A1321, C1322, 0, c1324, F.sub ⟨rfl, rfl, rfl, rfl, rfl, rfl, rfl, rfl, rfl, rfl, rfl, rfl, trivial⟩, E, B, h901, h939, h1131, h717, h743, h758, h769, h780, h790, h933, h891, h894, h929, h932, h1122, h1125, h1319, HL⟩ ?_; clear HL H E F B; intro n1339 X1335 hX1335 a w1334 ⟨l1328, A1329, C1330, i1332, c1333, F, E, B, h901, h939, h1131, h717, h743, h758, h769, h780, h790, h933, h891, h894, h929, h932, h1122, h1125, h1331, HL⟩; obtain ⟨n1340, ctl1338, rfl, HB, HN1336, HD1337⟩ := loop_some HL; have H : haulagelaw13_TableOwn.b20 t772 t782 l1328 i1332 = some ctl1338 := HB; clear HB HL; unfold haulagelaw13_TableOwn.b20 at H
          as_aux_lemma =>
          refine sq fun K1343 hK1343 => ?_; refine sr fun K1344 hK1344 => qm F fun a F => qm F fun a F => ?_; refine qv F (r_lensl F Try.underlying39 rfl) fun a F => ?_; refine qv F (r_lss F rfl rfl) fun a F => ?_; refine nil (hK1344 _ _ ?_)
          by_cases hb1345 : i1332 < (t772.length : Int)
          ·replace H := ip hb1345 H; refine wct (fb F (dt hb1345)) (wp_skip (hK1343 _ _ ?_)); replace H := ifN H; obtain ⟨g1348, H⟩ := H; obtain ⟨c1349, e1350, e1351, ad1352, cs1353, e1354, h1355, r1356, h780⟩ := OL.lendH h780 [m + 41, m + 42] i1332 g1348.1 g1348.2 (by simp) rfl ⟨⟨mm, (pl hm0)⟩, ⟨mm, (pl hm0)⟩, trivial⟩ mm; replace h901 := AT.rc h901 (rk e1350 mm); replace h939 := AT.rc h939 (rk e1350 mm); replace h1131 := AT.rc h1131 (rk e1350 mm); replace h717 := TB.rc h717 (rk e1350 mm) (rk e1350 ne_zm)
           as_aux_lemma =>
           replace h743 := SL.rc h743 (rk e1350 mm) (rk e1350 ne_zm); replace h758 := SL.rc h758 (rk e1350 ne_zm) (rk e1350 ne_zm); replace h769 := SL.rc h769 (rk e1350 mm) (rk e1350 ne_zm); replace h790 := OL.rc h790 (rk e1350 mm) (rk e1350 mm) (rk e1350 ne_zm) (pl hm0); replace h933 := TB.rc h933 (rk e1350 mm) (rk e1350 ne_zm); replace h891 := SL.rc h891 (rk e1350 mm) (rk e1350 ne_zm); replace h894 := SL.rc h894 (rk e1350 mm) (rk e1350 ne_zm); replace h929 := SL.rc h929 (rk e1350 mm) (rk e1350 ne_zm); replace h932 := SL.rc h932 (rk e1350 mm) (rk e1350 ne_zm); replace h1122 := SL.rc h1122 (rk e1350 mm) (rk e1350 ne_zm); replace h1125 := SL.rc h1125 (rk e1350 mm) (rk e1350 ne_zm); replace h1331 := SP.rc h1331 (rk e1350 mm) (rk e1350 mm) (rk e1350 ne_zm) (pl hm0); obtain ⟨A1358, C1359, A1361, C1362, rfl, h1360, h1363⟩ := r1356; replace h1360 : SL true (Kint .u8) (m + 41) 0 c1349 w1334 A1358 C1359 ((rd t772 i1332).Key) := h1360
           as_aux_lemma =>
           replace h1363 : SL true (Kint .u8) (m + 42) 0 c1349 w1334 A1361 C1362 ((rd t772 i1332).Value) := h1363; obtain ⟨qa1357, qqa1357⟩ : ∃ q, q = (ad1352.add (i1332.toNat * 3)) := ⟨_, rfl⟩; have h1355 : AT true (m + 18) c1349 w1334 qa1357 [.slice A1358 ((rd t772 i1332).Key).length C1359, .slice A1361 ((rd t772 i1332).Value).length C1362, .int .i64 ((rd t772 i1332).Rev)] := by rw [qqa1357]; exact h1355
           replace E := E.rk B0 e1350; replace B : CB (m + 49) c1349 w1334 := e1351 _ ⟨lm, lm, trivial⟩ B; replace H := ifN H; obtain ⟨g1365, H⟩ := H; obtain ⟨c1366, e1367, e1368, ad1369, cs1370, e1371, h1372, r1373, h790⟩ := OL.lendH h790 [m + 43, m + 44] i1332 g1365.1 g1365.2 (by simp) rfl ⟨⟨mm, (pl hm0)⟩, ⟨mm, (pl hm0)⟩, trivial⟩ mm; replace h901 := AT.rc h901 (rk e1367 mm); replace h939 := AT.rc h939 (rk e1367 mm); replace h1131 := AT.rc h1131 (rk e1367 mm); replace h717 := TB.rc h717 (rk e1367 mm) (rk e1367 ne_zm); replace h743 := SL.rc h743 (rk e1367 mm) (rk e1367 ne_zm); replace h758 := SL.rc h758 (rk e1367 ne_zm) (rk e1367 ne_zm)
           as_aux_lemma =>
           replace h769 := SL.rc h769 (rk e1367 mm) (rk e1367 ne_zm); replace h780 := OL.rc h780 (rk e1367 mm) (rk e1367 mm) (rk e1367 ne_zm) (pl hm0); replace h933 := TB.rc h933 (rk e1367 mm) (rk e1367 ne_zm); replace h891 := SL.rc h891 (rk e1367 mm) (rk e1367 ne_zm); replace h894 := SL.rc h894 (rk e1367 mm) (rk e1367 ne_zm); replace h929 := SL.rc h929 (rk e1367 mm) (rk e1367 ne_zm); replace h932 := SL.rc h932 (rk e1367 mm) (rk e1367 ne_zm); replace h1122 := SL.rc h1122 (rk e1367 mm) (rk e1367 ne_zm); replace h1125 := SL.rc h1125 (rk e1367 mm) (rk e1367 ne_zm); replace h1331 := SP.rc h1331 (rk e1367 mm) (rk e1367 mm) (rk e1367 ne_zm) (pl hm0); replace h1360 := SL.rc h1360 (rk e1367 mm) (rk e1367 ne_zm); replace h1363 := SL.rc h1363 (rk e1367 mm) (rk e1367 ne_zm); replace h1355 := AT.rc h1355 (rk e1367 mm); obtain ⟨A1375, C1376, A1378, C1379, rfl, h1377, h1380⟩ := r1373
           as_aux_lemma =>
           replace h1377 : SL true (Kint .u8) (m + 43) 0 c1366 w1334 A1375 C1376 ((rd t782 i1332).Key) := h1377; replace h1380 : SL true (Kint .u8) (m + 44) 0 c1366 w1334 A1378 C1379 ((rd t782 i1332).Value) := h1380; obtain ⟨qa1374, qqa1374⟩ : ∃ q, q = (ad1369.add (i1332.toNat * 3)) := ⟨_, rfl⟩; have h1372 : AT true (m + 20) c1366 w1334 qa1374 [.slice A1375 ((rd t782 i1332).Key).length C1376, .slice A1378 ((rd t782 i1332).Value).length C1379, .int .i64 ((rd t782 i1332).Rev)] := by rw [qqa1374]; exact h1372
           replace E := E.rk B0 e1367; replace B : CB (m + 49) c1366 w1334 := e1368 _ ⟨lm, lm, trivial⟩ B; refine sq fun K1382 hK1382 => ?_; refine wp_block ?_; have h1383 : SL false (Kslice (Kint .u8)) (m + 9) (m + 10) c1366 w1334 A1329 C1330 l1328 := SP.view h1331 (fun q_ => q_); refine regD (SB (fun x => x = m + 45 ∨ x = m + 46 ∨ x = m + 41 ∨ x = m + 42 ∨ x = m + 43 ∨ x = m + 44 ∨ x = m + 9) c1366 w1334) 24 (.q 0 (.q 1 (.q 2 (.q 3 (.q 4 (.q 5 (.q 6 (.q 7 (.q 8 (.q 9 (.q 10 (.q 11 (.q 12 (.q 13 (.q 14 (.q 15 (.q 16 (.q 17 (.q 18 (.q 19 (.q 20 (.e 21 (.e 22 (.q 23 .nil)))))))))))))))))))))))) Try_hm (by decide +kernel) ?_; intro w1384 w1_ w2_ w3_ w4_; have E1385 : Ev No c1366 w1334 c1366 w1384 := Ev.same w1_ w2_ w3_ w4_; replace B := B.same w1_; have zh1355 := h1355; have zh1372 := h1372; have ER : Ev (fun x => x = m + 45 ∨ x = m + 46 ∨ x = m + 41 ∨ x = m + 42 ∨ x = m + 43 ∨ x = m + 44 ∨ x = m + 9) c1366 w1334 c1366 w1384 := Ev.same w1_ w2_ w3_ w4_
           as_aux_lemma =>
           replace h901 := h901.ev E1385; replace h939 := h939.ev E1385; replace h1131 := h1131.ev E1385; replace h717 := h717.ev E1385; replace h743 := h743.ev E1385; replace h758 := h758.ev E1385; replace h769 := h769.ev E1385; replace h780 := h780.ev E1385; replace h790 := h790.ev E1385; replace h933 := h933.ev E1385; replace h891 := h891.ev E1385; replace h894 := h894.ev E1385; replace h929 := h929.ev E1385; replace h932 := h932.ev E1385
           as_aux_lemma =>
           replace h1122 := h1122.ev E1385; replace h1125 := h1125.ev E1385; replace h1331 := h1331.ev E1385; replace h1360 := h1360.ev E1385; replace h1363 := h1363.ev E1385; replace h1377 := h1377.ev E1385; replace h1380 := h1380.ev E1385; replace E := E.n E1385; refine dm F ER.sb fun a F => ?_; refine dm F ER.sb fun a F => ?_; refine dm F ER.sb fun a F => ?_; refine dq F (fun wq hS => r_indexAddr' F Try.underlying39 sz_51 rfl rfl g1348.1 g1348.2 e1354 qqa1357) ER.sb fun a F => ?_; refine df F ff_51_0 ER.sb fun a F => ?_; refine dq F (fun wq hS => r_load F rfl ag_23 (AT.cell (AT.sb zh1355 hS (nor mm (nor mm (nor mm (nor mm (nor mm (nor mm mm))))))) rfl)) ER.sb fun a F => ?_
           as_aux_lemma =>
           refine dm F ER.sb fun a F => ?_; refine dm F ER.sb fun a F => ?_; refine dq F (fun wq hS => r_indexAddr' F Try.underlying39 sz_51 rfl rfl g1348.1 g1348.2 e1354 qqa1357) ER.sb fun a F => ?_; refine df F ff_51_1 ER.sb fun a F => ?_; refine dq F (fun wq hS => r_load F rfl ag_23 (AT.cell (AT.sb zh1355 hS (nor mm (nor mm (nor mm (nor mm (nor mm (nor mm mm))))))) rfl)) ER.sb fun a F => ?_; refine dm F ER.sb fun a F => ?_; refine dm F ER.sb fun a F => ?_; refine dq F (fun wq hS => r_indexAddr' F Try.underlying39 sz_51 rfl rfl g1365.1 g1365.2 e1371 qqa1374) ER.sb fun a F => ?_; refine df F ff_51_0 ER.sb fun a F => ?_; refine dq F (fun wq hS => r_load F rfl ag_23 (AT.cell (AT.sb zh1372 hS (nor mm (nor mm (nor mm (nor mm (nor mm (nor mm mm))))))) rfl)) ER.sb fun a F => ?_; refine dm F ER.sb fun a F => ?_; refine dm F ER.sb fun a F => ?_; refine dq F (fun wq hS => r_indexAddr' F Try.underlying39 sz_51 rfl rfl g1365.1 g1365.2 e1371 qqa1374) ER.sb fun a F => ?_; refine df F ff_51_1 ER.sb fun a F => ?_
           as_aux_lemma =>
           refine dq F (fun wq hS => r_load F rfl ag_23 (AT.cell (AT.sb zh1372 hS (nor mm (nor mm (nor mm (nor mm (nor mm (nor mm mm))))))) rfl)) ER.sb fun a F => ?_; refine d_e ?_; have h1386 : GR (KOsl (Kint .u8)) (m + 45) c1366 w1384 (([] : List Value).map one1) ([] : List (List Int)) := GR.nil (pl hm0); obtain ⟨c1387, e1388, e1389, h1386⟩ := GP.push h1386 h1360 ⟨mm, (pl hm0)⟩; replace h901 := AT.rc h901 (rk e1388 mm); replace h939 := AT.rc h939 (rk e1388 mm); replace h1131 := AT.rc h1131 (rk e1388 mm); replace h717 := TB.rc h717 (rk e1388 mm) (rk e1388 ne_zm); replace h743 := SL.rc h743 (rk e1388 mm) (rk e1388 ne_zm); replace h758 := SL.rc h758 (rk e1388 ne_zm) (rk e1388 ne_zm); replace h769 := SL.rc h769 (rk e1388 mm) (rk e1388 ne_zm); replace h780 := OL.rc h780 (rk e1388 mm) (rk e1388 mm) (rk e1388 ne_zm) (pl hm0); replace h790 := OL.rc h790 (rk e1388 mm) (rk e1388 mm) (rk e1388 ne_zm) (pl hm0); replace h933 := TB.rc h933 (rk e1388 mm) (rk e1388 ne_zm)
           as_aux_lemma =>
           replace h891 := SL.rc h891 (rk e1388 mm) (rk e1388 ne_zm); replace h894 := SL.rc h894 (rk e1388 mm) (rk e1388 ne_zm); replace h929 := SL.rc h929 (rk e1388 mm) (rk e1388 ne_zm); replace h932 := SL.rc h932 (rk e1388 mm) (rk e1388 ne_zm); replace h1122 := SL.rc h1122 (rk e1388 mm) (rk e1388 ne_zm); replace h1125 := SL.rc h1125 (rk e1388 mm) (rk e1388 ne_zm); replace h1331 := SP.rc h1331 (rk e1388 mm) (rk e1388 mm) (rk e1388 ne_zm) (pl hm0); replace h1363 := SL.rc h1363 (rk e1388 mm) (rk e1388 ne_zm); replace h1377 := SL.rc h1377 (rk e1388 mm) (rk e1388 ne_zm); replace h1380 := SL.rc h1380 (rk e1388 mm) (rk e1388 ne_zm); replace E := E.rk B0 e1388; replace ER := ER.rkM e1388 (by simp); replace B := B.rk e1389 lm; obtain ⟨c1390, e1391, e1392, h1386⟩ := GP.push h1386 h1363 ⟨mm, (pl hm0)⟩
           as_aux_lemma =>
           replace h901 := AT.rc h901 (rk e1391 mm); replace h939 := AT.rc h939 (rk e1391 mm); replace h1131 := AT.rc h1131 (rk e1391 mm); replace h717 := TB.rc h717 (rk e1391 mm) (rk e1391 ne_zm); replace h743 := SL.rc h743 (rk e1391 mm) (rk e1391 ne_zm); replace h758 := SL.rc h758 (rk e1391 ne_zm) (rk e1391 ne_zm); replace h769 := SL.rc h769 (rk e1391 mm) (rk e1391 ne_zm); replace h780 := OL.rc h780 (rk e1391 mm) (rk e1391 mm) (rk e1391 ne_zm) (pl hm0); replace h790 := OL.rc h790 (rk e1391 mm) (rk e1391 mm) (rk e1391 ne_zm) (pl hm0); replace h933 := TB.rc h933 (rk e1391 mm) (rk e1391 ne_zm); replace h891 := SL.rc h891 (rk e1391 mm) (rk e1391 ne_zm); replace h894 := SL.rc h894 (rk e1391 mm) (rk e1391 ne_zm); replace h929 := SL.rc h929 (rk e1391 mm) (rk e1391 ne_zm); replace h932 := SL.rc h932 (rk e1391 mm) (rk e1391 ne_zm)
           as_aux_lemma =>
           replace h1122 := SL.rc h1122 (rk e1391 mm) (rk e1391 ne_zm); replace h1125 := SL.rc h1125 (rk e1391 mm) (rk e1391 ne_zm); replace h1331 := SP.rc h1331 (rk e1391 mm) (rk e1391 mm) (rk e1391 ne_zm) (pl hm0); replace h1377 := SL.rc h1377 (rk e1391 mm) (rk e1391 ne_zm); replace h1380 := SL.rc h1380 (rk e1391 mm) (rk e1391 ne_zm); replace E := E.rk B0 e1391; replace ER := ER.rkM e1391 (by simp); replace B := B.rk e1392 lm; obtain ⟨c1393, e1394, e1395, h1386⟩ := GP.push h1386 h1377 ⟨mm, (pl hm0)⟩; replace h901 := AT.rc h901 (rk e1394 mm); replace h939 := AT.rc h939 (rk e1394 mm); replace h1131 := AT.rc h1131 (rk e1394 mm); replace h717 := TB.rc h717 (rk e1394 mm) (rk e1394 ne_zm); replace h743 := SL.rc h743 (rk e1394 mm) (rk e1394 ne_zm)
           as_aux_lemma =>
           replace h758 := SL.rc h758 (rk e1394 ne_zm) (rk e1394 ne_zm); replace h769 := SL.rc h769 (rk e1394 mm) (rk e1394 ne_zm); replace h780 := OL.rc h780 (rk e1394 mm) (rk e1394 mm) (rk e1394 ne_zm) (pl hm0); replace h790 := OL.rc h790 (rk e1394 mm) (rk e1394 mm) (rk e1394 ne_zm) (pl hm0); replace h933 := TB.rc h933 (rk e1394 mm) (rk e1394 ne_zm); replace h891 := SL.rc h891 (rk e1394 mm) (rk e1394 ne_zm); replace h894 := SL.rc h894 (rk e1394 mm) (rk e1394 ne_zm); replace h929 := SL.rc h929 (rk e1394 mm) (rk e1394 ne_zm); replace h932 := SL.rc h932 (rk e1394 mm) (rk e1394 ne_zm); replace h1122 := SL.rc h1122 (rk e1394 mm) (rk e1394 ne_zm); replace h1125 := SL.rc h1125 (rk e1394 mm) (rk e1394 ne_zm); replace h1331 := SP.rc h1331 (rk e1394 mm) (rk e1394 mm) (rk e1394 ne_zm) (pl hm0); replace h1380 := SL.rc h1380 (rk e1394 mm) (rk e1394 ne_zm); replace E := E.rk B0 e1394
           as_aux_lemma =>
           replace ER := ER.rkM e1394 (by simp); replace B := B.rk e1395 lm; obtain ⟨c1396, e1397, e1398, h1386⟩ := GP.push h1386 h1380 ⟨mm, (pl hm0)⟩; replace h901 := AT.rc h901 (rk e1397 mm); replace h939 := AT.rc h939 (rk e1397 mm); replace h1131 := AT.rc h1131 (rk e1397 mm); replace h717 := TB.rc h717 (rk e1397 mm) (rk e1397 ne_zm); replace h743 := SL.rc h743 (rk e1397 mm) (rk e1397 ne_zm); replace h758 := SL.rc h758 (rk e1397 ne_zm) (rk e1397 ne_zm); replace h769 := SL.rc h769 (rk e1397 mm) (rk e1397 ne_zm); replace h780 := OL.rc h780 (rk e1397 mm) (rk e1397 mm) (rk e1397 ne_zm) (pl hm0); replace h790 := OL.rc h790 (rk e1397 mm) (rk e1397 mm) (rk e1397 ne_zm) (pl hm0); replace h933 := TB.rc h933 (rk e1397 mm) (rk e1397 ne_zm); replace h891 := SL.rc h891 (rk e1397 mm) (rk e1397 ne_zm)
           as_aux_lemma =>
           replace h894 := SL.rc h894 (rk e1397 mm) (rk e1397 ne_zm); replace h929 := SL.rc h929 (rk e1397 mm) (rk e1397 ne_zm); replace h932 := SL.rc h932 (rk e1397 mm) (rk e1397 ne_zm); replace h1122 := SL.rc h1122 (rk e1397 mm) (rk e1397 ne_zm); replace h1125 := SL.rc h1125 (rk e1397 mm) (rk e1397 ne_zm); replace h1331 := SP.rc h1331 (rk e1397 mm) (rk e1397 mm) (rk e1397 ne_zm) (pl hm0); replace E := E.rk B0 e1397; replace ER := ER.rkM e1397 (by simp); replace B := B.rk e1398 lm; refine o_eff F rfl rfl rfl (by decide) (e_buildSlice (n := 4) (e := 23) (c := c1396) (k := Kval) (i := 0) F [(0, .slice A1358 ((rd t772 i1332).Key).length C1359), (1, .slice A1361 ((rd t772 i1332).Value).length C1362), (2, .slice A1375 ((rd t782 i1332).Key).length C1376), (3, .slice A1378 ((rd t782 i1332).Value).length C1379)] [.slice A1358 ((rd t772 i1332).Key).length C1359, .slice A1361 ((rd t772 i1332).Value).length C1362, .slice A1375 ((rd t782 i1332).Key).length C1376, .slice A1378 ((rd t782 i1332).Value).length C1379] ([.slice A1358 ((rd t772 i1332).Key).length C1359, .slice A1361 ((rd t772 i1332).Value).length C1362, .slice A1375 ((rd t782 i1332).Key).length C1376, .slice A1378 ((rd t782 i1332).Value).length C1379] : List Value) (by exact ⟨rfl, rfl, rfl, rfl, rfl, rfl, rfl, rfl, trivial⟩) (fun w => by kernel_rfl) rfl (by decide) rfl ⟨⟨rfl, rfl⟩, ⟨rfl, rfl⟩, ⟨rfl, rfl⟩, ⟨rfl, rfl⟩, trivial⟩ (fun q => q) (m + 46)) ?_; rintro v w1400 a ⟨c1399, A1401, C1402, rfl, E1403, h1404, B1405⟩ F; replace B := B1405 _ B lm; replace ER := ER.trans E1403 nx; replace h1331 := h1331.ev E1403
           as_aux_lemma =>
           replace h1386 := h1386.ev E1403; replace E := E.n E1403; replace h1404 : SP (Kint .u8) (m + 46) (m + 45) c1399 w1400 A1401 C1402 [(rd t772 i1332).Key, (rd t772 i1332).Value, (rd t782 i1332).Key, (rd t782 i1332).Value] 0 := SP.mk h1404 h1386; refine ⟨fun _ => ER.sb, ?_⟩; refine d_e ?_; replace H := ifN H; obtain ⟨g1406, H⟩ := H; refine o_eff F rfl rfl rfl (by decide) (e_appendS (e := (Kint .u8)) (xss := l1328) (yss := [(rd t772 i1332).Key, (rd t772 i1332).Value, (rd t782 i1332).Key, (rd t782 i1332).Value]) (c := c1399) (j := (m + 9)) (y0 := (m + 10)) F et_28 rfl rfl h1331 h1404 g1406 (len_ok g1406) (pl hm0) mm mm mm) ?_; rintro v w1411 a ⟨c1407, A1412, C1413, rfl, E1414, B1416, c1408, e1409, e1410, h1415⟩ F; replace B := B1416 _ B lm; replace ER := ER.trans E1414 (fun x q => by replace q : x = m + 9 := q; show x = m + 45 ∨ x = m + 46 ∨ x = m + 41 ∨ x = m + 42 ∨ x = m + 43 ∨ x = m + 44 ∨ x = m + 9; omega); replace h901 := (h901.ev E1403).ev E1414; replace h939 := (h939.ev E1403).ev E1414; replace h1131 := (h1131.ev E1403).ev E1414
           as_aux_lemma =>
           replace h717 := (h717.ev E1403).ev E1414; replace h743 := (h743.ev E1403).ev E1414; replace h758 := (h758.ev E1403).ev E1414; replace h769 := (h769.ev E1403).ev E1414; replace h780 := (h780.ev E1403).ev E1414; replace h790 := (h790.ev E1403).ev E1414; replace h933 := (h933.ev E1403).ev E1414; replace h891 := (h891.ev E1403).ev E1414; replace h894 := (h894.ev E1403).ev E1414; replace h929 := (h929.ev E1403).ev E1414; replace h932 := (h932.ev E1403).ev E1414; replace h1122 := (h1122.ev E1403).ev E1414; replace h1125 := (h1125.ev E1403).ev E1414; replace E := E.trans E1414 lc1
           as_aux_lemma =>
           replace h901 := AT.rc h901 (rk e1409 mm); replace h939 := AT.rc h939 (rk e1409 mm); replace h1131 := AT.rc h1131 (rk e1409 mm); replace h717 := TB.rc h717 (rk e1409 mm) (rk e1409 ne_zm); replace h743 := SL.rc h743 (rk e1409 mm) (rk e1409 ne_zm); replace h758 := SL.rc h758 (rk e1409 ne_zm) (rk e1409 ne_zm); replace h769 := SL.rc h769 (rk e1409 mm) (rk e1409 ne_zm); replace h780 := OL.rc h780 (rk e1409 mm) (rk e1409 mm) (rk e1409 ne_zm) (pl hm0); replace h790 := OL.rc h790 (rk e1409 mm) (rk e1409 mm) (rk e1409 ne_zm) (pl hm0); replace h933 := TB.rc h933 (rk e1409 mm) (rk e1409 ne_zm); replace h891 := SL.rc h891 (rk e1409 mm) (rk e1409 ne_zm); replace h894 := SL.rc h894 (rk e1409 mm) (rk e1409 ne_zm); replace h929 := SL.rc h929 (rk e1409 mm) (rk e1409 ne_zm); replace h932 := SL.rc h932 (rk e1409 mm) (rk e1409 ne_zm)
           as_aux_lemma =>
           replace h1122 := SL.rc h1122 (rk e1409 mm) (rk e1409 ne_zm); replace h1125 := SL.rc h1125 (rk e1409 mm) (rk e1409 ne_zm); replace E := E.rk B0 e1409; replace ER := ER.rkM e1409 (by simp); replace B := B.rk e1410 lm; refine ⟨fun _ => ER.sb, ?_⟩; refine da F ER.sb fun a F => ?_; refine d_nil ?_; replace h790 := OL.next (k := i1332) h790 g1365.1 g1365.2; replace h780 := OL.next (k := i1332) h780 g1348.1 g1348.2; refine hK1382 _ _ ?_; replace F : Fr a 338 [(5, .pointer p28), (8, .slice A1412 (l1328 ++ [(rd t772 i1332).Key, (rd t772 i1332).Value, (rd t782 i1332).Key, (rd t782 i1332).Value]).length C1413), (15, .slice A741 t735.length C742), (16, .slice A755 t735.length C756), (17, .slice A767 t761.length C768), (18, .slice A778 t772.length C779), (19, .slice A788 t782.length C789), (21, .pointer p814), (23, .pointer (some qa899)), (25, .pointer (some qa937)), (30, .pointer (some qa1129)), (34, .int .i64 i1332)] := F.sub ⟨rfl, rfl, rfl, rfl, rfl, rfl, rfl, rfl, rfl, rfl, rfl, rfl, trivial⟩; refine reg ?_; refine qm F fun a F => ?_
           as_aux_lemma =>
           refine qv F (r_add F rfl rfl) fun a F => ?_; refine qa F fun a F => nil ?_; replace H := HN1336 _ (si H).symm; exact hX1335 _ _ _ (Nat.lt_succ_self _) ⟨(l1328 ++ [(rd t772 i1332).Key, (rd t772 i1332).Value, (rd t782 i1332).Key, (rd t782 i1332).Value]), A1412, C1413, (IntKind.i64.wrap (i1332 + 1)), c1408, F.sub ⟨rfl, rfl, rfl, rfl, rfl, rfl, rfl, rfl, rfl, rfl, rfl, rfl, trivial⟩, E, B, h901, h939, h1131, h717, h743, h758, h769, h780, h790, h933, h891, h894, h929, h932, h1122, h1125, h1415, H⟩
          replace H := im hb1345 H; refine wcf (fb F (dz hb1345)) ?_; refine wp_exit ?_; refine thenE ?_; refine thenE ?_; refine inbE ?_; replace h780 : SL true (Krw 3 (by decide)) (m + 18) 0 c1333 w1334 A778 C779 (List.replicate t772.length (none : Option (List Value))) := OL.raw h780; have hl1346 : t772.length = (List.replicate t772.length (none : Option (List Value))).length := by simp
          replace F := F.sub (L' := [(5, .pointer p28), (8, .slice A1329 l1328.length C1330), (15, .slice A741 t735.length C742), (16, .slice A755 t735.length C756), (17, .slice A767 t761.length C768), (18, .slice A778 (List.replicate t772.length (none : Option (List Value))).length C779), (19, .slice A788 t782.length C789), (21, .pointer p814), (23, .pointer (some qa899)), (25, .pointer (some qa937)), (30, .pointer (some qa1129)), (34, .int .i64 i1332), (273, .int .i64 i1332), (274, .slice A778 (List.replicate t772.length (none : Option (List Value))).length C779), (275, .int .i64 (t772.length : Int)), (276, .bool (decide (i1332 < (t772.length : Int))))]) ⟨rfl, rfl, rfl, rfl, rfl, (by rw [← hl1346]; rfl), rfl, rfl, rfl, rfl, rfl, rfl, rfl, (by rw [← hl1346]; rfl), rfl, rfl, trivial⟩; replace h790 : SL true (Krw 3 (by decide)) (m + 20) 0 c1333 w1334 A788 C789 (List.replicate t782.length (none : Option (List Value))) := OL.raw h790; have hl1347 : t782.length = (List.replicate t782.length (none : Option (List Value))).length := by simp
          replace F := F.sub (L' := [(5, .pointer p28), (8, .slice A1329 l1328.length C1330), (15, .slice A741 t735.length C742), (16, .slice A755 t735.length C756), (17, .slice A767 t761.length C768), (18, .slice A778 (List.replicate t772.length (none : Option (List Value))).length C779), (19, .slice A788 (List.replicate t782.length (none : Option (List Value))).length C789), (21, .pointer p814), (23, .pointer (some qa899)), (25, .pointer (some qa937)), (30, .pointer (some qa1129)), (34, .int .i64 i1332), (273, .int .i64 i1332), (274, .slice A778 (List.replicate t772.length (none : Option (List Value))).length C779), (275, .int .i64 (t772.length : Int)), (276, .bool (decide (i1332 < (t772.length : Int))))]) ⟨rfl, rfl, rfl, rfl, rfl, rfl, (by rw [← hl1347]; rfl), rfl, rfl, rfl, rfl, rfl, rfl, rfl, rfl, rfl, trivial⟩; have hx_ := HD1337 _ (si H).symm; have H := HR1341; rw [← hx_] at H; exact J1426 c1333 w1334 a l1328 A1329 C1330 (F.sub ⟨rfl, rfl, rfl, rfl, rfl, rfl, rfl, rfl, rfl, rfl, rfl, trivial⟩) E B h901 h939 h1131 h717 h743 h758 h769 h780 h790 h933 h891 h894 h929 h932 h1122 h1125 h1331 H
         refine loop_fuel (I := fun n a w => ∃ (l1222 : List (List Int)) (A1223 : Option Addr) (C1224 : Nat) (i1226 : Int) (c : Nat → Nat), Fr a 338 [(5, .pointer p28), (6, .slice A721 l720.length C722), (7, .slice A725 l724.length C726), (8, .slice A1223 l1222.length C1224), (15, .slice A741 t735.length C742), (16, .slice A755 t735.length C756), (17, .slice A767 t761.length C768), (18, .slice A778 t772.length C779), (19, .slice A788 t782.length C789), (21, .pointer p814), (23, .pointer (some qa899)), (25, .pointer (some qa937)), (30, .pointer (some qa1129)), (33, .int .i64 i1226)] ∧ Ev (fun x => False ∨ m ≤ x) c0 w0 c w ∧ CB (m + 49) c w ∧ AT true (m + 28) c w qa899 [.bool t883.1.Done, .slice A889 t883.1.Key.length C890, .slice A892 t883.1.Value.length C893, .int .i64 t883.1.Rev, .int .i64 t883.1.At] ∧ AT true (m + 31) c w qa937 [.bool t921.1.Done, .slice A927 t921.1.Key.length C928, .slice A930 t921.1.Value.length C931, .int .i64 t921.1.Rev, .int .i64 t921.1.At] ∧ AT true (m + 35) c w qa1129 [.int .i64 t1114.Kind, .slice A1120 (t1114.Key.set (0 : Int).toNat 6).length C1121, .slice A1123 (t1114.Value.set (0 : Int).toNat 2).length C1124, .int .i64 t1114.Rev] ∧ TB (m + 1) c w p28 o718 ∧ OL KO_api_Answer (m + 12) (m + 13) c w A721 C722 l720 (fun q_ => q_ < i1226.toNat) ∧ SL true K_api_Answer (m + 14) 0 c w A725 C726 l724 ∧ SL true (Kint .u8) (m + 15) 0 c w A741 C742 t735 ∧ SL true (Kint .u8) 0 0 c w A755 C756 t735 ∧ SL true (Kint .u8) (m + 17) 0 c w A767 C768 t761 ∧ OL KO_api_Row (m + 18) (m + 19) c w A778 C779 t772 ∧ OL KO_api_Row (m + 20) (m + 21) c w A788 C789 t782 ∧ TB (m + 24) c w p814 t921.2.2 ∧ SL true (Kint .u8) (m + 26) 0 c w A889 C890 t883.1.Key ∧ SL true (Kint .u8) (m + 27) 0 c w A892 C893 t883.1.Value ∧ SL true (Kint .u8) (m + 29) 0 c w A927 C928 t921.1.Key ∧ SL true (Kint .u8) (m + 30) 0 c w A930 C931 t921.1.Value ∧ SL true (Kint .u8) (m + 33) 0 c w A1120 C1121 (t1114.Key.set (0 : Int).toNat 6) ∧ SL true (Kint .u8) (m + 34) 0 c w A1123 C1124 (t1114.Value.set (0 : Int).toNat 2) ∧ SP (Kint .u8) (m + 9) (m + 10) c w A1223 C1224 l1222 0 ∧ loop (fun (s_ : (List (List Int)) × Int) => haulagelaw13_TableOwn.b18 k l720 l724 s_.1 s_.2) n (l1222, i1226) = some x1236) (k := k) ⟨l728, A729, C730, 0, c1216, F.sub ⟨rfl, rfl, rfl, rfl, rfl, rfl, rfl, rfl, rfl, rfl, rfl, rfl, rfl, rfl, trivial⟩, E, B, h901, h939, h1131, h717, h719, h723, h743, h758, h769, h780, h790, h933, h891, h894, h929, h932, h1122, h1125, h727, HL⟩ ?_; clear HL H E F B; intro n1233 X1229 hX1229 a w1228 ⟨l1222, A1223, C1224, i1226, c1227, F, E, B, h901, h939, h1131, h717, h719, h723, h743, h758, h769, h780, h790, h933, h891, h894, h929, h932, h1122, h1125, h1225, HL⟩; obtain ⟨n1234, ctl1232, rfl, HB, HN1230, HD1231⟩ := loop_some HL; have H : haulagelaw13_TableOwn.b18 k l720 l724 l1222 i1226 = some ctl1232 := HB; clear HB HL; unfold haulagelaw13_TableOwn.b18 at H
         as_aux_lemma =>
         refine sq fun K1237 hK1237 => ?_; refine sr fun K1238 hK1238 => qm F fun a F => qm F fun a F => ?_; refine qv F (r_lensl F Try.underlying27 rfl) fun a F => ?_; refine qv F (r_lss F rfl rfl) fun a F => ?_; refine nil (hK1238 _ _ ?_)
         by_cases hb1239 : i1226 < (l720.length : Int)
         ·replace H := ip hb1239 H; refine wct (fb F (dt hb1239)) (wp_skip (hK1237 _ _ ?_)); replace H := ifN H; obtain ⟨g1241, H⟩ := H; obtain ⟨c1242, e1243, e1244, ad1245, cs1246, e1247, h1248, r1249, h719⟩ := OL.lendH h719 [m + 37, m + 38] i1226 g1241.1 g1241.2 (by simp) rfl ⟨⟨mm, (pl hm0)⟩, ⟨mm, (pl hm0)⟩, trivial⟩ mm; replace h901 := AT.rc h901 (rk e1243 mm); replace h939 := AT.rc h939 (rk e1243 mm); replace h1131 := AT.rc h1131 (rk e1243 mm); replace h717 := TB.rc h717 (rk e1243 mm) (rk e1243 ne_zm)
          as_aux_lemma =>
          replace h723 := SL.rc h723 (rk e1243 mm) (rk e1243 ne_zm); replace h743 := SL.rc h743 (rk e1243 mm) (rk e1243 ne_zm); replace h758 := SL.rc h758 (rk e1243 ne_zm) (rk e1243 ne_zm); replace h769 := SL.rc h769 (rk e1243 mm) (rk e1243 ne_zm); replace h780 := OL.rc h780 (rk e1243 mm) (rk e1243 mm) (rk e1243 ne_zm) (pl hm0); replace h790 := OL.rc h790 (rk e1243 mm) (rk e1243 mm) (rk e1243 ne_zm) (pl hm0); replace h933 := TB.rc h933 (rk e1243 mm) (rk e1243 ne_zm); replace h891 := SL.rc h891 (rk e1243 mm) (rk e1243 ne_zm); replace h894 := SL.rc h894 (rk e1243 mm) (rk e1243 ne_zm); replace h929 := SL.rc h929 (rk e1243 mm) (rk e1243 ne_zm); replace h932 := SL.rc h932 (rk e1243 mm) (rk e1243 ne_zm); replace h1122 := SL.rc h1122 (rk e1243 mm) (rk e1243 ne_zm); replace h1125 := SL.rc h1125 (rk e1243 mm) (rk e1243 ne_zm); replace h1225 := SP.rc h1225 (rk e1243 mm) (rk e1243 mm) (rk e1243 ne_zm) (pl hm0); obtain ⟨A1251, C1252, A1254, C1255, rfl, h1253, h1256⟩ := r1249
          as_aux_lemma =>
          replace h1253 : SL true (Kint .u8) (m + 37) 0 c1242 w1228 A1251 C1252 ((rd l720 i1226).Key) := h1253; replace h1256 : SL true (Kint .u8) (m + 38) 0 c1242 w1228 A1254 C1255 ((rd l720 i1226).Value) := h1256; obtain ⟨qa1250, qqa1250⟩ : ∃ q, q = (ad1245.add (i1226.toNat * 5)) := ⟨_, rfl⟩; have h1248 : AT true (m + 12) c1242 w1228 qa1250 [.bool ((rd l720 i1226).Done), .slice A1251 ((rd l720 i1226).Key).length C1252, .slice A1254 ((rd l720 i1226).Value).length C1255, .int .i64 ((rd l720 i1226).Rev), .int .i64 ((rd l720 i1226).At)] := by rw [qqa1250]; exact h1248
          replace E := E.rk B0 e1243; replace B : CB (m + 49) c1242 w1228 := e1244 _ ⟨lm, lm, trivial⟩ B; refine sq fun K1258 hK1258 => ?_; refine wp_block ?_; refine sq fun K1259 hK1259 => ?_; refine sq fun K1260 hK1260 => ?_; refine regD (SB No c1242 w1228) 10 (.q 0 (.q 1 (.q 2 (.q 3 (.q 4 (.q 5 (.q 6 (.q 7 (.e 8 (.q 9 .nil)))))))))) Try_hm (by decide +kernel) ?_; intro w1261 w1_ w2_ w3_ w4_; have E1262 : Ev No c1242 w1228 c1242 w1261 := Ev.same w1_ w2_ w3_ w4_; replace B := B.same w1_; have zh723 := h723; have zh1248 := h1248; have ER : Ev No c1242 w1228 c1242 w1261 := Ev.same w1_ w2_ w3_ w4_
          as_aux_lemma =>
          replace h1253 := h1253.ev E1262; replace h1256 := h1256.ev E1262; replace E := E.n E1262; refine dm F ER.sb fun a F => ?_; refine dm F ER.sb fun a F => ?_; refine dq F (fun wq hS => r_indexAddr' F Try.underlying27 sz_33 rfl rfl g1241.1 g1241.2 e1247 qqa1250) ER.sb fun a F => ?_; refine dq F (fun wq hS => r_loads (cs := [.bool ((rd l720 i1226).Done), .slice A1251 ((rd l720 i1226).Key).length C1252, .slice A1254 ((rd l720 i1226).Value).length C1255, .int .i64 ((rd l720 i1226).Rev), .int .i64 ((rd l720 i1226).At)]) F rfl ag_33 sz_33 (AT.sb zh1248 hS nq)) ER.sb fun a F => ?_; refine dm F ER.sb fun a F => ?_; refine dm F ER.sb fun a F => ?_; replace H := ifN H; obtain ⟨g1263, H⟩ := H; obtain ⟨ad1264, cs1265, e1266, h1267, r1268⟩ := SL.at zh723 i1226 g1263.1 g1263.2; obtain ⟨A1269, C1270, A1272, C1273, rfl, h1271, h1274⟩ := r1268; replace h1271 := SL.fl (i' := 0) h1271 (fun q => q)
          as_aux_lemma =>
          replace h1274 := SL.fl (i' := 0) h1274 (fun q => q); obtain ⟨qa1275, qqa1275⟩ : ∃ q, q = (ad1264.add (i1226.toNat * 5)) := ⟨_, rfl⟩; have h1267 : AT true (m + 14) c1242 w1228 qa1275 [.bool ((rd l724 i1226).Done), .slice A1269 ((rd l724 i1226).Key).length C1270, .slice A1272 ((rd l724 i1226).Value).length C1273, .int .i64 ((rd l724 i1226).Rev), .int .i64 ((rd l724 i1226).At)] := by rw [qqa1275]; exact h1267
          replace h1271 := h1271.ev ER nq nq; replace h1274 := h1274.ev ER nq nq; have zh1267 := h1267; refine dq F (fun wq hS => r_indexAddr' F Try.underlying27 sz_33 rfl rfl g1263.1 g1263.2 e1266 qqa1275) ER.sb fun a F => ?_; refine dq F (fun wq hS => r_loads (cs := [.bool ((rd l724 i1226).Done), .slice A1269 ((rd l724 i1226).Key).length C1270, .slice A1272 ((rd l724 i1226).Value).length C1273, .int .i64 ((rd l724 i1226).Rev), .int .i64 ((rd l724 i1226).At)]) F rfl ag_33 sz_33 (AT.sb zh1267 hS nq)) ER.sb fun a F => ?_; refine d_e ?_; obtain ⟨t1277, q1278, H⟩ := bind_some H; refine oc F Try.func16 (haulagelaw13_sameAnswer.calls k (m := m + 49) (pl hm0) B h1253.r h1256.r h1271 h1274 lm lm (pl hm0) (pl hm0) _ q1278) ?_; rintro e w1280 ⟨c1279, rfl, E1281, B⟩; refine rt fun a F => ?_; replace ER := ER.trans E1281 nx
          as_aux_lemma =>
          replace h901 := (h901.ev E1262).ev E1281; replace h939 := (h939.ev E1262).ev E1281; replace h1131 := (h1131.ev E1262).ev E1281; replace h717 := (h717.ev E1262).ev E1281; replace h719 := (h719.ev E1262).ev E1281; replace h723 := (h723.ev E1262).ev E1281; replace h743 := (h743.ev E1262).ev E1281; replace h758 := (h758.ev E1262).ev E1281; replace h769 := (h769.ev E1262).ev E1281; replace h780 := (h780.ev E1262).ev E1281; replace h790 := (h790.ev E1262).ev E1281; replace h933 := (h933.ev E1262).ev E1281; replace h891 := (h891.ev E1262).ev E1281; replace h894 := (h894.ev E1262).ev E1281
          as_aux_lemma =>
          replace h929 := (h929.ev E1262).ev E1281; replace h932 := (h932.ev E1262).ev E1281; replace h1122 := (h1122.ev E1262).ev E1281; replace h1125 := (h1125.ev E1262).ev E1281; replace h1225 := (h1225.ev E1262).ev E1281; replace h1253 := h1253.ev E1281; replace h1256 := h1256.ev E1281; replace h1248 := (h1248.ev E1262).ev E1281; replace E := E.n E1281; refine ⟨fun _ => ER.sb, ?_⟩; refine dq F (fun wq hS => r_not F rfl) ER.sb fun a F => ?_; refine d_nil ?_; refine hK1260 _ _ ?_; replace F : Fr a 338 [(5, .pointer p28), (6, .slice A721 l720.length C722), (7, .slice A725 l724.length C726), (8, .slice A1223 l1222.length C1224), (15, .slice A741 t735.length C742), (16, .slice A755 t735.length C756), (17, .slice A767 t761.length C768), (18, .slice A778 t772.length C779), (19, .slice A788 t782.length C789), (21, .pointer p814), (23, .pointer (some qa899)), (25, .pointer (some qa937)), (30, .pointer (some qa1129)), (33, .int .i64 i1226), (259, .bool (!t1277))] := F.sub ⟨rfl, rfl, rfl, rfl, rfl, rfl, rfl, rfl, rfl, rfl, rfl, rfl, rfl, rfl, rfl, trivial⟩
          by_cases hb1284 : t1277 = true
          ·replace H := ip hb1284 H
           as_aux_lemma =>
           refine wcf (fb F (congrArg not hb1284)) (wp_skip (hK1259 _ _ ?_)); have h1286 : SL false (Kslice (Kint .u8)) (m + 9) (m + 10) c1279 w1280 A1223 C1224 l1222 := SP.view h1225 (fun q_ => q_); refine regD (SB (fun x => x = m + 39 ∨ x = m + 40 ∨ x = m + 37 ∨ x = m + 38 ∨ x = m + 9) c1279 w1280) 14 (.q 0 (.q 1 (.q 2 (.q 3 (.q 4 (.q 5 (.q 6 (.q 7 (.q 8 (.q 9 (.q 10 (.e 11 (.e 12 (.q 13 .nil)))))))))))))) Try_hm (by decide +kernel) ?_; intro w1287 w1_ w2_ w3_ w4_; have E1288 : Ev No c1279 w1280 c1279 w1287 := Ev.same w1_ w2_ w3_ w4_; replace B := B.same w1_; have zh1248 := h1248; have ER : Ev (fun x => x = m + 39 ∨ x = m + 40 ∨ x = m + 37 ∨ x = m + 38 ∨ x = m + 9) c1279 w1280 c1279 w1287 := Ev.same w1_ w2_ w3_ w4_; replace h901 := h901.ev E1288; replace h939 := h939.ev E1288; replace h1131 := h1131.ev E1288; replace h717 := h717.ev E1288; replace h719 := h719.ev E1288; replace h723 := h723.ev E1288
           as_aux_lemma =>
           replace h743 := h743.ev E1288; replace h758 := h758.ev E1288; replace h769 := h769.ev E1288; replace h780 := h780.ev E1288; replace h790 := h790.ev E1288; replace h933 := h933.ev E1288; replace h891 := h891.ev E1288; replace h894 := h894.ev E1288; replace h929 := h929.ev E1288; replace h932 := h932.ev E1288; replace h1122 := h1122.ev E1288; replace h1125 := h1125.ev E1288; replace h1225 := h1225.ev E1288; replace h1253 := h1253.ev E1288
           as_aux_lemma =>
           replace h1256 := h1256.ev E1288; replace E := E.n E1288; refine dm F ER.sb fun a F => ?_; refine dm F ER.sb fun a F => ?_; refine dm F ER.sb fun a F => ?_; refine dq F (fun wq hS => r_indexAddr' F Try.underlying27 sz_33 rfl rfl g1241.1 g1241.2 e1247 qqa1250) ER.sb fun a F => ?_; refine df F ff_33_1 ER.sb fun a F => ?_; refine dq F (fun wq hS => r_load F rfl ag_23 (AT.cell (AT.sb zh1248 hS (nor mm (nor mm (nor mm (nor mm mm))))) rfl)) ER.sb fun a F => ?_; refine dm F ER.sb fun a F => ?_; refine dm F ER.sb fun a F => ?_; refine dq F (fun wq hS => r_indexAddr' F Try.underlying27 sz_33 rfl rfl g1241.1 g1241.2 e1247 qqa1250) ER.sb fun a F => ?_; refine df F ff_33_2 ER.sb fun a F => ?_; refine dq F (fun wq hS => r_load F rfl ag_23 (AT.cell (AT.sb zh1248 hS (nor mm (nor mm (nor mm (nor mm mm))))) rfl)) ER.sb fun a F => ?_; refine d_e ?_; have h1289 : GR (KOsl (Kint .u8)) (m + 39) c1279 w1287 (([] : List Value).map one1) ([] : List (List Int)) := GR.nil (pl hm0); obtain ⟨c1290, e1291, e1292, h1289⟩ := GP.push h1289 h1253 ⟨mm, (pl hm0)⟩
           as_aux_lemma =>
           replace h901 := AT.rc h901 (rk e1291 mm); replace h939 := AT.rc h939 (rk e1291 mm); replace h1131 := AT.rc h1131 (rk e1291 mm); replace h717 := TB.rc h717 (rk e1291 mm) (rk e1291 ne_zm); replace h719 := OL.rc h719 (rk e1291 mm) (rk e1291 mm) (rk e1291 ne_zm) (pl hm0); replace h723 := SL.rc h723 (rk e1291 mm) (rk e1291 ne_zm); replace h743 := SL.rc h743 (rk e1291 mm) (rk e1291 ne_zm); replace h758 := SL.rc h758 (rk e1291 ne_zm) (rk e1291 ne_zm); replace h769 := SL.rc h769 (rk e1291 mm) (rk e1291 ne_zm); replace h780 := OL.rc h780 (rk e1291 mm) (rk e1291 mm) (rk e1291 ne_zm) (pl hm0); replace h790 := OL.rc h790 (rk e1291 mm) (rk e1291 mm) (rk e1291 ne_zm) (pl hm0); replace h933 := TB.rc h933 (rk e1291 mm) (rk e1291 ne_zm); replace h891 := SL.rc h891 (rk e1291 mm) (rk e1291 ne_zm); replace h894 := SL.rc h894 (rk e1291 mm) (rk e1291 ne_zm)
           as_aux_lemma =>
           replace h929 := SL.rc h929 (rk e1291 mm) (rk e1291 ne_zm); replace h932 := SL.rc h932 (rk e1291 mm) (rk e1291 ne_zm); replace h1122 := SL.rc h1122 (rk e1291 mm) (rk e1291 ne_zm); replace h1125 := SL.rc h1125 (rk e1291 mm) (rk e1291 ne_zm); replace h1225 := SP.rc h1225 (rk e1291 mm) (rk e1291 mm) (rk e1291 ne_zm) (pl hm0); replace h1256 := SL.rc h1256 (rk e1291 mm) (rk e1291 ne_zm); replace E := E.rk B0 e1291; replace ER := ER.rkM e1291 (by simp); replace B := B.rk e1292 lm; obtain ⟨c1293, e1294, e1295, h1289⟩ := GP.push h1289 h1256 ⟨mm, (pl hm0)⟩; replace h901 := AT.rc h901 (rk e1294 mm); replace h939 := AT.rc h939 (rk e1294 mm); replace h1131 := AT.rc h1131 (rk e1294 mm); replace h717 := TB.rc h717 (rk e1294 mm) (rk e1294 ne_zm)
           as_aux_lemma =>
           replace h719 := OL.rc h719 (rk e1294 mm) (rk e1294 mm) (rk e1294 ne_zm) (pl hm0); replace h723 := SL.rc h723 (rk e1294 mm) (rk e1294 ne_zm); replace h743 := SL.rc h743 (rk e1294 mm) (rk e1294 ne_zm); replace h758 := SL.rc h758 (rk e1294 ne_zm) (rk e1294 ne_zm); replace h769 := SL.rc h769 (rk e1294 mm) (rk e1294 ne_zm); replace h780 := OL.rc h780 (rk e1294 mm) (rk e1294 mm) (rk e1294 ne_zm) (pl hm0); replace h790 := OL.rc h790 (rk e1294 mm) (rk e1294 mm) (rk e1294 ne_zm) (pl hm0); replace h933 := TB.rc h933 (rk e1294 mm) (rk e1294 ne_zm); replace h891 := SL.rc h891 (rk e1294 mm) (rk e1294 ne_zm); replace h894 := SL.rc h894 (rk e1294 mm) (rk e1294 ne_zm); replace h929 := SL.rc h929 (rk e1294 mm) (rk e1294 ne_zm); replace h932 := SL.rc h932 (rk e1294 mm) (rk e1294 ne_zm); replace h1122 := SL.rc h1122 (rk e1294 mm) (rk e1294 ne_zm); replace h1125 := SL.rc h1125 (rk e1294 mm) (rk e1294 ne_zm)
           as_aux_lemma =>
           replace h1225 := SP.rc h1225 (rk e1294 mm) (rk e1294 mm) (rk e1294 ne_zm) (pl hm0); replace E := E.rk B0 e1294; replace ER := ER.rkM e1294 (by simp); replace B := B.rk e1295 lm; refine o_eff F rfl rfl rfl (by decide) (e_buildSlice (n := 2) (e := 23) (c := c1293) (k := Kval) (i := 0) F [(0, .slice A1251 ((rd l720 i1226).Key).length C1252), (1, .slice A1254 ((rd l720 i1226).Value).length C1255)] [.slice A1251 ((rd l720 i1226).Key).length C1252, .slice A1254 ((rd l720 i1226).Value).length C1255] ([.slice A1251 ((rd l720 i1226).Key).length C1252, .slice A1254 ((rd l720 i1226).Value).length C1255] : List Value) (by exact ⟨rfl, rfl, rfl, rfl, trivial⟩) (fun w => by kernel_rfl) rfl (by decide) rfl ⟨⟨rfl, rfl⟩, ⟨rfl, rfl⟩, trivial⟩ (fun q => q) (m + 40)) ?_; rintro v w1297 a ⟨c1296, A1298, C1299, rfl, E1300, h1301, B1302⟩ F; replace B := B1302 _ B lm; replace ER := ER.trans E1300 nx; replace h1225 := h1225.ev E1300; replace h1289 := h1289.ev E1300; replace E := E.n E1300; replace h1301 : SP (Kint .u8) (m + 40) (m + 39) c1296 w1297 A1298 C1299 [(rd l720 i1226).Key, (rd l720 i1226).Value] 0 := SP.mk h1301 h1289; refine ⟨fun _ => ER.sb, ?_⟩; refine d_e ?_
           as_aux_lemma =>
           replace H := ifN H; obtain ⟨g1303, H⟩ := H; refine o_eff F rfl rfl rfl (by decide) (e_appendS (e := (Kint .u8)) (xss := l1222) (yss := [(rd l720 i1226).Key, (rd l720 i1226).Value]) (c := c1296) (j := (m + 9)) (y0 := (m + 10)) F et_28 rfl rfl h1225 h1301 g1303 (len_ok g1303) (pl hm0) mm mm mm) ?_; rintro v w1308 a ⟨c1304, A1309, C1310, rfl, E1311, B1313, c1305, e1306, e1307, h1312⟩ F; replace B := B1313 _ B lm; replace ER := ER.trans E1311 (fun x q => by replace q : x = m + 9 := q; show x = m + 39 ∨ x = m + 40 ∨ x = m + 37 ∨ x = m + 38 ∨ x = m + 9; omega); replace h901 := (h901.ev E1300).ev E1311; replace h939 := (h939.ev E1300).ev E1311; replace h1131 := (h1131.ev E1300).ev E1311; replace h717 := (h717.ev E1300).ev E1311; replace h719 := (h719.ev E1300).ev E1311; replace h723 := (h723.ev E1300).ev E1311; replace h743 := (h743.ev E1300).ev E1311; replace h758 := (h758.ev E1300).ev E1311
           as_aux_lemma =>
           replace h769 := (h769.ev E1300).ev E1311; replace h780 := (h780.ev E1300).ev E1311; replace h790 := (h790.ev E1300).ev E1311; replace h933 := (h933.ev E1300).ev E1311; replace h891 := (h891.ev E1300).ev E1311; replace h894 := (h894.ev E1300).ev E1311; replace h929 := (h929.ev E1300).ev E1311; replace h932 := (h932.ev E1300).ev E1311; replace h1122 := (h1122.ev E1300).ev E1311; replace h1125 := (h1125.ev E1300).ev E1311; replace E := E.trans E1311 lc1; replace h901 := AT.rc h901 (rk e1306 mm); replace h939 := AT.rc h939 (rk e1306 mm); replace h1131 := AT.rc h1131 (rk e1306 mm)
           as_aux_lemma =>
           replace h717 := TB.rc h717 (rk e1306 mm) (rk e1306 ne_zm); replace h719 := OL.rc h719 (rk e1306 mm) (rk e1306 mm) (rk e1306 ne_zm) (pl hm0); replace h723 := SL.rc h723 (rk e1306 mm) (rk e1306 ne_zm); replace h743 := SL.rc h743 (rk e1306 mm) (rk e1306 ne_zm); replace h758 := SL.rc h758 (rk e1306 ne_zm) (rk e1306 ne_zm); replace h769 := SL.rc h769 (rk e1306 mm) (rk e1306 ne_zm); replace h780 := OL.rc h780 (rk e1306 mm) (rk e1306 mm) (rk e1306 ne_zm) (pl hm0); replace h790 := OL.rc h790 (rk e1306 mm) (rk e1306 mm) (rk e1306 ne_zm) (pl hm0); replace h933 := TB.rc h933 (rk e1306 mm) (rk e1306 ne_zm); replace h891 := SL.rc h891 (rk e1306 mm) (rk e1306 ne_zm); replace h894 := SL.rc h894 (rk e1306 mm) (rk e1306 ne_zm); replace h929 := SL.rc h929 (rk e1306 mm) (rk e1306 ne_zm); replace h932 := SL.rc h932 (rk e1306 mm) (rk e1306 ne_zm); replace h1122 := SL.rc h1122 (rk e1306 mm) (rk e1306 ne_zm)
           as_aux_lemma =>
           replace h1125 := SL.rc h1125 (rk e1306 mm) (rk e1306 ne_zm); replace E := E.rk B0 e1306; replace ER := ER.rkM e1306 (by simp); replace B := B.rk e1307 lm; refine ⟨fun _ => ER.sb, ?_⟩; refine da F ER.sb fun a F => ?_; refine d_nil ?_; replace h719 := OL.next (k := i1226) h719 g1241.1 g1241.2; refine hK1258 _ _ ?_; refine reg ?_; refine qm F fun a F => ?_; refine qv F (r_add F rfl rfl) fun a F => ?_; refine qa F fun a F => nil ?_; replace H := HN1230 _ (si H).symm; exact hX1229 _ _ _ (Nat.lt_succ_self _) ⟨(l1222 ++ [(rd l720 i1226).Key, (rd l720 i1226).Value]), A1309, C1310, (IntKind.i64.wrap (i1226 + 1)), c1305, F.sub ⟨rfl, rfl, rfl, rfl, rfl, rfl, rfl, rfl, rfl, rfl, rfl, rfl, rfl, rfl, trivial⟩, E, B, h901, h939, h1131, h717, h719, h723, h743, h758, h769, h780, h790, h933, h891, h894, h929, h932, h1122, h1125, h1312, H⟩
          as_aux_lemma =>
          replace H := im hb1284 H; refine wct (fb F (congrArg not (bfalse hb1284))) ?_; refine sr fun K1285 hK1285 => qa F fun a F => nil (hK1285 _ _ ?_); replace F : Fr a 338 [(4, .bool false)] := F.sub ⟨rfl, trivial⟩; refine wp_ret ?_; refine thenR ?_; refine inbR ?_; refine thenR ?_; refine thenR ?_; refine inbR ?_; refine thenR ?_; have hx_ := HD1231 _ (si H).symm; have H := HR1235; rw [← hx_] at H
          as_aux_lemma =>
          replace H : some false = some r := H; obtain rfl := si H; refine out1 F rfl rfl ?_; exact ⟨cf (ct m) c1279, rfl, E.lv B0, cfb⟩
         replace H := im hb1239 H; refine wcf (fb F (dz hb1239)) ?_; refine wp_exit ?_; refine thenE ?_; refine thenE ?_; refine inbE ?_; replace h719 : SL true (Krw 5 (by decide)) (m + 12) 0 c1227 w1228 A721 C722 (List.replicate l720.length (none : Option (List Value))) := OL.raw h719; have hl1240 : l720.length = (List.replicate l720.length (none : Option (List Value))).length := by simp
         replace F := F.sub (L' := [(5, .pointer p28), (6, .slice A721 (List.replicate l720.length (none : Option (List Value))).length C722), (7, .slice A725 l724.length C726), (8, .slice A1223 l1222.length C1224), (15, .slice A741 t735.length C742), (16, .slice A755 t735.length C756), (17, .slice A767 t761.length C768), (18, .slice A778 t772.length C779), (19, .slice A788 t782.length C789), (21, .pointer p814), (23, .pointer (some qa899)), (25, .pointer (some qa937)), (30, .pointer (some qa1129)), (33, .int .i64 i1226), (244, .int .i64 i1226), (245, .slice A721 (List.replicate l720.length (none : Option (List Value))).length C722), (246, .int .i64 (l720.length : Int)), (247, .bool (decide (i1226 < (l720.length : Int))))]) ⟨rfl, (by rw [← hl1240]; rfl), rfl, rfl, rfl, rfl, rfl, rfl, rfl, rfl, rfl, rfl, rfl, rfl, rfl, (by rw [← hl1240]; rfl), rfl, rfl, trivial⟩; have hx_ := HD1231 _ (si H).symm; have H := HR1235; rw [← hx_] at H; exact J1323 c1227 w1228 a l1222 A1223 C1224 (F.sub ⟨rfl, rfl, rfl, rfl, rfl, rfl, rfl, rfl, rfl, rfl, rfl, trivial⟩) E B h901 h939 h1131 h717 h743 h758 h769 h780 h790 h933 h891 h894 h929 h932 h1122 h1125 h1225 H
        as_aux_lemma =>
        refine reg ?_; refine qf F ff_33_3 fun a F => ?_; refine ql F ag_3 h1198 fun a F => ?_; refine qv F (r_neq F rfl rfl) fun a F => ?_; refine qm F fun a F => ?_
        by_cases hb1206 : t1180.1.Rev = 0
        ·replace H := ip hb1206 H; refine qy F (congrArg not (dt hb1206)) ?_; refine qm F fun a F => ?_; obtain ⟨t1207, q1208, H⟩ := bind_some H; refine qy F (congrArg not (dt hb1206)) ?_; refine qc F Try.func17 (table_Table_Len.calls (m := m + 49) (pl hm0) B h1192 lm _ q1208) ?_; rintro e w1210 ⟨c1209, rfl, E1211, B⟩; refine rt fun a F => ?_; replace h901 := h901.ev E1211
         as_aux_lemma =>
         replace h939 := h939.ev E1211; replace h717 := h717.ev E1211; replace h719 := h719.ev E1211; replace h723 := h723.ev E1211; replace h727 := h727.ev E1211; replace h743 := h743.ev E1211; replace h758 := h758.ev E1211; replace h769 := h769.ev E1211; replace h780 := h780.ev E1211; replace h790 := h790.ev E1211; replace h933 := h933.ev E1211; replace h891 := h891.ev E1211; replace h894 := h894.ev E1211; replace h929 := h929.ev E1211
         as_aux_lemma =>
         replace h932 := h932.ev E1211; replace h1122 := h1122.ev E1211; replace h1125 := h1125.ev E1211; replace h1131 := h1131.ev E1211; replace E := E.n E1211; refine qy F (congrArg not (dt hb1206)) ?_; refine qv F (r_neq F rfl rfl) fun a F => ?_; refine qv F (r_pick_f F rfl (congrArg not (dt hb1206)) rfl) fun a F => ?_; refine nil ?_; exact J1215 c1209 w1210 a (!decide (t1207 = 2)) (F.sub ⟨rfl, rfl, rfl, rfl, rfl, rfl, rfl, rfl, rfl, rfl, rfl, rfl, rfl, rfl, trivial⟩) E B h901 h939 h1131 h717 h719 h723 h727 h743 h758 h769 h780 h790 h933 h891 h894 h929 h932 h1122 h1125 H
        replace H := im hb1206 H; refine qn F (congrArg not (dz hb1206)) fun a F => qn F (congrArg not (dz hb1206)) fun a F => qn F (congrArg not (dz hb1206)) fun a F => ?_; refine qv F (r_pick_t F rfl (congrArg not (dz hb1206)) rfl) fun a F => ?_; refine nil ?_; exact J1215 c1194 w1201 a true (F.sub ⟨rfl, rfl, rfl, rfl, rfl, rfl, rfl, rfl, rfl, rfl, rfl, rfl, rfl, rfl, trivial⟩) E B h901 h939 h1131 h717 h719 h723 h727 h743 h758 h769 h780 h790 h933 h891 h894 h929 h932 h1122 h1125 H
       as_aux_lemma =>
       refine reg ?_; refine qm F fun a F => ?_; refine qv F (r_neq F rfl rfl) fun a F => ?_; refine qm F fun a F => ?_
       by_cases hb1058 : t1047.2 = 0
       ·replace H := ip hb1058 H; refine qy F (congrArg not (dt hb1058)) ?_; refine qm F fun a F => ?_; refine qy F (congrArg not (dt hb1058)) ?_; refine qv F (r_peqlA F Try.underlying25 rfl rfl (TB.isNone h1054)) fun a F => ?_; refine qv F (r_pick_f F rfl (congrArg not (dt hb1058)) rfl) fun a F => ?_; refine qm F fun a F => ?_
        by_cases hb1059 : (Option.isNone t1047.1) = true
        ·replace H := ip hb1059 H; refine qn F hb1059 fun a F => qn F hb1059 fun a F => qn F hb1059 fun a F => ?_; refine qv F (r_pick_t F rfl hb1059 rfl) fun a F => ?_
         as_aux_lemma =>
         refine qm F fun a F => qn F rfl fun a F => qn F rfl fun a F => qn F rfl fun a F => ?_; refine qt F fun a F => ?_; refine qm F fun a F => qn F rfl fun a F => qn F rfl fun a F => qn F rfl fun a F => qn F rfl fun a F => qn F rfl fun a F => ?_; refine qt F fun a F => ?_; refine nil ?_; exact J1094 c1049 w1050 a true (F.sub ⟨rfl, rfl, rfl, rfl, rfl, rfl, rfl, rfl, rfl, rfl, rfl, rfl, rfl, rfl, trivial⟩) E B h901 h939 h717 h719 h723 h727 h743 h758 h769 h780 h790 h933 h891 h894 h929 h932 h1054 H
        replace H := im hb1059 H; refine qy F (bfalse hb1059) ?_; refine qm F fun a F => ?_; obtain ⟨t1060, q1061, H⟩ := bind_some H; refine qy F (bfalse hb1059) ?_; refine qc F Try.func17 (table_Table_Len.calls (m := m + 49) (pl hm0) B h1054 lm _ q1061) ?_; rintro e w1063 ⟨c1062, rfl, E1064, B⟩; refine rt fun a F => ?_
        as_aux_lemma =>
        replace h901 := h901.ev E1064; replace h939 := h939.ev E1064; replace h717 := h717.ev E1064; replace h719 := h719.ev E1064; replace h723 := h723.ev E1064; replace h727 := h727.ev E1064; replace h743 := h743.ev E1064; replace h758 := h758.ev E1064; replace h769 := h769.ev E1064; replace h780 := h780.ev E1064; replace h790 := h790.ev E1064; replace h933 := h933.ev E1064; replace h891 := h891.ev E1064; replace h894 := h894.ev E1064
        as_aux_lemma =>
        replace h929 := h929.ev E1064; replace h932 := h932.ev E1064; replace h1054 := h1054.ev E1064; replace E := E.n E1064; refine qy F (bfalse hb1059) ?_; refine qv F (r_neq F rfl rfl) fun a F => ?_; refine qv F (r_pick_f F rfl (bfalse hb1059) rfl) fun a F => ?_; refine qm F fun a F => ?_
        by_cases hb1067 : t1060 = 0
        ·replace H := ip hb1067 H; refine qy F (congrArg not (dt hb1067)) ?_; refine qm F fun a F => ?_; obtain ⟨t1068, q1069, H⟩ := bind_some H; refine qy F (congrArg not (dt hb1067)) ?_; refine qc F Try.func18 (table_Table_Rev.calls (m := m + 49) (pl hm0) B h1054 lm _ q1069) ?_; rintro e w1071 ⟨c1070, rfl, E1072, B⟩
         as_aux_lemma =>
         refine rt fun a F => ?_; replace h901 := h901.ev E1072; replace h939 := h939.ev E1072; replace h717 := h717.ev E1072; replace h719 := h719.ev E1072; replace h723 := h723.ev E1072; replace h727 := h727.ev E1072; replace h743 := h743.ev E1072; replace h758 := h758.ev E1072; replace h769 := h769.ev E1072; replace h780 := h780.ev E1072; replace h790 := h790.ev E1072; replace h933 := h933.ev E1072; replace h891 := h891.ev E1072
         as_aux_lemma =>
         replace h894 := h894.ev E1072; replace h929 := h929.ev E1072; replace h932 := h932.ev E1072; replace h1054 := h1054.ev E1072; replace E := E.n E1072; refine qy F (congrArg not (dt hb1067)) ?_; refine qv F (r_neq F rfl rfl) fun a F => ?_; refine qv F (r_pick_f F rfl (congrArg not (dt hb1067)) rfl) fun a F => ?_; refine qm F fun a F => ?_
         by_cases hb1075 : t1068 = 0
         ·replace H := ip hb1075 H; refine qy F (congrArg not (dt hb1075)) ?_; refine qm F fun a F => ?_; obtain ⟨t1076, q1077, H⟩ := bind_some H; refine qy F (congrArg not (dt hb1075)) ?_
          as_aux_lemma =>
          refine qc F Try.func9 (table_Table_Bytes.calls k (m := m + 49) (pl hm0) B h933 lm 0 (pl hm0) _ q1077) ?_; rintro e w1079 ⟨c1078, A1082, C1083, rfl, E1080, B, h1084⟩; refine rt fun a F => ?_; replace h758 := h758.ev E1080; replace E := E.n E1080; refine qy F (congrArg not (dt hb1075)) ?_; refine qm F fun a F => ?_; obtain ⟨t1086, q1087, H⟩ := bind_some H; refine qy F (congrArg not (dt hb1075)) ?_; refine qc F Try.func12 (haulagelaw13_same.calls k (m := m + 49) (pl hm0) B h1084.r h758.r (pl hm0) (pl hm0) _ q1087) ?_; rintro e w1089 ⟨c1088, rfl, E1090, B⟩; refine rt fun a F => ?_; replace h901 := (h901.ev E1080).ev E1090; replace h939 := (h939.ev E1080).ev E1090
          as_aux_lemma =>
          replace h717 := (h717.ev E1080).ev E1090; replace h719 := (h719.ev E1080).ev E1090; replace h723 := (h723.ev E1080).ev E1090; replace h727 := (h727.ev E1080).ev E1090; replace h743 := (h743.ev E1080).ev E1090; replace h758 := h758.ev E1090; replace h769 := (h769.ev E1080).ev E1090; replace h780 := (h780.ev E1080).ev E1090; replace h790 := (h790.ev E1080).ev E1090; replace h933 := (h933.ev E1080).ev E1090; replace h891 := (h891.ev E1080).ev E1090; replace h894 := (h894.ev E1080).ev E1090; replace h929 := (h929.ev E1080).ev E1090; replace h932 := (h932.ev E1080).ev E1090
          as_aux_lemma =>
          replace h1054 := (h1054.ev E1080).ev E1090; replace E := E.n E1090; refine qy F (congrArg not (dt hb1075)) ?_; refine qv F (r_not F rfl) fun a F => ?_; refine qv F (r_pick_f F rfl (congrArg not (dt hb1075)) rfl) fun a F => ?_; refine nil ?_; exact J1094 c1088 w1089 a (!t1086) (F.sub ⟨rfl, rfl, rfl, rfl, rfl, rfl, rfl, rfl, rfl, rfl, rfl, rfl, rfl, rfl, trivial⟩) E B h901 h939 h717 h719 h723 h727 h743 h758 h769 h780 h790 h933 h891 h894 h929 h932 h1054 H
         replace H := im hb1075 H; refine qn F (congrArg not (dz hb1075)) fun a F => qn F (congrArg not (dz hb1075)) fun a F => qn F (congrArg not (dz hb1075)) fun a F => qn F (congrArg not (dz hb1075)) fun a F => qn F (congrArg not (dz hb1075)) fun a F => ?_; refine qv F (r_pick_t F rfl (congrArg not (dz hb1075)) rfl) fun a F => ?_; refine nil ?_; exact J1094 c1070 w1071 a true (F.sub ⟨rfl, rfl, rfl, rfl, rfl, rfl, rfl, rfl, rfl, rfl, rfl, rfl, rfl, rfl, trivial⟩) E B h901 h939 h717 h719 h723 h727 h743 h758 h769 h780 h790 h933 h891 h894 h929 h932 h1054 H
        replace H := im hb1067 H; refine qn F (congrArg not (dz hb1067)) fun a F => qn F (congrArg not (dz hb1067)) fun a F => qn F (congrArg not (dz hb1067)) fun a F => ?_
        as_aux_lemma =>
        refine qv F (r_pick_t F rfl (congrArg not (dz hb1067)) rfl) fun a F => ?_; refine qm F fun a F => qn F rfl fun a F => qn F rfl fun a F => qn F rfl fun a F => qn F rfl fun a F => qn F rfl fun a F => ?_; refine qt F fun a F => ?_; refine nil ?_; exact J1094 c1062 w1063 a true (F.sub ⟨rfl, rfl, rfl, rfl, rfl, rfl, rfl, rfl, rfl, rfl, rfl, rfl, rfl, rfl, trivial⟩) E B h901 h939 h717 h719 h723 h727 h743 h758 h769 h780 h790 h933 h891 h894 h929 h932 h1054 H
       replace H := im hb1058 H; refine qn F (congrArg not (dz hb1058)) fun a F => qn F (congrArg not (dz hb1058)) fun a F => ?_; refine qv F (r_pick_t F rfl (congrArg not (dz hb1058)) rfl) fun a F => ?_; refine qm F fun a F => qn F rfl fun a F => qn F rfl fun a F => qn F rfl fun a F => ?_; refine qt F fun a F => ?_; refine qm F fun a F => qn F rfl fun a F => qn F rfl fun a F => qn F rfl fun a F => ?_; refine qt F fun a F => ?_; refine qm F fun a F => qn F rfl fun a F => qn F rfl fun a F => qn F rfl fun a F => qn F rfl fun a F => qn F rfl fun a F => ?_; refine qt F fun a F => ?_
       as_aux_lemma =>
       refine nil ?_; exact J1094 c1049 w1050 a true (F.sub ⟨rfl, rfl, rfl, rfl, rfl, rfl, rfl, rfl, rfl, rfl, rfl, rfl, rfl, rfl, trivial⟩) E B h901 h939 h717 h719 h723 h727 h743 h758 h769 h780 h790 h933 h891 h894 h929 h932 h1054 H
      refine sr fun K1032 hK1032 => qm F fun a F => ?_; refine qv F (r_lensl F Try.underlying23 rfl) fun a F => ?_; refine qv F (r_gtr F rfl rfl) fun a F => ?_; refine nil (hK1032 _ _ ?_)
      by_cases hb1033 : 2 < (l1027.length : Int)
      ·replace H := ip hb1033 H; refine wct (fb F (dt hb1033)) ?_; refine reg ?_; refine qm F fun a F => ?_; replace H := ifN H; obtain ⟨g1034, H⟩ := H; obtain ⟨A1035, C1036, r1037, h1038⟩ := cut_h (kh := .i64) Try.underlying23 sz_5 h1026 g1034; refine qv F (r_slice (vl := none) (vh := some (.int .i64 2)) (vm := none) F rfl rfl rfl rfl r1037) fun a F => ?_
       as_aux_lemma =>
       refine qa F fun a F => nil ?_; exact J1043 c1029 w1030 a (l1027.take (2 : Int).toNat) A1035 C1036 (F.sub ⟨rfl, rfl, rfl, rfl, rfl, rfl, rfl, rfl, rfl, rfl, rfl, rfl, rfl, trivial⟩) E B h901 h939 h717 h719 h723 h727 h743 h758 h769 h780 h790 h933 h891 h894 h929 h932 h1038 H
      replace H := im hb1033 H; refine wcf (fb F (dz hb1033)) ?_; refine wp_skip ?_; exact J1043 c1029 w1030 a l1027 A802 C803 (F.sub ⟨rfl, rfl, rfl, rfl, rfl, rfl, rfl, rfl, rfl, rfl, rfl, rfl, rfl, trivial⟩) E B h901 h939 h717 h719 h723 h727 h743 h758 h769 h780 h790 h933 h891 h894 h929 h932 h1026 H
     refine loop_fuel (I := fun n a w => ∃ (l993 : List Int) (i994 : Int) (c : Nat → Nat), Fr a 338 [(5, .pointer p28), (6, .slice A721 l720.length C722), (7, .slice A725 l724.length C726), (8, .slice A729 l728.length C730), (15, .slice A741 t735.length C742), (16, .slice A755 t735.length C756), (17, .slice A767 t761.length C768), (18, .slice A778 t772.length C779), (19, .slice A788 t782.length C789), (20, .slice A802 l993.length C803), (21, .pointer p814), (23, .pointer (some qa899)), (25, .pointer (some qa937)), (27, .int .i64 i994)] ∧ Ev (fun x => False ∨ m ≤ x) c0 w0 c w ∧ CB (m + 49) c w ∧ AT true (m + 28) c w qa899 [.bool t883.1.Done, .slice A889 t883.1.Key.length C890, .slice A892 t883.1.Value.length C893, .int .i64 t883.1.Rev, .int .i64 t883.1.At] ∧ AT true (m + 31) c w qa937 [.bool t921.1.Done, .slice A927 t921.1.Key.length C928, .slice A930 t921.1.Value.length C931, .int .i64 t921.1.Rev, .int .i64 t921.1.At] ∧ TB (m + 1) c w p28 o718 ∧ OL KO_api_Answer (m + 12) (m + 13) c w A721 C722 l720 ∧ SL true K_api_Answer (m + 14) 0 c w A725 C726 l724 ∧ SP (Kint .u8) (m + 9) (m + 10) c w A729 C730 l728 0 ∧ SL true (Kint .u8) (m + 15) 0 c w A741 C742 t735 ∧ SL true (Kint .u8) 0 0 c w A755 C756 t735 ∧ SL true (Kint .u8) (m + 17) 0 c w A767 C768 t761 ∧ OL KO_api_Row (m + 18) (m + 19) c w A778 C779 t772 ∧ OL KO_api_Row (m + 20) (m + 21) c w A788 C789 t782 ∧ TB (m + 24) c w p814 t921.2.2 ∧ SL true (Kint .u8) (m + 26) 0 c w A889 C890 t883.1.Key ∧ SL true (Kint .u8) (m + 27) 0 c w A892 C893 t883.1.Value ∧ SL true (Kint .u8) (m + 29) 0 c w A927 C928 t921.1.Key ∧ SL true (Kint .u8) (m + 30) 0 c w A930 C931 t921.1.Value ∧ SL true (Kint .u8) (m + 23) 0 c w A802 C803 l993 ∧ loop (fun (s_ : (List Int) × Int) => haulagelaw13_TableOwn.b13 s_.1 s_.2) n (l993, i994) = some x1004) (k := k) ⟨t735, 0, c957, F.sub ⟨rfl, rfl, rfl, rfl, rfl, rfl, rfl, rfl, rfl, rfl, rfl, rfl, rfl, rfl, trivial⟩, E, B, h901, h939, h717, h719, h723, h727, h743, h758, h769, h780, h790, h933, h891, h894, h929, h932, h805, HL⟩ ?_; clear HL H E F B; intro n1001 X997 hX997 a w996 ⟨l993, i994, c995, F, E, B, h901, h939, h717, h719, h723, h727, h743, h758, h769, h780, h790, h933, h891, h894, h929, h932, h992, HL⟩; obtain ⟨n1002, ctl1000, rfl, HB, HN998, HD999⟩ := loop_some HL; have H : haulagelaw13_TableOwn.b13 l993 i994 = some ctl1000 := HB; clear HB HL; unfold haulagelaw13_TableOwn.b13 at H; refine sq fun K1005 hK1005 => ?_
     as_aux_lemma =>
     refine sr fun K1006 hK1006 => qm F fun a F => qm F fun a F => ?_; refine qv F (r_lensl F Try.underlying23 rfl) fun a F => ?_; refine qv F (r_lss F rfl rfl) fun a F => ?_; refine nil (hK1006 _ _ ?_)
     by_cases hb1007 : i994 < (l993.length : Int)
     ·replace H := ip hb1007 H; refine wct (fb F (dt hb1007)) (wp_skip (hK1005 _ _ ?_)); refine sq fun K1008 hK1008 => ?_; refine wp_block ?_; refine reg ?_; refine qm F fun a F => qm F fun a F => ?_; replace H := ifN H; obtain ⟨g1009, H⟩ := H; obtain ⟨ad1010, cs1011, e1012, h1013, r1014⟩ := SL.at h992 i994 g1009.1 g1009.2; obtain rfl : cs1011 = [.int .u8 (rd l993 i994)] := r1014; obtain ⟨qa1015, qqa1015⟩ : ∃ q, q = (ad1010.add (i994.toNat * 1)) := ⟨_, rfl⟩; have h1013 : AT true (m + 23) c995 w996 qa1015 [.int .u8 (rd l993 i994)] := by rw [qqa1015]; exact h1013
      as_aux_lemma =>
      refine qv F (r_indexAddr' F Try.underlying23 sz_5 rfl rfl g1009.1 g1009.2 e1012 qqa1015) fun a F => ?_; refine q_eff0 F rfl rfl (e_storeel0 (k := (Kint .u8)) F rfl rfl sz_5 h992 g1009.1 g1009.2 e1012 qqa1015 h1013 rfl (nb rfl) rfl 0 rfl ne_zm) ?_; rintro w1017 a ⟨E1018, h992, Z1019⟩ F; replace B := B.size Z1019; replace h901 := h901.ev E1018; replace h939 := h939.ev E1018; replace h717 := h717.ev E1018; replace h719 := h719.ev E1018; replace h723 := h723.ev E1018; replace h727 := h727.ev E1018; replace h743 := h743.ev E1018; replace h758 := h758.ev E1018; replace h769 := h769.ev E1018; replace h780 := h780.ev E1018
      as_aux_lemma =>
      replace h790 := h790.ev E1018; replace h933 := h933.ev E1018; replace h891 := h891.ev E1018; replace h894 := h894.ev E1018; replace h929 := h929.ev E1018; replace h932 := h932.ev E1018; replace E := E.trans E1018 lc1; have hl1020 : l993.length = (l993.set i994.toNat 0).length := by simp
      replace F := F.sub (L' := [(5, .pointer p28), (6, .slice A721 l720.length C722), (7, .slice A725 l724.length C726), (8, .slice A729 l728.length C730), (15, .slice A741 t735.length C742), (16, .slice A755 t735.length C756), (17, .slice A767 t761.length C768), (18, .slice A778 t772.length C779), (19, .slice A788 t782.length C789), (20, .slice A802 (l993.set i994.toNat 0).length C803), (21, .pointer p814), (23, .pointer (some qa899)), (25, .pointer (some qa937)), (27, .int .i64 i994)]) ⟨rfl, rfl, rfl, rfl, rfl, rfl, rfl, rfl, rfl, (by rw [← hl1020]; rfl), rfl, rfl, rfl, rfl, trivial⟩; refine nil (hK1008 _ _ ?_); refine reg ?_; refine qm F fun a F => ?_; refine qv F (r_add F rfl rfl) fun a F => ?_; refine qa F fun a F => nil ?_
      as_aux_lemma =>
      replace H := HN998 _ (si H).symm; exact hX997 _ _ _ (Nat.lt_succ_self _) ⟨(l993.set i994.toNat 0), (IntKind.i64.wrap (i994 + 1)), c995, F.sub ⟨rfl, rfl, rfl, rfl, rfl, rfl, rfl, rfl, rfl, rfl, rfl, rfl, rfl, rfl, trivial⟩, E, B, h901, h939, h717, h719, h723, h727, h743, h758, h769, h780, h790, h933, h891, h894, h929, h932, h992, H⟩
     replace H := im hb1007 H; refine wcf (fb F (dz hb1007)) ?_; refine wp_exit ?_; refine thenE ?_; refine thenE ?_; refine inbE ?_; have hx_ := HD999 _ (si H).symm; have H := HR1003; rw [← hx_] at H; exact J1028 c995 w996 a l993 (F.sub ⟨rfl, rfl, rfl, rfl, rfl, rfl, rfl, rfl, rfl, rfl, rfl, rfl, rfl, trivial⟩) E B h901 h939 h717 h719 h723 h727 h743 h758 h769 h780 h790 h933 h891 h894 h929 h932 h992 H
    refine reg ?_; refine qm F fun a F => qm F fun a F => ?_
    as_aux_lemma =>
    refine qv F (r_neq F rfl rfl) fun a F => ?_; refine qm F fun a F => ?_
    by_cases hb947 : t883.2.1 = t921.2.1
    ·replace H := ip hb947 H; refine qy F (congrArg not (dt hb947)) ?_; refine qv F (r_loads (cs := [.bool t883.1.Done, .slice A889 t883.1.Key.length C890, .slice A892 t883.1.Value.length C893, .int .i64 t883.1.Rev, .int .i64 t883.1.At]) F rfl ag_33 sz_33 h901) fun a F => ?_; refine qy F (congrArg not (dt hb947)) ?_; refine qv F (r_loads (cs := [.bool t921.1.Done, .slice A927 t921.1.Key.length C928, .slice A930 t921.1.Value.length C931, .int .i64 t921.1.Rev, .int .i64 t921.1.At]) F rfl ag_33 sz_33 h939) fun a F => ?_; obtain ⟨t948, q949, H⟩ := bind_some H; refine qy F (congrArg not (dt hb947)) ?_; refine qc F Try.func16 (haulagelaw13_sameAnswer.calls k (m := m + 49) (pl hm0) B h891.r h894.r h929.r h932.r lm lm lm lm _ q949) ?_; rintro e w951 ⟨c950, rfl, E952, B⟩; refine rt fun a F => ?_; replace h717 := h717.ev E952; replace h719 := h719.ev E952
     as_aux_lemma =>
     replace h723 := h723.ev E952; replace h727 := h727.ev E952; replace h743 := h743.ev E952; replace h758 := h758.ev E952; replace h769 := h769.ev E952; replace h780 := h780.ev E952; replace h790 := h790.ev E952; replace h805 := h805.ev E952; replace h891 := h891.ev E952; replace h894 := h894.ev E952; replace h901 := h901.ev E952; replace h929 := h929.ev E952; replace h932 := h932.ev E952; replace h933 := h933.ev E952
     as_aux_lemma =>
     replace h939 := h939.ev E952; replace E := E.n E952; refine qy F (congrArg not (dt hb947)) ?_; refine qv F (r_not F rfl) fun a F => ?_; refine qv F (r_pick_f F rfl (congrArg not (dt hb947)) rfl) fun a F => ?_; refine nil ?_; exact J956 c950 w951 a (!t948) (F.sub ⟨rfl, rfl, rfl, rfl, rfl, rfl, rfl, rfl, rfl, rfl, rfl, rfl, rfl, rfl, trivial⟩) E B h901 h939 h717 h719 h723 h727 h743 h758 h769 h780 h790 h805 h933 h891 h894 h929 h932 H
    replace H := im hb947 H; refine qn F (congrArg not (dz hb947)) fun a F => qn F (congrArg not (dz hb947)) fun a F => qn F (congrArg not (dz hb947)) fun a F => qn F (congrArg not (dz hb947)) fun a F => ?_; refine qv F (r_pick_t F rfl (congrArg not (dz hb947)) rfl) fun a F => ?_; refine nil ?_; exact J956 c935 w942 a true (F.sub ⟨rfl, rfl, rfl, rfl, rfl, rfl, rfl, rfl, rfl, rfl, rfl, rfl, rfl, rfl, trivial⟩) E B h901 h939 h717 h719 h723 h727 h743 h758 h769 h780 h790 h805 h933 h891 h894 h929 h932 H
   refine reg ?_; refine qm F fun a F => ?_
   as_aux_lemma =>
   refine qv F (r_neq F rfl rfl) fun a F => ?_; refine qm F fun a F => ?_
   by_cases hb819 : t808.2 = 0
   ·replace H := ip hb819 H; refine qy F (congrArg not (dt hb819)) ?_; refine qm F fun a F => ?_; refine qy F (congrArg not (dt hb819)) ?_; refine qv F (r_peqlA F Try.underlying25 rfl rfl (TB.isNone h815)) fun a F => ?_; refine qv F (r_pick_f F rfl (congrArg not (dt hb819)) rfl) fun a F => ?_; refine qm F fun a F => ?_
    by_cases hb820 : (Option.isNone t808.1) = true
    ·replace H := ip hb820 H; refine qn F hb820 fun a F => qn F hb820 fun a F => qn F hb820 fun a F => qn F hb820 fun a F => ?_; refine qv F (r_pick_t F rfl hb820 rfl) fun a F => ?_; refine qm F fun a F => qn F rfl fun a F => qn F rfl fun a F => qn F rfl fun a F => qn F rfl fun a F => ?_; refine qt F fun a F => ?_
     as_aux_lemma =>
     refine qm F fun a F => qn F rfl fun a F => qn F rfl fun a F => qn F rfl fun a F => qn F rfl fun a F => qn F rfl fun a F => qn F rfl fun a F => ?_; refine qt F fun a F => ?_; refine nil ?_; exact J864 c810 w811 a true (F.sub ⟨rfl, rfl, rfl, rfl, rfl, rfl, rfl, rfl, rfl, rfl, rfl, rfl, rfl, trivial⟩) E B h8 h717 h719 h723 h727 h743 h758 h769 h780 h790 h805 h815 H
    replace H := im hb820 H; refine qy F (bfalse hb820) ?_; refine qm F fun a F => ?_; refine qy F (bfalse hb820) ?_; refine qm F fun a F => ?_; obtain ⟨t821, q822, H⟩ := bind_some H; refine qy F (bfalse hb820) ?_; refine qc F Try.func12 (haulagelaw13_same.calls k (m := m + 49) (pl hm0) B h769.r h758.r lm (pl hm0) _ q822) ?_; rintro e w824 ⟨c823, rfl, E825, B⟩; refine rt fun a F => ?_
    as_aux_lemma =>
    replace h4 := h4.ev E825; replace h8 := h8.ev E825; replace h717 := h717.ev E825; replace h719 := h719.ev E825; replace h723 := h723.ev E825; replace h727 := h727.ev E825; replace h743 := h743.ev E825; replace h758 := h758.ev E825; replace h769 := h769.ev E825; replace h780 := h780.ev E825; replace h790 := h790.ev E825; replace h805 := h805.ev E825; replace h815 := h815.ev E825; replace E := E.n E825
    as_aux_lemma =>
    refine qy F (bfalse hb820) ?_; refine qv F (r_not F rfl) fun a F => ?_; refine qv F (r_pick_f F rfl (bfalse hb820) rfl) fun a F => ?_; refine qm F fun a F => ?_
    by_cases hb828 : t821 = true
    ·replace H := ip hb828 H; refine qy F (congrArg not hb828) ?_; refine qm F fun a F => ?_; refine qy F (congrArg not hb828) ?_; refine qm F fun a F => ?_; obtain ⟨t829, q830, H⟩ := bind_some H; refine qy F (congrArg not hb828) ?_; refine qc F Try.func13 (haulagelaw13_sameRows.calls k (m := m + 49) (pl hm0) B (OL.view h780 rfl KO_api_Row.v) (OL.view h790 rfl KO_api_Row.v) lm lm lm lm _ q830) ?_; rintro e w832 ⟨c831, rfl, E833, B⟩; refine rt fun a F => ?_
     as_aux_lemma =>
     replace h4 := h4.ev E833; replace h8 := h8.ev E833; replace h717 := h717.ev E833; replace h719 := h719.ev E833; replace h723 := h723.ev E833; replace h727 := h727.ev E833; replace h743 := h743.ev E833; replace h758 := h758.ev E833; replace h769 := h769.ev E833; replace h780 := h780.ev E833; replace h790 := h790.ev E833; replace h805 := h805.ev E833; replace h815 := h815.ev E833; replace E := E.n E833
     as_aux_lemma =>
     refine qy F (congrArg not hb828) ?_; refine qv F (r_not F rfl) fun a F => ?_; refine qv F (r_pick_f F rfl (congrArg not hb828) rfl) fun a F => ?_; refine qm F fun a F => ?_
     by_cases hb836 : t829 = true
     ·replace H := ip hb836 H; refine qy F (congrArg not hb836) ?_; refine qm F fun a F => ?_; refine qy F (congrArg not hb836) ?_; refine qm F fun a F => ?_; obtain ⟨t837, q838, H⟩ := bind_some H; refine qy F (congrArg not hb836) ?_; refine qc F Try.func14 (haulagelaw13_made.calls k (m := m + 49) (pl hm0) B h4 (m + 25) lm _ q838) ?_; rintro e w840 ⟨c839, p843, rfl, E841, B, h844⟩; refine rt fun a F => ?_
      as_aux_lemma =>
      replace E := E.n E841; obtain ⟨t846, q847, H⟩ := bind_some H; refine qy F (congrArg not hb836) ?_; refine qc F Try.func9 (table_Table_Bytes.calls k (m := m + 49) (pl hm0) B h844 lm 0 (pl hm0) _ q847) ?_; rintro e w849 ⟨c848, A852, C853, rfl, E850, B, h854⟩; refine rt fun a F => ?_; replace h743 := (h743.ev E841).ev E850; replace E := E.n E850; obtain ⟨t856, q857, H⟩ := bind_some H; refine qy F (congrArg not hb836) ?_; refine qc F Try.func12 (haulagelaw13_same.calls k (m := m + 49) (pl hm0) B h743.r h854.r lm (pl hm0) _ q857) ?_; rintro e w859 ⟨c858, rfl, E860, B⟩; refine rt fun a F => ?_; replace h8 := ((h8.ev E841).ev E850).ev E860
      as_aux_lemma =>
      replace h717 := ((h717.ev E841).ev E850).ev E860; replace h719 := ((h719.ev E841).ev E850).ev E860; replace h723 := ((h723.ev E841).ev E850).ev E860; replace h727 := ((h727.ev E841).ev E850).ev E860; replace h743 := h743.ev E860; replace h758 := ((h758.ev E841).ev E850).ev E860; replace h769 := ((h769.ev E841).ev E850).ev E860; replace h780 := ((h780.ev E841).ev E850).ev E860; replace h790 := ((h790.ev E841).ev E850).ev E860; replace h805 := ((h805.ev E841).ev E850).ev E860; replace h815 := ((h815.ev E841).ev E850).ev E860; replace E := E.n E860; refine qy F (congrArg not hb836) ?_; refine qv F (r_not F rfl) fun a F => ?_
      as_aux_lemma =>
      refine qv F (r_pick_f F rfl (congrArg not hb836) rfl) fun a F => ?_; refine nil ?_; exact J864 c858 w859 a (!t856) (F.sub ⟨rfl, rfl, rfl, rfl, rfl, rfl, rfl, rfl, rfl, rfl, rfl, rfl, rfl, trivial⟩) E B h8 h717 h719 h723 h727 h743 h758 h769 h780 h790 h805 h815 H
     replace H := im hb836 H; refine qn F (congrArg not (bfalse hb836)) fun a F => qn F (congrArg not (bfalse hb836)) fun a F => qn F (congrArg not (bfalse hb836)) fun a F => qn F (congrArg not (bfalse hb836)) fun a F => qn F (congrArg not (bfalse hb836)) fun a F => qn F (congrArg not (bfalse hb836)) fun a F => ?_; refine qv F (r_pick_t F rfl (congrArg not (bfalse hb836)) rfl) fun a F => ?_; refine nil ?_; exact J864 c831 w832 a true (F.sub ⟨rfl, rfl, rfl, rfl, rfl, rfl, rfl, rfl, rfl, rfl, rfl, rfl, rfl, trivial⟩) E B h8 h717 h719 h723 h727 h743 h758 h769 h780 h790 h805 h815 H
    replace H := im hb828 H; refine qn F (congrArg not (bfalse hb828)) fun a F => qn F (congrArg not (bfalse hb828)) fun a F => qn F (congrArg not (bfalse hb828)) fun a F => qn F (congrArg not (bfalse hb828)) fun a F => ?_; refine qv F (r_pick_t F rfl (congrArg not (bfalse hb828)) rfl) fun a F => ?_; refine qm F fun a F => qn F rfl fun a F => qn F rfl fun a F => qn F rfl fun a F => qn F rfl fun a F => qn F rfl fun a F => qn F rfl fun a F => ?_; refine qt F fun a F => ?_; refine nil ?_; exact J864 c823 w824 a true (F.sub ⟨rfl, rfl, rfl, rfl, rfl, rfl, rfl, rfl, rfl, rfl, rfl, rfl, rfl, trivial⟩) E B h8 h717 h719 h723 h727 h743 h758 h769 h780 h790 h805 h815 H
   as_aux_lemma =>
   replace H := im hb819 H; refine qn F (congrArg not (dz hb819)) fun a F => qn F (congrArg not (dz hb819)) fun a F => ?_; refine qv F (r_pick_t F rfl (congrArg not (dz hb819)) rfl) fun a F => ?_; refine qm F fun a F => qn F rfl fun a F => qn F rfl fun a F => qn F rfl fun a F => qn F rfl fun a F => ?_; refine qt F fun a F => ?_; refine qm F fun a F => qn F rfl fun a F => qn F rfl fun a F => qn F rfl fun a F => qn F rfl fun a F => ?_; refine qt F fun a F => ?_; refine qm F fun a F => qn F rfl fun a F => qn F rfl fun a F => qn F rfl fun a F => qn F rfl fun a F => qn F rfl fun a F => qn F rfl fun a F => ?_; refine qt F fun a F => ?_; refine nil ?_; exact J864 c810 w811 a true (F.sub ⟨rfl, rfl, rfl, rfl, rfl, rfl, rfl, rfl, rfl, rfl, rfl, rfl, rfl, trivial⟩) E B h8 h717 h719 h723 h727 h743 h758 h769 h780 h790 h805 h815 H
  refine loop_fuel (I := fun n a w => ∃ (o370 : Option Tab) (l371 : List api_Answer) (A372 : Option Addr) (C373 : Nat) (l375 : List api_Answer) (A376 : Option Addr) (C377 : Nat) (l379 : List (List Int)) (A380 : Option Addr) (C381 : Nat) (i383 : Int) (c : Nat → Nat), Fr a 338 [(0, .slice A2 a1.length C3), (1, .slice A6 a5.length C7), (5, .pointer p28), (6, .slice A372 l371.length C373), (7, .slice A376 l375.length C377), (8, .slice A380 l379.length C381), (9, .int .i64 i383)] ∧ Ev (fun x => False ∨ m ≤ x) c0 w0 c w ∧ CB (m + 49) c w ∧ SL false K_api_Op 0 0 c w A2 C3 a1 ∧ SL false (Kint .u8) 0 0 c w A6 C7 a5 ∧ TB (m + 1) c w p28 o370 ∧ OL KO_api_Answer (m + 12) (m + 13) c w A372 C373 l371 ∧ SL true K_api_Answer (m + 14) 0 c w A376 C377 l375 ∧ SP (Kint .u8) (m + 9) (m + 10) c w A380 C381 l379 0 ∧ loop (fun (s_ : (Option Tab) × (List api_Answer) × (List api_Answer) × (List (List Int)) × Int) => haulagelaw13_TableOwn.b9 k a1 s_.1 s_.2.1 s_.2.2.1 s_.2.2.2.1 s_.2.2.2.2) n (o370, l371, l375, l379, i383) = some x393) (k := k) ⟨t22, [], none, 0, [], none, 0, [], none, 0, 0, c24, F.sub ⟨rfl, rfl, rfl, rfl, rfl, rfl, rfl, trivial⟩, E, B, h4, h8, h29, (OL.nil (pl hm0)), SL.nil, (SP.nil (pl hm0)), HL⟩ ?_; clear HL H E F B; intro n390 X386 hX386 a w385 ⟨o370, l371, A372, C373, l375, A376, C377, l379, A380, C381, i383, c384, F, E, B, h4, h8, h369, h374, h378, h382, HL⟩; obtain ⟨n391, ctl389, rfl, HB, HN387, HD388⟩ := loop_some HL; have H : haulagelaw13_TableOwn.b9 k a1 o370 l371 l375 l379 i383 = some ctl389 := HB; clear HB HL; unfold haulagelaw13_TableOwn.b9 at H
  as_aux_lemma =>
  refine sq fun K394 hK394 => ?_; refine sr fun K395 hK395 => qm F fun a F => qm F fun a F => ?_; refine qv F (r_lensl F Try.underlying22 rfl) fun a F => ?_; refine qv F (r_lss F rfl rfl) fun a F => ?_; refine nil (hK395 _ _ ?_)
  by_cases hb396 : i383 < (a1.length : Int)
  ·replace H := ip hb396 H; refine wct (fb F (dt hb396)) (wp_skip (hK394 _ _ ?_)); refine sq fun K397 hK397 => ?_; refine wp_block ?_; refine sr fun K398 hK398 => qm F fun a F => qm F fun a F => ?_; replace H := ifN H; obtain ⟨g399, H⟩ := H; obtain ⟨ad400, cs401, e402, h403, r404⟩ := SL.at h4 i383 g399.1 g399.2; obtain ⟨A405, C406, A408, C409, rfl, h407, h410⟩ := r404
   as_aux_lemma =>
   replace h407 := SL.fl (i' := 0) h407 (fun q => q); replace h410 := SL.fl (i' := 0) h410 (fun q => q); obtain ⟨qa411, qqa411⟩ : ∃ q, q = (ad400.add (i383.toNat * 4)) := ⟨_, rfl⟩; have h403 : AT false 0 c384 w385 qa411 [.int .i64 ((rd a1 i383).Kind), .slice A405 ((rd a1 i383).Key).length C406, .slice A408 ((rd a1 i383).Value).length C409, .int .i64 ((rd a1 i383).Rev)] := by rw [qqa411]; exact h403
   refine qv F (r_indexAddr' F Try.underlying22 sz_30 rfl rfl g399.1 g399.2 e402 qqa411) fun a F => ?_; refine qv F (r_loads (cs := [.int .i64 ((rd a1 i383).Kind), .slice A405 ((rd a1 i383).Key).length C406, .slice A408 ((rd a1 i383).Value).length C409, .int .i64 ((rd a1 i383).Rev)]) F rfl ag_30 sz_30 h403) fun a F => ?_; obtain ⟨t65, q66, H⟩ := bind_some H; refine qc F Try.func6 (haulagelaw13_lentOp.calls (m := m + 49) (pl hm0) B h407 h410 (pl hm0) (pl hm0) (m + 2) lm (m + 3) lm _ q66) ?_; rintro e w414 ⟨c413, A417, C418, A420, C421, rfl, E415, B, h419, h422⟩; refine rt fun a F => ?_; replace E := E.n E415; refine q_eff F rfl rfl (by decide) (e_alloc F zv_30 c413 (m + 4)) ?_; rintro v w425 a ⟨c424, qa80, rfl, E426, h82, B427⟩ F; replace B := B427 _ B lm
   as_aux_lemma =>
   replace E := E.n E426; replace h82 : AT _ _ _ _ _ [.int .i64 0, .slice none 0 0, .slice none 0 0, .int .i64 0] := h82; refine q_eff0 F rfl rfl (e_storeN0 (us := [.int .i64 t65.Kind, .slice A417 t65.Key.length C418, .slice A420 t65.Value.length C421, .int .i64 t65.Rev]) F rfl rfl sz_30 h82 (nb rfl) (one_all rfl)) ?_; rintro w428 a ⟨E429, h82, Z430⟩ F; replace B := B.size Z430; replace h369 := ((h369.ev E415).ev E426).ev E429; replace h419 := (h419.ev E426).ev E429; replace h422 := (h422.ev E426).ev E429; replace E := E.trans E429 lc1; replace h82 : AT _ _ _ _ _ [.int .i64 t65.Kind, .slice A417 t65.Key.length C418, .slice A420 t65.Value.length C421, .int .i64 t65.Rev] := h82; refine nil (hK398 _ _ ?_); replace F : Fr a 338 [(0, .slice A2 a1.length C3), (1, .slice A6 a5.length C7), (5, .pointer p28), (6, .slice A372 l371.length C373), (7, .slice A376 l375.length C377), (8, .slice A380 l379.length C381), (9, .int .i64 i383), (10, .pointer (some qa80))] := F.sub ⟨rfl, rfl, rfl, rfl, rfl, rfl, rfl, rfl, trivial⟩; refine sr fun K431 hK431 => qm F fun a F => ?_; refine qv F (r_loads (cs := [.int .i64 t65.Kind, .slice A417 t65.Key.length C418, .slice A420 t65.Value.length C421, .int .i64 t65.Rev]) F rfl ag_30 sz_30 h82) fun a F => ?_; obtain ⟨t89, q90, H⟩ := bind_some H
   as_aux_lemma =>
   refine qc F Try.func7 (table_Table_Do.calls k (m := m + 49) (pl hm0) B h369 (SLM.v h419).r (SLM.v h422).r ⟨(pl hm0), lm⟩ ⟨lm, mm⟩ ⟨lm, mm⟩ (m + 5) lm (m + 6) lm _ q90) ?_; rintro e w433 ⟨c432, A436, C437, A439, C440, rfl, E434, B, h438, h441, h442⟩; refine rt fun a F => ?_; replace E := E.trans E434 lc1; refine qm F fun a F => ?_; refine qx F fun a F => ?_; refine qx F fun a F => ?_; refine q_eff F rfl rfl (by decide) (e_alloc F zv_33 c432 (m + 7)) ?_; rintro v w445 a ⟨c444, qa105, rfl, E446, h107, B447⟩ F; replace B := B447 _ B lm; replace E := E.n E446; replace h107 : AT _ _ _ _ _ [.bool false, .slice none 0 0, .slice none 0 0, .int .i64 0, .int .i64 0] := h107; refine q_eff0 F rfl rfl (e_storeN0 (us := [.bool t89.1.Done, .slice A436 t89.1.Key.length C437, .slice A439 t89.1.Value.length C440, .int .i64 t89.1.Rev, .int .i64 t89.1.At]) F rfl rfl sz_33 h107 (nb rfl) (one_all rfl)) ?_; rintro w448 a ⟨E449, h107, Z450⟩ F
   as_aux_lemma =>
   replace B := B.size Z450; replace h82 := ((h82.ev E434).ev E446).ev E449; replace E := E.trans E449 lc1; replace h107 : AT _ _ _ _ _ [.bool t89.1.Done, .slice A436 t89.1.Key.length C437, .slice A439 t89.1.Value.length C440, .int .i64 t89.1.Rev, .int .i64 t89.1.At] := h107; refine qa F fun a F => nil (hK431 _ _ ?_); refine sr fun K451 hK451 => qm F fun a F => qf F ff_30_1 fun a F => ?_; refine ql F ag_23 h82 fun a F => ?_; refine qf F ff_30_2 fun a F => ?_; refine ql F ag_23 h82 fun a F => ?_; refine q_eff F rfl rfl (by decide) (e_buildSlice (n := 2) (e := 23) (c := c444) (k := Kval) (i := 0) F [(0, .slice A417 t65.Key.length C418), (1, .slice A420 t65.Value.length C421)] [.slice A417 t65.Key.length C418, .slice A420 t65.Value.length C421] ([.slice A417 t65.Key.length C418, .slice A420 t65.Value.length C421] : List Value) (by exact ⟨rfl, rfl, rfl, rfl, trivial⟩) (fun w => by kernel_rfl) rfl (by decide) rfl ⟨⟨rfl, rfl⟩, ⟨rfl, rfl⟩, trivial⟩ (fun q => q) (m + 8)) ?_; rintro v w453 a ⟨c452, A454, C455, rfl, E456, h457, B458⟩ F; replace B := B458 _ B lm; replace h382 := ((((((h382.ev E415).ev E426).ev E429).ev E434).ev E446).ev E449).ev E456; replace E := E.n E456
   as_aux_lemma =>
   replace H := ifN H; obtain ⟨g121, H⟩ := H; refine q_eff F rfl rfl (by decide) (e_appendPS (e := (Kint .u8)) (xss := l379) (ps := [t65.Key, t65.Value]) (c := c452) (j := (m + 9)) (y0 := (m + 10)) F et_28 rfl rfl h382 h457 rfl g121 (len_ok g121) (pl hm0) mm) ?_; rintro v w461 a ⟨c460, A462, C463, rfl, E464, h465, B466⟩ F; replace B := B466 _ B lm; replace h107 := (h107.ev E456).ev E464; replace E := E.trans E464 lc1; refine qa F fun a F => nil (hK451 _ _ ?_); replace F : Fr a 338 [(0, .slice A2 a1.length C3), (1, .slice A6 a5.length C7), (5, .pointer p28), (6, .slice A372 l371.length C373), (7, .slice A376 l375.length C377), (8, .slice A462 (l379 ++ [t65.Key, t65.Value]).length C463), (9, .int .i64 i383), (10, .pointer (some qa80)), (11, .pointer (some qa105))] := F.sub ⟨rfl, rfl, rfl, rfl, rfl, rfl, rfl, rfl, rfl, trivial⟩; refine sr fun K467 hK467 => qm F fun a F => ?_; refine qv F (r_loads (cs := [.bool t89.1.Done, .slice A436 t89.1.Key.length C437, .slice A439 t89.1.Value.length C440, .int .i64 t89.1.Rev, .int .i64 t89.1.At]) F rfl ag_33 sz_33 h107) fun a F => ?_; refine q_eff F rfl rfl (by decide) (e_buildSlice (n := 1) (e := 33) (c := c460) (k := Kraw KO_api_Answer.sz KO_api_Answer.pos) (i := 0) F [(0, .agg #[.bool t89.1.Done, .slice A436 t89.1.Key.length C437, .slice A439 t89.1.Value.length C440, .int .i64 t89.1.Rev, .int .i64 t89.1.At])] [.bool t89.1.Done, .slice A436 t89.1.Key.length C437, .slice A439 t89.1.Value.length C440, .int .i64 t89.1.Rev, .int .i64 t89.1.At] ([[.bool t89.1.Done, .slice A436 t89.1.Key.length C437, .slice A439 t89.1.Value.length C440, .int .i64 t89.1.Rev, .int .i64 t89.1.At]] : List (List Value)) (by exact ⟨rfl, rfl, trivial⟩) (fun w => by kernel_rfl) rfl (by decide) rfl ⟨⟨rfl, rfl, one_all rfl⟩, trivial⟩ (fun q => q) (m + 11)) ?_; rintro v w469 a ⟨c468, A470, C471, rfl, E472, h473, B474⟩ F; replace B := B474 _ B lm
   as_aux_lemma =>
   replace h374 := ((((((((h374.ev E415).ev E426).ev E429).ev E434).ev E446).ev E449).ev E456).ev E464).ev E472; replace E := E.n E472; replace H := ifN H; obtain ⟨g138, H⟩ := H; refine q_eff F rfl rfl (by decide) (e_appendPO (e := KO_api_Answer) (xs := l371) (ps := [t89.1]) (c := c468) (j := (m + 12)) (y0 := (m + 13)) F et_27 rfl rfl h374 h473 rfl g138 (len_ok g138) (pl hm0) mm) ?_; rintro v w477 a ⟨c476, A478, C479, rfl, E480, h481, B482⟩ F; replace B := B482 _ B lm; replace h438 := (((((h438.ev E446).ev E449).ev E456).ev E464).ev E472).ev E480; replace h441 := (((((h441.ev E446).ev E449).ev E456).ev E464).ev E472).ev E480; replace h107 := (h107.ev E472).ev E480; replace E := E.trans E480 lc1; refine qa F fun a F => nil (hK467 _ _ ?_); refine sr fun K483 hK483 => qm F fun a F => ?_; refine qv F (r_loads (cs := [.bool t89.1.Done, .slice A436 t89.1.Key.length C437, .slice A439 t89.1.Value.length C440, .int .i64 t89.1.Rev, .int .i64 t89.1.At]) F rfl ag_33 sz_33 h107) fun a F => ?_; obtain ⟨t148, q149, H⟩ := bind_some H
   as_aux_lemma =>
   refine qc F Try.func8 (haulagelaw13_copyOf.calls (m := m + 49) (pl hm0) B h438.r h441.r lm lm 0 (pl hm0) 0 (pl hm0) _ q149) ?_; rintro e w485 ⟨c484, A488, C489, A491, C492, rfl, E486, B, h490, h493⟩; refine rt fun a F => ?_; replace E := E.n E486; refine q_eff F rfl rfl (by decide) (e_buildSlice (n := 1) (e := 33) (c := c484) (k := K_api_Answer) (i := 0) F [(0, .agg #[.bool t148.Done, .slice A488 t148.Key.length C489, .slice A491 t148.Value.length C492, .int .i64 t148.Rev, .int .i64 t148.At])] [.bool t148.Done, .slice A488 t148.Key.length C489, .slice A491 t148.Value.length C492, .int .i64 t148.Rev, .int .i64 t148.At] ([t148] : List api_Answer) (by exact ⟨rfl, rfl, trivial⟩) (fun w => by kernel_rfl) rfl (by decide) rfl ⟨⟨A488, C489, A491, C492, rfl, (SL.fl h490.r (fun q => q)), (SL.fl h493.r (fun q => q))⟩, trivial⟩ (fun q => q) 0) ?_; rintro v w496 a ⟨c495, A497, C498, rfl, E499, h500, B501⟩ F; replace B := B501 _ B (pl hm0); replace h378 := (((((((((((h378.ev E415).ev E426).ev E429).ev E434).ev E446).ev E449).ev E456).ev E464).ev E472).ev E480).ev E486).ev E499; replace E := E.n E499; replace H := ifN H; obtain ⟨g168, H⟩ := H; refine q_eff F rfl rfl (by decide) (e_append (k := K_api_Answer) (xs := l375) (ys := [t148]) (c := c495) (j := (m + 14)) (i := 0) F et_27 rfl rfl h378 h500 g168 (len_ok g168) ne_zm) ?_; rintro v w503 a ⟨c502, A504, C505, rfl, E506, h507, B508⟩ F; replace B := B508 _ B lm
   as_aux_lemma =>
   replace h4 := ((((((((((((h4.ev E415).ev E426).ev E429).ev E434).ev E446).ev E449).ev E456).ev E464).ev E472).ev E480).ev E486).ev E499).ev E506; replace h8 := ((((((((((((h8.ev E415).ev E426).ev E429).ev E434).ev E446).ev E449).ev E456).ev E464).ev E472).ev E480).ev E486).ev E499).ev E506; replace h419 := (((((((((h419.ev E434).ev E446).ev E449).ev E456).ev E464).ev E472).ev E480).ev E486).ev E499).ev E506; replace h422 := (((((((((h422.ev E434).ev E446).ev E449).ev E456).ev E464).ev E472).ev E480).ev E486).ev E499).ev E506; replace h82 := ((((((h82.ev E456).ev E464).ev E472).ev E480).ev E486).ev E499).ev E506; replace h438 := ((h438.ev E486).ev E499).ev E506; replace h441 := ((h441.ev E486).ev E499).ev E506; replace h442 := ((((((((h442.ev E446).ev E449).ev E456).ev E464).ev E472).ev E480).ev E486).ev E499).ev E506; replace h107 := ((h107.ev E486).ev E499).ev E506; replace h465 := ((((h465.ev E472).ev E480).ev E486).ev E499).ev E506; replace h481 := ((h481.ev E486).ev E499).ev E506; replace E := E.trans E506 lc1; refine qa F fun a F => nil (hK483 _ _ ?_); replace F : Fr a 338 [(0, .slice A2 a1.length C3), (1, .slice A6 a5.length C7), (5, .pointer p28), (6, .slice A478 (l371 ++ [t89.1]).length C479), (7, .slice A504 (l375 ++ [t148]).length C505), (8, .slice A462 (l379 ++ [t65.Key, t65.Value]).length C463), (9, .int .i64 i383), (10, .pointer (some qa80))] := F.sub ⟨rfl, rfl, rfl, rfl, rfl, rfl, rfl, rfl, trivial⟩
   as_aux_lemma =>
   refine sq fun K509 hK509 => ?_; refine sr fun K510 hK510 => qa F fun a F => nil (hK510 _ _ ?_); refine wp_block ?_; obtain ⟨x562, HL, HR561⟩ := bind_some H; have J596 : ∀ (c597 : Nat → Nat) (w598 : World) (a : Act) (l595 : List Int), Fr a 338 [(0, .slice A2 a1.length C3), (1, .slice A6 a5.length C7), (5, .pointer p28), (6, .slice A478 (l371 ++ [t89.1]).length C479), (7, .slice A504 (l375 ++ [t148]).length C505), (8, .slice A462 (l379 ++ [t65.Key, t65.Value]).length C463), (9, .int .i64 i383), (10, .pointer (some qa80))] → Ev (fun x => False ∨ m ≤ x) c0 w0 c597 w598 → CB (m + 49) c597 w598 → AT true (m + 4) c597 w598 qa80 [.int .i64 t65.Kind, .slice A417 l595.length C418, .slice A420 t65.Value.length C421, .int .i64 t65.Rev] → AT true (m + 7) c597 w598 qa105 [.bool t89.1.Done, .slice A436 t89.1.Key.length C437, .slice A439 t89.1.Value.length C440, .int .i64 t89.1.Rev, .int .i64 t89.1.At] → SL false K_api_Op 0 0 c597 w598 A2 C3 a1 → SL false (Kint .u8) 0 0 c597 w598 A6 C7 a5 → TB (m + 1) c597 w598 p28 t89.2.2 → OLp KO_api_Answer (m + 12) (m + 13) c597 w598 A478 C479 l371 [[.bool t89.1.Done, .slice A436 t89.1.Key.length C437, .slice A439 t89.1.Value.length C440, .int .i64 t89.1.Rev, .int .i64 t89.1.At]] → SL true K_api_Answer (m + 14) 0 c597 w598 A504 C505 (l375 ++ [t148]) → SPp (Kint .u8) (m + 9) (m + 10) c597 w598 A462 C463 l379 [.slice A417 t65.Key.length C418, .slice A420 t65.Value.length C421] → SL true (Kint .u8) (m + 3) 0 c597 w598 A420 C421 (t65.Value ++ [201, 77]) → SL true (Kint .u8) (m + 5) 0 c597 w598 A436 C437 t89.1.Key → SL true (Kint .u8) (m + 6) 0 c597 w598 A439 C440 t89.1.Value → SL true (Kint .u8) (m + 2) 0 c597 w598 A417 C418 l595 → haulagelaw13_TableOwn.j6 k t65 t89 t148 l371 l375 l379 i383 l595 = some ctl389 → K509 a w598 := by
    intro c597 w598 a l595 F E B h82 h107 h4 h8 h442 h481 h507 h465 h422 h438 h441 h594 H; unfold haulagelaw13_TableOwn.j6 at H; refine hK509 _ _ ?_; refine sr fun K599 hK599 => qa F fun a F => nil (hK599 _ _ ?_); refine wp_block ?_; obtain ⟨x651, HL, HR650⟩ := bind_some H; have J685 : ∀ (c686 : Nat → Nat) (w687 : World) (a : Act) (l684 : List Int), Fr a 338 [(0, .slice A2 a1.length C3), (1, .slice A6 a5.length C7), (5, .pointer p28), (6, .slice A478 (l371 ++ [t89.1]).length C479), (7, .slice A504 (l375 ++ [t148]).length C505), (8, .slice A462 (l379 ++ [t65.Key, t65.Value]).length C463), (9, .int .i64 i383)] → Ev (fun x => False ∨ m ≤ x) c0 w0 c686 w687 → CB (m + 49) c686 w687 → SL false K_api_Op 0 0 c686 w687 A2 C3 a1 → SL false (Kint .u8) 0 0 c686 w687 A6 C7 a5 → TB (m + 1) c686 w687 p28 t89.2.2 → OLp KO_api_Answer (m + 12) (m + 13) c686 w687 A478 C479 l371 [[.bool t89.1.Done, .slice A436 t89.1.Key.length C437, .slice A439 t89.1.Value.length C440, .int .i64 t89.1.Rev, .int .i64 t89.1.At]] → SL true K_api_Answer (m + 14) 0 c686 w687 A504 C505 (l375 ++ [t148]) → SPp (Kint .u8) (m + 9) (m + 10) c686 w687 A462 C463 l379 [.slice A417 t65.Key.length C418, .slice A420 t65.Value.length C421] → SL true (Kint .u8) (m + 2) 0 c686 w687 A417 C418 l595 → SL true (Kint .u8) (m + 5) 0 c686 w687 A436 C437 t89.1.Key → SL true (Kint .u8) (m + 6) 0 c686 w687 A439 C440 t89.1.Value → SL true (Kint .u8) (m + 3) 0 c686 w687 A420 C421 l684 → haulagelaw13_TableOwn.j8 t65 t89 t148 l371 l375 l379 i383 l595 l684 = some ctl389 → K397 a w687 := by
     intro c686 w687 a l684 F E B h4 h8 h442 h481 h507 h465 h594 h438 h441 h683 H; unfold haulagelaw13_TableOwn.j8 at H
     as_aux_lemma =>
     refine hK397 _ _ ?_; obtain ⟨c688, e689, e690, h481⟩ := OLp.push (p := t89.1) (zs := [m + 5, m + 6]) h481 ⟨A436, C437, A439, C440, rfl, h438, h441⟩ rfl ⟨⟨mm, (pl hm0)⟩, ⟨mm, (pl hm0)⟩, trivial⟩ ⟨⟨mm, trivial⟩, trivial, trivial⟩ ⟨mm, mm, trivial⟩ ⟨ne_zm, ne_zm, trivial⟩; replace h4 := SL.rc h4 (rn e689 ⟨ne_zm, ne_zm, trivial⟩) (rn e689 ⟨ne_zm, ne_zm, trivial⟩); replace h8 := SL.rc h8 (rn e689 ⟨ne_zm, ne_zm, trivial⟩) (rn e689 ⟨ne_zm, ne_zm, trivial⟩); replace h442 := TB.rc h442 (rn e689 ⟨mm, mm, trivial⟩) (rn e689 ⟨ne_zm, ne_zm, trivial⟩); replace h507 := SL.rc h507 (rn e689 ⟨mm, mm, trivial⟩) (rn e689 ⟨ne_zm, ne_zm, trivial⟩); replace h465 := SPp.rc h465 (rn e689 ⟨mm, mm, trivial⟩) (rn e689 ⟨mm, mm, trivial⟩) (rn e689 ⟨ne_zm, ne_zm, trivial⟩) (pl hm0); replace h594 := SL.rc h594 (rn e689 ⟨mm, mm, trivial⟩) (rn e689 ⟨ne_zm, ne_zm, trivial⟩); replace h683 := SL.rc h683 (rn e689 ⟨mm, mm, trivial⟩) (rn e689 ⟨ne_zm, ne_zm, trivial⟩); replace E := E.rn B0 e689; replace B := B.rk e690 lm; replace h481 := OLp.fin h481; have hl691 : (l371 ++ [t89.1]).length = (l371 ++ [t89.1]).length := by simp
     replace F := F.sub (L' := [(0, .slice A2 a1.length C3), (1, .slice A6 a5.length C7), (5, .pointer p28), (6, .slice A478 (l371 ++ [t89.1]).length C479), (7, .slice A504 (l375 ++ [t148]).length C505), (8, .slice A462 (l379 ++ [t65.Key, t65.Value]).length C463), (9, .int .i64 i383)]) ⟨rfl, rfl, rfl, (by rw [← hl691]; rfl), rfl, rfl, rfl, trivial⟩
     as_aux_lemma =>
     replace H := ifN H; obtain ⟨g695, H⟩ := H; obtain ⟨c692, e693, e694, h465⟩ := SPp.push' (p := l595) (z := m + 2) h465 h594 g695 ⟨mm, (pl hm0)⟩ mm; replace h4 := SL.rc h4 (rk e693 ne_zm) (rk e693 ne_zm); replace h8 := SL.rc h8 (rk e693 ne_zm) (rk e693 ne_zm); replace h442 := TB.rc h442 (rk e693 mm) (rk e693 ne_zm); replace h481 := OL.rc h481 (rk e693 mm) (rk e693 mm) (rk e693 ne_zm) (pl hm0); replace h507 := SL.rc h507 (rk e693 mm) (rk e693 ne_zm); replace h683 := SL.rc h683 (rk e693 mm) (rk e693 ne_zm); replace E := E.rk B0 e693; replace B := B.rk e694 lm; replace H := ifN H; obtain ⟨g699, H⟩ := H; obtain ⟨c696, e697, e698, h465⟩ := SPp.push' (p := l684) (z := m + 3) h465 h683 g699 ⟨mm, (pl hm0)⟩ mm
     as_aux_lemma =>
     replace h4 := SL.rc h4 (rk e697 ne_zm) (rk e697 ne_zm); replace h8 := SL.rc h8 (rk e697 ne_zm) (rk e697 ne_zm); replace h442 := TB.rc h442 (rk e697 mm) (rk e697 ne_zm); replace h481 := OL.rc h481 (rk e697 mm) (rk e697 mm) (rk e697 ne_zm) (pl hm0); replace h507 := SL.rc h507 (rk e697 mm) (rk e697 ne_zm); replace E := E.rk B0 e697; replace B := B.rk e698 lm; replace h465 := SPp.fin h465; have hl700 : (l379 ++ [t65.Key, t65.Value]).length = ((l379 ++ [l595]) ++ [l684]).length := by simp
     replace F := F.sub (L' := [(0, .slice A2 a1.length C3), (1, .slice A6 a5.length C7), (5, .pointer p28), (6, .slice A478 (l371 ++ [t89.1]).length C479), (7, .slice A504 (l375 ++ [t148]).length C505), (8, .slice A462 ((l379 ++ [l595]) ++ [l684]).length C463), (9, .int .i64 i383)]) ⟨rfl, rfl, rfl, rfl, rfl, (by rw [← hl700]; rfl), rfl, trivial⟩; refine reg ?_; refine qm F fun a F => ?_; refine qv F (r_add F rfl rfl) fun a F => ?_; refine qa F fun a F => nil ?_
     as_aux_lemma =>
     replace H := HN387 _ (si H).symm; exact hX386 _ _ _ (Nat.lt_succ_self _) ⟨t89.2.2, (l371 ++ [t89.1]), A478, C479, (l375 ++ [t148]), A504, C505, ((l379 ++ [l595]) ++ [l684]), A462, C463, (IntKind.i64.wrap (i383 + 1)), c696, F.sub ⟨rfl, rfl, rfl, rfl, rfl, rfl, rfl, trivial⟩, E, B, h4, h8, h442, h481, h507, h465, H⟩
    refine loop_fuel (I := fun n a w => ∃ (i637 : Int) (l641 : List Int) (c : Nat → Nat), Fr a 338 [(0, .slice A2 a1.length C3), (1, .slice A6 a5.length C7), (5, .pointer p28), (6, .slice A478 (l371 ++ [t89.1]).length C479), (7, .slice A504 (l375 ++ [t148]).length C505), (8, .slice A462 (l379 ++ [t65.Key, t65.Value]).length C463), (9, .int .i64 i383), (10, .pointer (some qa80)), (14, .int .i64 i637)] ∧ Ev (fun x => False ∨ m ≤ x) c0 w0 c w ∧ CB (m + 49) c w ∧ AT true (m + 4) c w qa80 [.int .i64 t65.Kind, .slice A417 l595.length C418, .slice A420 l641.length C421, .int .i64 t65.Rev] ∧ AT true (m + 7) c w qa105 [.bool t89.1.Done, .slice A436 t89.1.Key.length C437, .slice A439 t89.1.Value.length C440, .int .i64 t89.1.Rev, .int .i64 t89.1.At] ∧ SL false K_api_Op 0 0 c w A2 C3 a1 ∧ SL false (Kint .u8) 0 0 c w A6 C7 a5 ∧ TB (m + 1) c w p28 t89.2.2 ∧ OLp KO_api_Answer (m + 12) (m + 13) c w A478 C479 l371 [[.bool t89.1.Done, .slice A436 t89.1.Key.length C437, .slice A439 t89.1.Value.length C440, .int .i64 t89.1.Rev, .int .i64 t89.1.At]] ∧ SL true K_api_Answer (m + 14) 0 c w A504 C505 (l375 ++ [t148]) ∧ SPp (Kint .u8) (m + 9) (m + 10) c w A462 C463 l379 [.slice A417 t65.Key.length C418, .slice A420 t65.Value.length C421] ∧ SL true (Kint .u8) (m + 2) 0 c w A417 C418 l595 ∧ SL true (Kint .u8) (m + 5) 0 c w A436 C437 t89.1.Key ∧ SL true (Kint .u8) (m + 6) 0 c w A439 C440 t89.1.Value ∧ SL true (Kint .u8) (m + 3) 0 c w A420 C421 l641 ∧ loop (fun (s_ : Int × (List Int)) => haulagelaw13_TableOwn.b7 s_.1 s_.2) n (i637, l641) = some x651) (k := k) ⟨0, t65.Value, c597, F.sub ⟨rfl, rfl, rfl, rfl, rfl, rfl, rfl, rfl, rfl, trivial⟩, E, B, h82, h107, h4, h8, h442, h481, h507, h465, h594, h438, h441, (SLM.v h422), HL⟩ ?_; clear HL H E F B; intro n648 X644 hX644 a w643 ⟨i637, l641, c642, F, E, B, h82, h107, h4, h8, h442, h481, h507, h465, h594, h438, h441, h640, HL⟩; obtain ⟨n649, ctl647, rfl, HB, HN645, HD646⟩ := loop_some HL; have H : haulagelaw13_TableOwn.b7 i637 l641 = some ctl647 := HB; clear HB HL; unfold haulagelaw13_TableOwn.b7 at H; refine sq fun K652 hK652 => ?_; refine sr fun K653 hK653 => qm F fun a F => qf F ff_30_2 fun a F => ?_; refine ql F ag_23 h82 fun a F => ?_; refine qv F (r_lensl F Try.underlying23 rfl) fun a F => ?_; refine qv F (r_lss F rfl rfl) fun a F => ?_
    as_aux_lemma =>
    refine nil (hK653 _ _ ?_)
    by_cases hb654 : i637 < (l641.length : Int)
    ·replace H := ip hb654 H; refine wct (fb F (dt hb654)) (wp_skip (hK652 _ _ ?_)); refine sq fun K655 hK655 => ?_; refine wp_block ?_; refine regD (SB No c642 w643) 10 (.q 0 (.q 1 (.q 2 (.q 3 (.q 4 (.q 5 (.q 6 (.q 7 (.q 8 (.q 9 (.e 10 .nil))))))))))) Try_hm (by decide +kernel) ?_; intro w656 w1_ w2_ w3_ w4_; have E657 : Ev No c642 w643 c642 w656 := Ev.same w1_ w2_ w3_ w4_; replace B := B.same w1_; have zh82 := h82; have zh640 := h640; have ER : Ev No c642 w643 c642 w656 := Ev.same w1_ w2_ w3_ w4_; replace h640 := h640.ev E657; replace E := E.n E657
     as_aux_lemma =>
     refine df F ff_30_2 ER.sb fun a F => ?_; refine dl F ag_23 zh82 nq ER.sb fun a F => ?_; refine dm F ER.sb fun a F => ?_; refine df F ff_30_2 ER.sb fun a F => ?_; refine dl F ag_23 zh82 nq ER.sb fun a F => ?_; refine dm F ER.sb fun a F => ?_; replace H := ifN H; obtain ⟨g658, H⟩ := H; obtain ⟨ad659, cs660, e661, h662, r663⟩ := SL.at zh640 i637 g658.1 g658.2; obtain rfl : cs660 = [.int .u8 (rd l641 i637)] := r663; obtain ⟨qa664, qqa664⟩ : ∃ q, q = (ad659.add (i637.toNat * 1)) := ⟨_, rfl⟩; have h662 : AT true (m + 3) c642 w643 qa664 [.int .u8 (rd l641 i637)] := by rw [qqa664]; exact h662
     have zh662 := h662; refine dq F (fun wq hS => r_indexAddr' F Try.underlying23 sz_5 rfl rfl g658.1 g658.2 e661 qqa664) ER.sb fun a F => ?_
     as_aux_lemma =>
     refine dq F (fun wq hS => r_load F rfl ag_5 (AT.cell0 (AT.sb zh662 hS nq) rfl)) ER.sb fun a F => ?_; refine dq F (fun wq hS => r_xor F rfl rfl) ER.sb fun a F => ?_; replace H := ifN H; obtain ⟨g666, H⟩ := H; obtain ⟨ad667, cs668, e669, h670, r671⟩ := SL.at zh640 i637 g666.1 g666.2; obtain rfl : cs668 = [.int .u8 (rd l641 i637)] := r671; obtain ⟨qa672, qqa672⟩ : ∃ q, q = (ad667.add (i637.toNat * 1)) := ⟨_, rfl⟩; have h670 : AT true (m + 3) c642 w643 qa672 [.int .u8 (rd l641 i637)] := by rw [qqa672]; exact h670
     replace h670 := h670.ev ER nq; refine dq F (fun wq hS => r_indexAddr' F Try.underlying23 sz_5 rfl rfl g666.1 g666.2 e669 qqa672) ER.sb fun a F => ?_; refine d_e ?_; refine o_eff0 F rfl rfl rfl (e_storeel0 (k := (Kint .u8)) F rfl rfl sz_5 h640 g666.1 g666.2 e669 qqa672 h670 rfl (nb rfl) rfl (bxor .u8 (rd l641 i637) 255) rfl ne_zm) ?_; rintro w674 a ⟨E675, h640, Z676⟩ F; replace B := B.size Z676
     as_aux_lemma =>
     replace h82 := (h82.ev E657).ev E675; replace h107 := (h107.ev E657).ev E675; replace h4 := (h4.ev E657).ev E675; replace h8 := (h8.ev E657).ev E675; replace h442 := (h442.ev E657).ev E675; replace h481 := (h481.ev E657).ev E675; replace h507 := (h507.ev E657).ev E675; replace h465 := (h465.ev E657).ev E675; replace h594 := (h594.ev E657).ev E675; replace h438 := (h438.ev E657).ev E675; replace h441 := (h441.ev E657).ev E675; replace E := E.trans E675 lc1; have hl677 : l641.length = (l641.set i637.toNat (bxor .u8 (rd l641 i637) 255)).length := by simp
     have h82 : AT true (m + 4) c642 w674 qa80 [.int .i64 t65.Kind, .slice A417 l595.length C418, .slice A420 (l641.set i637.toNat (bxor .u8 (rd l641 i637) 255)).length C421, .int .i64 t65.Rev] := by rw [← hl677]; exact h82
     replace F := F.sub (L' := [(0, .slice A2 a1.length C3), (1, .slice A6 a5.length C7), (5, .pointer p28), (6, .slice A478 (l371 ++ [t89.1]).length C479), (7, .slice A504 (l375 ++ [t148]).length C505), (8, .slice A462 (l379 ++ [t65.Key, t65.Value]).length C463), (9, .int .i64 i383), (10, .pointer (some qa80)), (14, .int .i64 i637), (88, .int .i64 i637), (89, .pointer (some (qa80.add 2))), (90, .slice A420 (l641.set i637.toNat (bxor .u8 (rd l641 i637) 255)).length C421), (91, .int .i64 (l641.length : Int)), (92, .bool (decide (i637 < (l641.length : Int)))), (95, .pointer (some (qa80.add 2))), (96, .slice A420 (l641.set i637.toNat (bxor .u8 (rd l641 i637) 255)).length C421), (97, .int .i64 i637), (98, .pointer (some (qa80.add 2))), (99, .slice A420 (l641.set i637.toNat (bxor .u8 (rd l641 i637) 255)).length C421), (100, .int .i64 i637), (102, .int .u8 (rd l641 i637)), (103, .int .u8 (bxor .u8 (rd l641 i637) 255))]) ⟨rfl, rfl, rfl, rfl, rfl, rfl, rfl, rfl, rfl, rfl, rfl, (by rw [← hl677]; rfl), rfl, rfl, rfl, (by rw [← hl677]; rfl), rfl, rfl, (by rw [← hl677]; rfl), rfl, rfl, rfl, trivial⟩
     as_aux_lemma =>
     refine ⟨fun q => absurd rfl q, ?_⟩; refine d_nil ?_; refine hK655 _ _ ?_; replace F : Fr a 338 [(0, .slice A2 a1.length C3), (1, .slice A6 a5.length C7), (5, .pointer p28), (6, .slice A478 (l371 ++ [t89.1]).length C479), (7, .slice A504 (l375 ++ [t148]).length C505), (8, .slice A462 (l379 ++ [t65.Key, t65.Value]).length C463), (9, .int .i64 i383), (10, .pointer (some qa80)), (14, .int .i64 i637)] := F.sub ⟨rfl, rfl, rfl, rfl, rfl, rfl, rfl, rfl, rfl, trivial⟩; refine reg ?_; refine qm F fun a F => ?_; refine qv F (r_add F rfl rfl) fun a F => ?_; refine qa F fun a F => nil ?_; replace H := HN645 _ (si H).symm; exact hX644 _ _ _ (Nat.lt_succ_self _) ⟨(IntKind.i64.wrap (i637 + 1)), (l641.set i637.toNat (bxor .u8 (rd l641 i637) 255)), c642, F.sub ⟨rfl, rfl, rfl, rfl, rfl, rfl, rfl, rfl, rfl, trivial⟩, E, B, h82, h107, h4, h8, h442, h481, h507, h465, h594, h438, h441, h640, H⟩
    replace H := im hb654 H; refine wcf (fb F (dz hb654)) ?_; refine wp_exit ?_; refine thenE ?_
    as_aux_lemma =>
    refine thenE ?_; refine inbE ?_; have hx_ := HD646 _ (si H).symm; have H := HR650; rw [← hx_] at H; exact J685 c642 w643 a l641 (F.sub ⟨rfl, rfl, rfl, rfl, rfl, rfl, rfl, trivial⟩) E B h4 h8 h442 h481 h507 h465 h594 h438 h441 h640 H
   refine loop_fuel (I := fun n a w => ∃ (i548 : Int) (l552 : List Int) (c : Nat → Nat), Fr a 338 [(0, .slice A2 a1.length C3), (1, .slice A6 a5.length C7), (5, .pointer p28), (6, .slice A478 (l371 ++ [t89.1]).length C479), (7, .slice A504 (l375 ++ [t148]).length C505), (8, .slice A462 (l379 ++ [t65.Key, t65.Value]).length C463), (9, .int .i64 i383), (10, .pointer (some qa80)), (13, .int .i64 i548)] ∧ Ev (fun x => False ∨ m ≤ x) c0 w0 c w ∧ CB (m + 49) c w ∧ AT true (m + 4) c w qa80 [.int .i64 t65.Kind, .slice A417 l552.length C418, .slice A420 t65.Value.length C421, .int .i64 t65.Rev] ∧ AT true (m + 7) c w qa105 [.bool t89.1.Done, .slice A436 t89.1.Key.length C437, .slice A439 t89.1.Value.length C440, .int .i64 t89.1.Rev, .int .i64 t89.1.At] ∧ SL false K_api_Op 0 0 c w A2 C3 a1 ∧ SL false (Kint .u8) 0 0 c w A6 C7 a5 ∧ TB (m + 1) c w p28 t89.2.2 ∧ OLp KO_api_Answer (m + 12) (m + 13) c w A478 C479 l371 [[.bool t89.1.Done, .slice A436 t89.1.Key.length C437, .slice A439 t89.1.Value.length C440, .int .i64 t89.1.Rev, .int .i64 t89.1.At]] ∧ SL true K_api_Answer (m + 14) 0 c w A504 C505 (l375 ++ [t148]) ∧ SPp (Kint .u8) (m + 9) (m + 10) c w A462 C463 l379 [.slice A417 t65.Key.length C418, .slice A420 t65.Value.length C421] ∧ SL true (Kint .u8) (m + 3) 0 c w A420 C421 (t65.Value ++ [201, 77]) ∧ SL true (Kint .u8) (m + 5) 0 c w A436 C437 t89.1.Key ∧ SL true (Kint .u8) (m + 6) 0 c w A439 C440 t89.1.Value ∧ SL true (Kint .u8) (m + 2) 0 c w A417 C418 l552 ∧ loop (fun (s_ : Int × (List Int)) => haulagelaw13_TableOwn.b5 s_.1 s_.2) n (i548, l552) = some x562) (k := k) ⟨0, t65.Key, c502, F.sub ⟨rfl, rfl, rfl, rfl, rfl, rfl, rfl, rfl, rfl, trivial⟩, E, B, h82, h107, h4, h8, h442, h481, h507, h465, h422, h438, h441, (SLM.v h419), HL⟩ ?_; clear HL H E F B; intro n559 X555 hX555 a w554 ⟨i548, l552, c553, F, E, B, h82, h107, h4, h8, h442, h481, h507, h465, h422, h438, h441, h551, HL⟩; obtain ⟨n560, ctl558, rfl, HB, HN556, HD557⟩ := loop_some HL; have H : haulagelaw13_TableOwn.b5 i548 l552 = some ctl558 := HB; clear HB HL; unfold haulagelaw13_TableOwn.b5 at H; refine sq fun K563 hK563 => ?_
   as_aux_lemma =>
   refine sr fun K564 hK564 => qm F fun a F => qf F ff_30_1 fun a F => ?_; refine ql F ag_23 h82 fun a F => ?_; refine qv F (r_lensl F Try.underlying23 rfl) fun a F => ?_; refine qv F (r_lss F rfl rfl) fun a F => ?_; refine nil (hK564 _ _ ?_)
   by_cases hb565 : i548 < (l552.length : Int)
   ·replace H := ip hb565 H; refine wct (fb F (dt hb565)) (wp_skip (hK563 _ _ ?_)); refine sq fun K566 hK566 => ?_; refine wp_block ?_; refine regD (SB No c553 w554) 10 (.q 0 (.q 1 (.q 2 (.q 3 (.q 4 (.q 5 (.q 6 (.q 7 (.q 8 (.q 9 (.e 10 .nil))))))))))) Try_hm (by decide +kernel) ?_; intro w567 w1_ w2_ w3_ w4_; have E568 : Ev No c553 w554 c553 w567 := Ev.same w1_ w2_ w3_ w4_; replace B := B.same w1_; have zh82 := h82; have zh551 := h551; have ER : Ev No c553 w554 c553 w567 := Ev.same w1_ w2_ w3_ w4_
    as_aux_lemma =>
    replace h551 := h551.ev E568; replace E := E.n E568; refine df F ff_30_1 ER.sb fun a F => ?_; refine dl F ag_23 zh82 nq ER.sb fun a F => ?_; refine dm F ER.sb fun a F => ?_; refine df F ff_30_1 ER.sb fun a F => ?_; refine dl F ag_23 zh82 nq ER.sb fun a F => ?_; refine dm F ER.sb fun a F => ?_; replace H := ifN H; obtain ⟨g569, H⟩ := H; obtain ⟨ad570, cs571, e572, h573, r574⟩ := SL.at zh551 i548 g569.1 g569.2; obtain rfl : cs571 = [.int .u8 (rd l552 i548)] := r574; obtain ⟨qa575, qqa575⟩ : ∃ q, q = (ad570.add (i548.toNat * 1)) := ⟨_, rfl⟩; have h573 : AT true (m + 2) c553 w554 qa575 [.int .u8 (rd l552 i548)] := by rw [qqa575]; exact h573
    have zh573 := h573
    as_aux_lemma =>
    refine dq F (fun wq hS => r_indexAddr' F Try.underlying23 sz_5 rfl rfl g569.1 g569.2 e572 qqa575) ER.sb fun a F => ?_; refine dq F (fun wq hS => r_load F rfl ag_5 (AT.cell0 (AT.sb zh573 hS nq) rfl)) ER.sb fun a F => ?_; refine dq F (fun wq hS => r_xor F rfl rfl) ER.sb fun a F => ?_; replace H := ifN H; obtain ⟨g577, H⟩ := H; obtain ⟨ad578, cs579, e580, h581, r582⟩ := SL.at zh551 i548 g577.1 g577.2; obtain rfl : cs579 = [.int .u8 (rd l552 i548)] := r582; obtain ⟨qa583, qqa583⟩ : ∃ q, q = (ad578.add (i548.toNat * 1)) := ⟨_, rfl⟩; have h581 : AT true (m + 2) c553 w554 qa583 [.int .u8 (rd l552 i548)] := by rw [qqa583]; exact h581
    replace h581 := h581.ev ER nq; refine dq F (fun wq hS => r_indexAddr' F Try.underlying23 sz_5 rfl rfl g577.1 g577.2 e580 qqa583) ER.sb fun a F => ?_; refine d_e ?_; refine o_eff0 F rfl rfl rfl (e_storeel0 (k := (Kint .u8)) F rfl rfl sz_5 h551 g577.1 g577.2 e580 qqa583 h581 rfl (nb rfl) rfl (bxor .u8 (rd l552 i548) 255) rfl ne_zm) ?_; rintro w585 a ⟨E586, h551, Z587⟩ F
    as_aux_lemma =>
    replace B := B.size Z587; replace h82 := (h82.ev E568).ev E586; replace h107 := (h107.ev E568).ev E586; replace h4 := (h4.ev E568).ev E586; replace h8 := (h8.ev E568).ev E586; replace h442 := (h442.ev E568).ev E586; replace h481 := (h481.ev E568).ev E586; replace h507 := (h507.ev E568).ev E586; replace h465 := (h465.ev E568).ev E586; replace h422 := (h422.ev E568).ev E586; replace h438 := (h438.ev E568).ev E586; replace h441 := (h441.ev E568).ev E586; replace E := E.trans E586 lc1; have hl588 : l552.length = (l552.set i548.toNat (bxor .u8 (rd l552 i548) 255)).length := by simp
    have h82 : AT true (m + 4) c553 w585 qa80 [.int .i64 t65.Kind, .slice A417 (l552.set i548.toNat (bxor .u8 (rd l552 i548) 255)).length C418, .slice A420 t65.Value.length C421, .int .i64 t65.Rev] := by rw [← hl588]; exact h82
    replace F := F.sub (L' := [(0, .slice A2 a1.length C3), (1, .slice A6 a5.length C7), (5, .pointer p28), (6, .slice A478 (l371 ++ [t89.1]).length C479), (7, .slice A504 (l375 ++ [t148]).length C505), (8, .slice A462 (l379 ++ [t65.Key, t65.Value]).length C463), (9, .int .i64 i383), (10, .pointer (some qa80)), (13, .int .i64 i548), (71, .int .i64 i548), (72, .pointer (some (qa80.add 1))), (73, .slice A417 (l552.set i548.toNat (bxor .u8 (rd l552 i548) 255)).length C418), (74, .int .i64 (l552.length : Int)), (75, .bool (decide (i548 < (l552.length : Int)))), (78, .pointer (some (qa80.add 1))), (79, .slice A417 (l552.set i548.toNat (bxor .u8 (rd l552 i548) 255)).length C418), (80, .int .i64 i548), (81, .pointer (some (qa80.add 1))), (82, .slice A417 (l552.set i548.toNat (bxor .u8 (rd l552 i548) 255)).length C418), (83, .int .i64 i548), (85, .int .u8 (rd l552 i548)), (86, .int .u8 (bxor .u8 (rd l552 i548) 255))]) ⟨rfl, rfl, rfl, rfl, rfl, rfl, rfl, rfl, rfl, rfl, rfl, (by rw [← hl588]; rfl), rfl, rfl, rfl, (by rw [← hl588]; rfl), rfl, rfl, (by rw [← hl588]; rfl), rfl, rfl, rfl, trivial⟩
    as_aux_lemma =>
    refine ⟨fun q => absurd rfl q, ?_⟩; refine d_nil ?_; refine hK566 _ _ ?_; replace F : Fr a 338 [(0, .slice A2 a1.length C3), (1, .slice A6 a5.length C7), (5, .pointer p28), (6, .slice A478 (l371 ++ [t89.1]).length C479), (7, .slice A504 (l375 ++ [t148]).length C505), (8, .slice A462 (l379 ++ [t65.Key, t65.Value]).length C463), (9, .int .i64 i383), (10, .pointer (some qa80)), (13, .int .i64 i548)] := F.sub ⟨rfl, rfl, rfl, rfl, rfl, rfl, rfl, rfl, rfl, trivial⟩; refine reg ?_; refine qm F fun a F => ?_; refine qv F (r_add F rfl rfl) fun a F => ?_; refine qa F fun a F => nil ?_; replace H := HN556 _ (si H).symm; exact hX555 _ _ _ (Nat.lt_succ_self _) ⟨(IntKind.i64.wrap (i548 + 1)), (l552.set i548.toNat (bxor .u8 (rd l552 i548) 255)), c553, F.sub ⟨rfl, rfl, rfl, rfl, rfl, rfl, rfl, rfl, rfl, trivial⟩, E, B, h82, h107, h4, h8, h442, h481, h507, h465, h422, h438, h441, h551, H⟩
   replace H := im hb565 H; refine wcf (fb F (dz hb565)) ?_; refine wp_exit ?_; refine thenE ?_
   as_aux_lemma =>
   refine thenE ?_; refine inbE ?_; have hx_ := HD557 _ (si H).symm; have H := HR561; rw [← hx_] at H; exact J596 c553 w554 a l552 (F.sub ⟨rfl, rfl, rfl, rfl, rfl, rfl, rfl, rfl, trivial⟩) E B h82 h107 h4 h8 h442 h481 h507 h465 h422 h438 h441 h551 H
  replace H := im hb396 H; refine wcf (fb F (dz hb396)) ?_; refine wp_exit ?_; refine thenE ?_; refine thenE ?_; refine inbE ?_; have hx_ := HD388 _ (si H).symm; have H := HR392; rw [← hx_] at H; exact J731 c384 w385 a o370 l371 A372 C373 l375 A376 C377 l379 A380 C381 (F.sub ⟨rfl, rfl, rfl, rfl, rfl, rfl, trivial⟩) E B h4 h8 h369 h374 h378 h382 H
 as_aux_lemma =>
 replace H := im hb19 H; refine wct (fb F (congrArg not (bfalse hb19))) ?_; refine sr fun K20 hK20 => qa F fun a F => nil (hK20 _ _ ?_); refine wp_ret ?_; refine thenR ?_; obtain rfl := si H; refine out1 F rfl rfl ?_; exact ⟨cf (ct m) c14, rfl, E.lv B0, cfb⟩
end Go.Proofs.Ytoaldfpngihhcaa.G
namespace Go.Proofs.Ytoaldfpngihhcaa.G
open Go Go.ChangeShapes Go.WideShapes
set_option linter.unusedVariables false
set_option linter.unusedSimpArgs false
theorem bulk_one {H : Type} (d : DataW H) : 1 ≤ Rows.uptoBulk d := by
 cases d with
 | lit l => cases l <;> simp [Rows.uptoBulk]
 | nil => simp [Rows.uptoBulk]
 | ptr d => simp [Rows.uptoBulk]
 | slice elems spare => simp [Rows.uptoBulk]
 | agg parts => simp [Rows.uptoBulk]
 | iface t d => simp [Rows.uptoBulk]
 | map entries => simp [Rows.uptoBulk]
 | held h => simp [Rows.uptoBulk]
theorem bulk_slice {H : Type} (elems spare : List (DataW H)) : Rows.uptoBulkAll elems + 1 ≤ Rows.uptoBulk (.slice elems spare) := by
 simp only [Rows.uptoBulk]
 omega
theorem bulk_agg {H : Type} (parts : List (DataW H)) : Rows.uptoBulkAll parts + 1 ≤ Rows.uptoBulk (.agg parts) := by
 simp only [Rows.uptoBulk]
 omega
theorem bulk_all {H : Type} : ∀ l : List (DataW H), Rows.uptoBulkAll l = (l.map Rows.uptoBulk).sum
 | [] => by simp [Rows.uptoBulkAll]
 | d :: l => by simp [Rows.uptoBulkAll, bulk_all l]
def c0 : Nat → Nat := fun _ => 0
def Opens {α : Type} (P : Program) (w : World) (t : TypeId) (e : K α) (wt : α → Nat) (ok : α → Prop) : Prop :=
 ∀ (H : Type) (enc : TypeId × Value → H) (fuel : Nat) (cs : List Value) (x : DataW H × List MemPlace), DataW.trod enc P w 0 (fun _ => true) true fuel t cs = some x → ∃ y, e.rep 0 c0 w cs y ∧ wt y ≤ Rows.uptoBulk x.1 ∧ ok y
section
variable {α : Type} {P : Program} {w : World} {t u : TypeId} {e : K α} {wt : α → Nat} {ok : α → Prop}
theorem opens_int {k : IntKind} (ht : P.underlying t = some (.int k)) : Opens P w t (Kint k) (fun _ => 1) (fun n => (Lit.int k n).wf = true) := by
 intro H enc fuel cs x h
 obtain ⟨n, rfl, rfl, hw⟩ := DataW.trod_int ht h
 exact ⟨n, rfl, bulk_one _, hw⟩
theorem at_cell {p : Addr} {v : Value} (h : w.cell? p = some v) : p = ⟨p.block, p.off, none⟩ ∧ ∃ cur ty fz, w.heap[p.block]? = some (.cells cur ty fz) ∧ cur[p.off]? = some v := by
 obtain ⟨b, off, spot⟩ := p
 simp only [World.cell?] at h
 split at h
 ·rename_i c ty fz hb
  cases spot with
  | some s => simp at h
  | none => exact ⟨rfl, c, ty, fz, hb, by simpa using h⟩
 ·cases h
theorem at_cells {p : Addr} {n : Nat} {cs : List Value} (hn : cs.length = n) (hp : 0 < n) (h : ∀ i, i < n → w.cell? (p.add i) = cs[i]?) : AT false 0 c0 w p cs := by
 have h0 := h 0 hp
 have e0 : p.add 0 = p := by simp [Addr.add]
 rw [e0, List.getElem?_eq_getElem (by omega)] at h0
 obtain ⟨ep, cur, ty, fz, hb, hc⟩ := at_cell h0
 refine ⟨p.block, p.off, cur, ty, fz, ep, hb, rfl, fun k hk => ?_, fun q => by cases q⟩
 have hk' := h k (by omega)
 rw [ep, add_eq] at hk'
 simp only [World.cell?, hb] at hk'
 simpa using hk'
theorem sum_le {β γ : Type} (f : β → Nat) (g : γ → Nat) : ∀ (l : List β) (m : List γ), l.length = m.length → (∀ i (h : i < l.length) (h' : i < m.length), f l[i] ≤ g m[i]) → (l.map f).sum ≤ (m.map g).sum
 | [], [], _, _ => Nat.le_refl _
 | [], _ :: _, h, _ => by simp at h
 | _ :: _, [], h, _ => by simp at h
 | a :: l, b :: m, h, hh => by
  simp only [List.map_cons, List.sum_cons]
  have h0 := hh 0 (by simp) (by simp)
  simp only [List.getElem_cons_zero] at h0
  have := sum_le f g l m (by simpa using h) (fun i h1 h2 => by
   have := hh (i + 1) (by simp; omega) (by simp; omega)
   simpa using this)
  omega
theorem open_sl [Inhabited α] (ht : P.underlying t = some (.slice u)) (hc : P.cellsOf u = e.sz) (hu : Opens P w u e wt ok) {H : Type} {enc : TypeId × Value → H} {fuel : Nat} {cs : List Value} {x : DataW H × List MemPlace}
  (h : DataW.trod enc P w 0 (fun _ => true) true fuel t cs = some x) :
  ∃ A cap xs, cs = [.slice A xs.length cap] ∧ SL false e 0 0 c0 w A cap xs ∧ (xs.map wt).sum + 1 ≤ Rows.uptoBulk x.1 ∧ ∀ y ∈ xs, ok y := by
 rcases Deep.open_slice ht h with ⟨rfl, rfl⟩ | ⟨a, len, cap, m, n, D, Pl, rfl, _, hl, hm, hmm, rfl, hx⟩
 ·exact ⟨none, 0, [], rfl, SL.nil, by simp [Rows.uptoBulk], fun y hy => by cases hy⟩
 simp only [if_true] at hmm
 subst hmm
 have hp := e.pos
 rw [hc] at hx
 have each : ∀ i, i < m → ∃ y : List Value × α, (y.1.length = e.sz ∧ ∀ k, k < e.sz → w.cell? ((a.add (i * e.sz)).add k) = y.1[k]?) ∧ e.rep 0 c0 w y.1 y.2 ∧ wt y.2 ≤ Rows.uptoBulk (D i) ∧ ok y.2 := by
  intro i hi
  obtain ⟨cs', h1, h2⟩ := hx i hi
  obtain ⟨_, g1, g2⟩ := World.cells?_some h1
  obtain ⟨y, g3, g4, g5⟩ := hu H enc n cs' _ h2
  exact ⟨(cs', y), ⟨g1, g2⟩, g3, g4, g5⟩
 obtain ⟨y, hy⟩ := Deep.choose_lt each
 let V : Nat → Value := fun q => (y (q / e.sz)).1.getD (q % e.sz) default
 have hV : ∀ i k, k < e.sz → V (i * e.sz + k) = (y i).1.getD k default := by
  intro i k hk
  show (y ((i * e.sz + k) / e.sz)).1.getD ((i * e.sz + k) % e.sz) default = _
  rw [Nat.mul_comm, Nat.mul_add_div hp, Nat.div_eq_of_lt hk, Nat.add_zero, Nat.mul_add_mod, Nat.mod_eq_of_lt hk]
 let cs := (List.range (m * e.sz)).map V
 have hcs : cs.length = m * e.sz := by simp [cs]
 have hcell : ∀ q, q < m * e.sz → w.cell? (a.add q) = cs[q]? := by
  intro q hq
  have hi : q / e.sz < m := (Nat.div_lt_iff_lt_mul hp).2 hq
  have hk : q % e.sz < e.sz := Nat.mod_lt _ hp
  obtain ⟨⟨g1, g2⟩, _⟩ := hy _ hi
  have g := g2 _ hk
  have e1 : (a.add (q / e.sz * e.sz)).add (q % e.sz) = a.add q := by
   have e2 : q / e.sz * e.sz + q % e.sz = q := Nat.div_add_mod' q e.sz
   obtain ⟨b, off, s⟩ := a
   simp only [Addr.add]
   split <;> split <;> split <;> simp_all <;> omega
  rw [e1] at g
  rw [g]
  simp only [cs, List.getElem?_map, List.getElem?_range hq, Option.map_some]
  show _ = some ((y (q / e.sz)).1.getD (q % e.sz) default)
  rw [List.getD_eq_getElem?_getD, List.getElem?_eq_getElem (by omega)]
  rfl
 refine ⟨some a, m, (List.range len).map fun i => (y i).2, by simp, ⟨cs, by simpa using hl, hm, hcs, ?_, fun n hn => ?_⟩, ?_, ?_⟩
 ·rcases Nat.eq_zero_or_pos (m * e.sz) with q | q
  ·left; exact List.length_eq_zero_iff.1 (by omega)
  ·right; exact ⟨a, rfl, at_cells hcs q hcell⟩
 ·simp only [List.length_map, List.length_range] at hn
  obtain ⟨⟨g1, _⟩, g3, _, _⟩ := hy n (by omega)
  have e1 : (cs.drop (n * e.sz)).take e.sz = (y n).1 := by
   apply List.ext_getElem?
   intro k
   by_cases hk : k < e.sz
   ·have hq : n * e.sz + k < m * e.sz := by
     have : (n + 1) * e.sz ≤ m * e.sz := Nat.mul_le_mul_right _ (by omega)
     rw [Nat.succ_mul] at this; omega
    rw [List.getElem?_take_of_lt hk, List.getElem?_drop]
    simp only [cs, List.getElem?_map, List.getElem?_range hq, Option.map_some]
    rw [hV n k hk, List.getD_eq_getElem?_getD, List.getElem?_eq_getElem (by omega)]
    rfl
   ·rw [List.getElem?_eq_none (by simp; omega), List.getElem?_eq_none (by omega)]
  rw [e1]
  simpa using g3
 ·refine Nat.le_trans (Nat.succ_le_succ ?_) (bulk_slice _ _)
  rw [bulk_all]
  rw [List.map_map, List.map_map]
  have := sum_le (fun i => wt (y i).2) (fun i => Rows.uptoBulk (D i)) (List.range len) (List.range len) rfl (fun i h1 h2 => by
   simp only [List.length_range] at h1
   simp only [List.getElem_range]
   exact (hy i (by omega)).2.2.1)
  exact this
 ·intro z hz
  obtain ⟨i, hi, rfl⟩ := List.mem_map.1 hz
  exact (hy i (by have := List.mem_range.1 hi; omega)).2.2.2
theorem opens_slice [Inhabited α] (ht : P.underlying t = some (.slice u)) (hc : P.cellsOf u = e.sz) (hu : Opens P w u e wt ok) : Opens P w t (Kslice e) (fun xs => (xs.map wt).sum + 1) (fun xs => ∀ y ∈ xs, ok y) := by
 intro H enc fuel cs x h
 obtain ⟨A, cap, xs, h1, h2, h3, h4⟩ := open_sl ht hc hu h
 exact ⟨xs, ⟨A, cap, h1, h2⟩, h3, h4⟩
end
end Go.Proofs.Ytoaldfpngihhcaa.G
namespace Go.Proofs.Ytoaldfpngihhcaa.G
open Go Go.ChangeShapes Go.WideShapes
set_option linter.unusedVariables false
theorem row_own : ownKnob Try.prog.godebug = none := by kernel_rfl
theorem row_laidOut : laidOutB Try.prog = true := by kernel_rfl
def intok (n : Int) : Prop := (Lit.int .i64 n).wf = true
theorem intok.range {n : Int} (h : intok n) : -9223372036854775808 ≤ n ∧ n ≤ 9223372036854775807 := by simpa [intok, Lit.wf, IntKind.min, IntKind.max, IntKind.signed, IntKind.bits] using h
def byteok (n : Int) : Prop := (Lit.int .u8 n).wf = true
def bytesok (xs : List Int) : Prop := ∀ n ∈ xs, byteok n
theorem byteok.range {n : Int} (h : byteok n) : 0 ≤ n ∧ n ≤ 255 := by simpa [byteok, Lit.wf, IntKind.min, IntKind.max, IntKind.signed, IntKind.bits] using h
theorem sum_one {α : Type} (xs : List α) : (xs.map fun _ => 1).sum = xs.length := by
 induction xs with
 | nil => rfl
 | cons x xs ih => simp [ih]; omega
theorem mem_sum {α : Type} (f : α → Nat) : ∀ {xs : List α} {x : α}, x ∈ xs → f x ≤ (xs.map f).sum
 | y :: xs, x, h => by
  rcases List.mem_cons.1 h with e | h
  ·subst e; simp
  ·have := mem_sum f h; simp only [List.map_cons, List.sum_cons]; omega
theorem len_sum {α : Type} (f : α → Nat) (hf : ∀ x, 1 ≤ f x) : ∀ xs : List α, xs.length ≤ (xs.map f).sum
 | [] => Nat.le_refl _
 | x :: xs => by have := len_sum f hf xs; have := hf x; simp only [List.map_cons, List.sum_cons, List.length_cons]; omega
theorem cells_3 : Try.prog.cellsOf 3 = 1 := by kernel_rfl
theorem cells_5 : Try.prog.cellsOf 5 = 1 := by kernel_rfl
theorem cells_23 : Try.prog.cellsOf 23 = 1 := by kernel_rfl
theorem cells_30 : Try.prog.cellsOf 30 = 4 := by kernel_rfl
theorem opens_bytes {w : World} : Opens Try.prog w 23 (Kslice (Kint .u8)) (fun xs => xs.length + 1) bytesok := by
 intro H enc fuel cs x h
 obtain ⟨y, h1, h2, h3⟩ := opens_slice (e := Kint .u8) Try.underlying23 cells_5 (opens_int Try.underlying5) H enc fuel cs x h
 have h2' : (y.map fun _ => 1).sum + 1 ≤ Rows.uptoBulk x.1 := h2
 rw [sum_one] at h2'
 exact ⟨y, h1, h2', h3⟩
abbrev wt_api_Op (o : api_Op) : Nat := o.Key.length + o.Value.length + 1
def ok_api_Op (o : api_Op) : Prop := intok o.Kind ∧ bytesok o.Key ∧ bytesok o.Value ∧ intok o.Rev
set_option maxRecDepth 100000 in
theorem opens_api_Op {w : World} : Opens Try.prog w 30 K_api_Op wt_api_Op ok_api_Op := by
 intro H enc fuel cs x h
 obtain ⟨xs, n, rfl, rfl, hl, hxl, hf⟩ := DataW.trod_struct Try.underlying30 h
 rw [cells_30] at hl
 match cs, hl with
 | [v0, v1, v2, v3], _ =>
  match xs, hxl with
  | [x0, x1, x2, x3], _ =>
   have g0 : DataW.trod enc Try.prog w 0 (fun _ => true) true n 3 (([v0, v1, v2, v3].drop 0).take (Try.prog.cellsOf 3)) = some x0 := hf 0 _ rfl
   rw [cells_3] at g0
   replace g0 : DataW.trod enc Try.prog w 0 (fun _ => true) true n 3 [v0] = some x0 := g0
   obtain ⟨y0, r0, -, k0⟩ := opens_int (w := w) Try.underlying3 H enc n _ _ g0
   have g1 : DataW.trod enc Try.prog w 0 (fun _ => true) true n 23 (([v0, v1, v2, v3].drop 1).take (Try.prog.cellsOf 23)) = some x1 := hf 1 _ rfl
   rw [cells_23] at g1
   replace g1 : DataW.trod enc Try.prog w 0 (fun _ => true) true n 23 [v1] = some x1 := g1
   obtain ⟨y1, ⟨A1, C1, e1, s1⟩, b1, k1⟩ := opens_bytes (w := w) H enc n _ _ g1
   have g2 : DataW.trod enc Try.prog w 0 (fun _ => true) true n 23 (([v0, v1, v2, v3].drop 2).take (Try.prog.cellsOf 23)) = some x2 := hf 2 _ rfl
   rw [cells_23] at g2
   replace g2 : DataW.trod enc Try.prog w 0 (fun _ => true) true n 23 [v2] = some x2 := g2
   obtain ⟨y2, ⟨A2, C2, e2, s2⟩, b2, k2⟩ := opens_bytes (w := w) H enc n _ _ g2
   have g3 : DataW.trod enc Try.prog w 0 (fun _ => true) true n 3 (([v0, v1, v2, v3].drop 3).take (Try.prog.cellsOf 3)) = some x3 := hf 3 _ rfl
   rw [cells_3] at g3
   replace g3 : DataW.trod enc Try.prog w 0 (fun _ => true) true n 3 [v3] = some x3 := g3
   obtain ⟨y3, r3, -, k3⟩ := opens_int (w := w) Try.underlying3 H enc n _ _ g3
   obtain rfl : v0 = .int .i64 y0 := List.head_eq_of_cons_eq r0
   obtain rfl := List.head_eq_of_cons_eq e1
   obtain rfl := List.head_eq_of_cons_eq e2
   obtain rfl : v3 = .int .i64 y3 := List.head_eq_of_cons_eq r3
   refine ⟨⟨y0, y1, y2, y3⟩, ⟨A1, C1, A2, C2, rfl, s1, s2⟩, ?_, ⟨k0, k1, k2, k3⟩⟩
   refine Nat.le_trans ?_ (bulk_agg _)
   simp only [List.map_cons, List.map_nil, Rows.uptoBulkAll]
   have q0 := bulk_one x0.1
   have q1 : y1.length + 1 ≤ Rows.uptoBulk x1.1 := b1
   have q2 : y2.length + 1 ≤ Rows.uptoBulk x2.1 := b2
   have q3 := bulk_one x3.1
   show y1.length + y2.length + 1 ≤ _
   omega
theorem wt_api_Op_pos (o : api_Op) : 1 ≤ wt_api_Op o := by unfold wt_api_Op; omega
theorem arg_key {H : Type} {enc : TypeId × Value → H} {w : World} {v : Value} {d : DataW H} {p : List MemPlace} (hv : ∃ a len cap, v = .slice a len cap) (h : DataW.Trod enc Try.prog w 0 (fun _ => true) true 23 v d p) :
  ∃ A C xs, v = .slice A xs.length C ∧ SL false (Kint .u8) 0 0 c0 w A C xs ∧ (xs.map (fun _ => 1)).sum + 1 ≤ Rows.uptoBulk d ∧ ∀ o ∈ xs, (fun n => (Lit.int .u8 n).wf = true) o := by
 obtain ⟨a, len, cap, rfl⟩ := hv
 obtain ⟨fuel, hf⟩ := h
 obtain ⟨A, C, xs, e, h1, h2, h3⟩ := open_sl (e := (Kint .u8)) Try.underlying23 cells_5 (opens_int Try.underlying5) hf
 refine ⟨A, C, xs, ?_, h1, h2, h3⟩
 have e' : [Value.slice a len cap] = [.slice A xs.length C] := e
 exact List.head_eq_of_cons_eq e'
theorem arg_ops {H : Type} {enc : TypeId × Value → H} {w : World} {v : Value} {d : DataW H} {p : List MemPlace} (hv : ∃ a len cap, v = .slice a len cap) (h : DataW.Trod enc Try.prog w 0 (fun _ => true) true 22 v d p) :
  ∃ A C xs, v = .slice A xs.length C ∧ SL false K_api_Op 0 0 c0 w A C xs ∧ (xs.map wt_api_Op).sum + 1 ≤ Rows.uptoBulk d ∧ ∀ o ∈ xs, ok_api_Op o := by
 obtain ⟨a, len, cap, rfl⟩ := hv
 obtain ⟨fuel, hf⟩ := h
 obtain ⟨A, C, xs, e, h1, h2, h3⟩ := open_sl (e := K_api_Op) Try.underlying22 cells_30 opens_api_Op hf
 refine ⟨A, C, xs, ?_, h1, h2, h3⟩
 have e' : [Value.slice a len cap] = [.slice A xs.length C] := e
 exact List.head_eq_of_cons_eq e'
end Go.Proofs.Ytoaldfpngihhcaa.G
namespace Go.Proofs.Ytoaldfpngihhcaa.G
open Go
set_option linter.unusedVariables false
set_option linter.unusedSimpArgs false
abbrev Ent := ByteArray × table_cell
def Tr.list : Tr → List Ent
 | .nil => []
 | .node l r k v _ _ => l.list ++ (k, v) :: r.list
def Tr.hgt : Tr → Nat
 | .nil => 0
 | .node l r _ _ _ _ => 1 + max l.hgt r.hgt
def Tr.WF : Tr → Prop
 | .nil => True
 | .node l r k v s d => l.WF ∧ r.WF ∧ s = ((Tr.node l r k v s d).list.length : Int) ∧ d = ((Tr.node l r k v s d).hgt : Int)
theorem Tr.hgt_le : ∀ t : Tr, t.hgt ≤ t.list.length
 | .nil => Nat.le_refl _
 | .node l r k v s d => by
  have := hgt_le l; have := hgt_le r
  simp only [Tr.hgt, Tr.list, List.length_append, List.length_cons]; omega
theorem len_eq {t : Tr} (h : t.WF) : tree_Tree_Len.f t = some (t.list.length : Int) := by
 cases t with
 | nil => rfl
 | node l r k v s d => show (if (Tr.node l r k v s d).isNil = true then some 0 else some s) = _; rw [if_neg (by simp [Tr.isNil])]; exact congrArg some h.2.2.1
theorem dep_eq {t : Tr} (h : t.WF) : tree_Tree_Depth.f t = some (t.hgt : Int) := by
 cases t with
 | nil => rfl
 | node l r k v s d => show (if (Tr.node l r k v s d).isNil = true then some 0 else some d) = _; rw [if_neg (by simp [Tr.isNil])]; exact congrArg some h.2.2.2
theorem wr {n : Int} (h0 : -1000000000000000000 ≤ n) (h1 : n ≤ 1000000000000000000) : IntKind.i64.wrap n = n := by rw [IntKind.wrap_i64]; omega
def big : Nat := 1099511627776
theorem node_eq {l r : Tr} {k : ByteArray} {v : table_cell} (hl : l.WF) (hr : r.WF) (hb : l.list.length + r.list.length < big) :
  ∃ t, tree_node.f l k v r = some t ∧ t.WF ∧ t.list = l.list ++ (k, v) :: r.list ∧ (∃ s d, t = .node l r k v s d) := by
 have h1 := l.hgt_le; have h2 := r.hgt_le
 unfold big at hb
 refine ⟨.node l r k v (l.list.length + 1 + r.list.length) (1 + max l.hgt r.hgt), ?_, ⟨hl, hr, ?_, ?_⟩, rfl, _, _, rfl⟩
 ·simp only [tree_node.f, len_eq hl, len_eq hr, dep_eq hl, dep_eq hr, Option.bind_some]
  rw [wr (n := (l.list.length : Int) + 1) (by omega) (by omega), wr (by omega) (by omega), wr (by omega) (by omega)]
  simp; omega
 ·simp only [Tr.list, List.length_append, List.length_cons]; omega
 ·simp only [Tr.hgt]; omega
theorem turnL {l r : Tr} {k : ByteArray} {v : table_cell} {s d : Int} (hl : l.WF) (hr : r.WF) (hn : r.list ≠ []) (hb : l.list.length + r.list.length < big) :
  ∃ t, tree_turnLeft.f (.node l r k v s d) = some t ∧ t.WF ∧ t.list = l.list ++ (k, v) :: r.list := by
 cases r with
 | nil => exact absurd rfl hn
 | node rl rr rk rv rs rd =>
  obtain ⟨h1, h2, _⟩ := hr
  simp only [Tr.list, List.length_append, List.length_cons] at hb
  obtain ⟨a, ea, wa, la, _⟩ := node_eq (k := k) (v := v) hl h1 (by omega)
  obtain ⟨b, eb, wb, lb, _⟩ := node_eq (k := rk) (v := rv) wa h2 (by rw [la]; simp only [List.length_append, List.length_cons]; omega)
  refine ⟨b, ?_, wb, ?_⟩
  ·simp only [tree_turnLeft.f, Tr.cs, ea, eb, Option.bind_some]
  ·rw [lb, la]; simp [Tr.list]
theorem turnR {l r : Tr} {k : ByteArray} {v : table_cell} {s d : Int} (hl : l.WF) (hr : r.WF) (hn : l.list ≠ []) (hb : l.list.length + r.list.length < big) :
  ∃ t, tree_turnRight.f (.node l r k v s d) = some t ∧ t.WF ∧ t.list = l.list ++ (k, v) :: r.list := by
 cases l with
 | nil => exact absurd rfl hn
 | node rl rr rk rv rs rd =>
  obtain ⟨h1, h2, _⟩ := hl
  simp only [Tr.list, List.length_append, List.length_cons] at hb
  obtain ⟨a, ea, wa, la, _⟩ := node_eq (k := k) (v := v) h2 hr (by omega)
  obtain ⟨b, eb, wb, lb, _⟩ := node_eq (k := rk) (v := rv) h1 wa (by rw [la]; simp only [List.length_append, List.length_cons]; omega)
  refine ⟨b, ?_, wb, ?_⟩
  ·simp only [tree_turnRight.f, Tr.cs, ea, eb, Option.bind_some]
  ·rw [lb, la]; simp [Tr.list]
theorem hgt_pos {t : Tr} (h : 0 < t.hgt) : t.list ≠ [] := by
 cases t with
 | nil => simp [Tr.hgt] at h
 | node l r k v s d => simp [Tr.list]
theorem join_eq : ∀ (n : Nat) (l r : Tr) (k : ByteArray) (v : table_cell), l.hgt + r.hgt < n → l.WF → r.WF → l.list.length + r.list.length + 1 < big →
  ∃ t, tree_join.f n l k v r = some t ∧ t.WF ∧ t.list = l.list ++ (k, v) :: r.list
 | 0, _, _, _, _, h, _, _, _ => absurd h (by omega)
 | n + 1, l, r, k, v, hn, hl, hr, hb => by
  have h1 := l.hgt_le; have h2 := r.hgt_le
  have hb' := hb
  unfold big at hb'
  simp only [tree_join.f, dep_eq hl, dep_eq hr, Option.bind_some]
  rw [wr (n := (r.hgt : Int) + 1) (by omega) (by omega), wr (n := (l.hgt : Int) + 1) (by omega) (by omega)]
  by_cases c1 : (r.hgt : Int) + 1 < l.hgt
  ·rw [if_pos c1]
   cases l with
   | nil => simp [Tr.hgt] at c1; omega
   | node ll lr lk lv ls ld =>
    obtain ⟨wl, wr', _, _⟩ := hl
    simp only [Tr.hgt] at hn
    simp only [Tr.list, List.length_append, List.length_cons] at hb
    obtain ⟨u, eu, wu, lu⟩ := join_eq n lr r k v (by omega) wr' hr (by omega)
    simp only [Tr.cs, eu, Option.bind_some]
    have hul : u.list.length = lr.list.length + r.list.length + 1 := by rw [lu]; simp; omega
    cases u with
    | nil => simp [Tr.list] at lu
    | node ul ur uk uv us ud =>
     have wu' := wu
     obtain ⟨wul, wur, hus, hud⟩ := wu
     simp only [dep_eq wl, dep_eq wul, dep_eq wur, Option.bind_some]
     have h3 := ll.hgt_le
     unfold big at hb
     rw [wr (n := (ll.hgt : Int) + 1) (by omega) (by omega)]
     have hull : ul.list.length + ur.list.length + 1 = lr.list.length + r.list.length + 1 := by rw [← hul]; simp [Tr.list]; omega
     split
     ·split
      ·rename_i c3
       obtain ⟨x, ex, wx, lx⟩ := turnR (k := uk) (v := uv) (s := us) (d := ud) wul wur (hgt_pos (by omega)) (by unfold big; omega)
       obtain ⟨y, ey, wy, ly, s', d', hy⟩ := node_eq (k := lk) (v := lv) wl wx (by rw [lx]; simp only [List.length_append, List.length_cons]; unfold big; omega)
       subst hy
       obtain ⟨z, ez, wz, lz⟩ := turnL (k := lk) (v := lv) (s := s') (d := d') wl wx (by rw [lx]; simp) (by rw [lx]; simp only [List.length_append, List.length_cons]; unfold big; omega)
       refine ⟨z, by simp only [ex, ey, ez, Option.bind_some], wz, ?_⟩
       have e1 : x.list = lr.list ++ (k, v) :: r.list := by rw [lx, ← lu]; simp [Tr.list]
       rw [lz, e1]; simp [Tr.list]
      ·obtain ⟨y, ey, wy, ly, s', d', hy⟩ := node_eq (k := lk) (v := lv) wl wu' (by rw [hul]; unfold big; omega)
       subst hy
       obtain ⟨z, ez, wz, lz⟩ := turnL (k := lk) (v := lv) (s := s') (d := d') wl wu' (by simp [Tr.list]) (by rw [hul]; unfold big; omega)
       refine ⟨z, by simp only [ey, ez, Option.bind_some], wz, ?_⟩
       rw [lz, lu]; simp [Tr.list]
     ·obtain ⟨y, ey, wy, ly, _⟩ := node_eq (k := lk) (v := lv) wl wu' (by rw [hul]; unfold big; omega)
      refine ⟨y, by simp only [ey, Option.bind_some], wy, ?_⟩
      rw [ly, lu]; simp [Tr.list]
  ·rw [if_neg c1]
   by_cases c2 : (l.hgt : Int) + 1 < r.hgt
   ·rw [if_pos c2]
    cases r with
    | nil => simp [Tr.hgt] at c2; omega
    | node rl rr rk rv rs rd =>
     obtain ⟨wl, wr', _, _⟩ := hr
     simp only [Tr.hgt] at hn
     simp only [Tr.list, List.length_append, List.length_cons] at hb
     obtain ⟨u, eu, wu, lu⟩ := join_eq n l rl k v (by omega) hl wl (by omega)
     simp only [Tr.cs, eu, Option.bind_some]
     have hul : u.list.length = l.list.length + rl.list.length + 1 := by rw [lu]; simp; omega
     cases u with
     | nil => simp [Tr.list] at lu
     | node ul ur uk uv us ud =>
      have wu' := wu
      obtain ⟨wul, wur, hus, hud⟩ := wu
      simp only [dep_eq wr', dep_eq wul, dep_eq wur, Option.bind_some]
      have h3 := rr.hgt_le
      unfold big at hb
      rw [wr (n := (rr.hgt : Int) + 1) (by omega) (by omega)]
      have hull : ul.list.length + ur.list.length + 1 = l.list.length + rl.list.length + 1 := by rw [← hul]; simp [Tr.list]; omega
      split
      ·split
       ·rename_i c3
        obtain ⟨x, ex, wx, lx⟩ := turnL (k := uk) (v := uv) (s := us) (d := ud) wul wur (hgt_pos (by omega)) (by unfold big; omega)
        obtain ⟨y, ey, wy, ly, s', d', hy⟩ := node_eq (k := rk) (v := rv) wx wr' (by rw [lx]; simp only [List.length_append, List.length_cons]; unfold big; omega)
        subst hy
        obtain ⟨z, ez, wz, lz⟩ := turnR (k := rk) (v := rv) (s := s') (d := d') wx wr' (by rw [lx]; simp) (by rw [lx]; simp only [List.length_append, List.length_cons]; unfold big; omega)
        refine ⟨z, by simp only [ex, ey, ez, Option.bind_some], wz, ?_⟩
        have e1 : x.list = l.list ++ (k, v) :: rl.list := by rw [lx, ← lu]; simp [Tr.list]
        rw [lz, e1]; simp [Tr.list]
       ·obtain ⟨y, ey, wy, ly, s', d', hy⟩ := node_eq (k := rk) (v := rv) wu' wr' (by rw [hul]; unfold big; omega)
        subst hy
        obtain ⟨z, ez, wz, lz⟩ := turnR (k := rk) (v := rv) (s := s') (d := d') wu' wr' (by simp [Tr.list]) (by rw [hul]; unfold big; omega)
        refine ⟨z, by simp only [ey, ez, Option.bind_some], wz, ?_⟩
        rw [lz, lu]; simp [Tr.list]
      ·obtain ⟨y, ey, wy, ly, _⟩ := node_eq (k := rk) (v := rv) wu' wr' (by rw [hul]; unfold big; omega)
       refine ⟨y, by simp only [ey, Option.bind_some], wy, ?_⟩
       rw [ly, lu]; simp [Tr.list]
   ·rw [if_neg c2]
    obtain ⟨y, ey, wy, ly, _⟩ := node_eq (k := k) (v := v) hl hr (by omega)
    exact ⟨y, by simp only [ey, Option.bind_some], wy, ly⟩
theorem last_eq : ∀ (n : Nat) (t : Tr), 2 * t.list.length < n → t.WF → t.list ≠ [] → t.list.length < big →
  ∃ u k v, tree_last.f n t = some (u, k, v) ∧ u.WF ∧ t.list = u.list ++ [(k, v)]
 | 0, _, h, _, _, _ => absurd h (by omega)
 | n + 1, t, hn, ht, hne, hb => by
  cases t with
  | nil => exact absurd rfl hne
  | node l r k v s d =>
   obtain ⟨wl, wr', _, _⟩ := ht
   simp only [Tr.list, List.length_append, List.length_cons] at hn hb
   cases r with
   | nil => exact ⟨l, k, v, rfl, wl, by simp [Tr.list]⟩
   | node rl rr rk rv rs rd =>
    obtain ⟨u, k', v', e, wu, lu⟩ := last_eq n (.node rl rr rk rv rs rd) (by omega) wr' (by simp [Tr.list]) (by omega)
    have h1 := l.hgt_le; have h2 := u.hgt_le
    have hlen : (Tr.node rl rr rk rv rs rd).list.length = u.list.length + 1 := by rw [lu]; simp
    obtain ⟨x, ex, wx, lx⟩ := join_eq n l u k v (by omega) wl wu (by omega)
    refine ⟨x, k', v', ?_, wx, ?_⟩
    ·simp only [tree_last.f, Tr.cs]
     rw [if_neg (by simp [Tr.isNil])]
     simp only [e, ex, Option.bind_some]
    ·rw [lx]; show l.list ++ (k, v) :: (Tr.node rl rr rk rv rs rd).list = _; rw [lu]; simp
theorem both_eq (n : Nat) (l r : Tr) (hn : 2 * l.list.length + r.list.length + 1 < n) (hl : l.WF) (hr : r.WF) (hb : l.list.length + r.list.length < big) :
  ∃ t, tree_both.f n l r = some t ∧ t.WF ∧ t.list = l.list ++ r.list := by
 cases l with
 | nil => exact ⟨r, rfl, hr, rfl⟩
 | node ll lr lk lv ls ld =>
  obtain ⟨u, k, v, e, wu, lu⟩ := last_eq n (.node ll lr lk lv ls ld) (by omega) hl (by simp [Tr.list]) (by omega)
  have hlen : (Tr.node ll lr lk lv ls ld).list.length = u.list.length + 1 := by rw [lu]; simp
  have h1 := u.hgt_le; have h2 := r.hgt_le
  obtain ⟨x, ex, wx, lx⟩ := join_eq n u r k v (by omega) wu hr (by omega)
  refine ⟨x, ?_, wx, ?_⟩
  ·unfold tree_both.f
   rw [if_neg (by simp [Tr.isNil])]
   simp only [e, ex, Option.bind_some]
  ·rw [lx, lu]; simp
def lt (a b : ByteArray) : Bool := Op.bytesLess a.toList b.toList
theorem nan_eq (a : ByteArray) : cmp_isNaN.f a = some false := by simp [cmp_isNaN.f]
theorem less_eq (a b : ByteArray) : cmp_Less.f a b = some (lt a b) := by
 simp only [cmp_Less.f, nan_eq, Option.bind_some]
 rw [if_neg (by simp)]; rfl
theorem compare_eq (a b : ByteArray) : cmp_Compare.f a b = some (if lt a b = true then -1 else if (a.toList == b.toList) = true then 0 else 1) := by
 simp only [cmp_Compare.f, nan_eq, Option.bind_some]
 rw [if_neg (by simp), if_neg (by simp)]
 unfold lt
 split
 ·rfl
 ·rename_i h
  simp [h]
  split <;> rfl
theorem bl_irr : ∀ x : List UInt8, Op.bytesLess x x = false
 | [] => rfl
 | a :: x => by simp [Op.bytesLess, bl_irr x]
theorem bl_tri : ∀ x y : List UInt8, Op.bytesLess x y = false → Op.bytesLess y x = false → x = y
 | [], [], _, _ => rfl
 | [], _ :: _, h, _ => by simp [Op.bytesLess] at h
 | _ :: _, [], _, h => by simp [Op.bytesLess] at h
 | a :: x, b :: y, h1, h2 => by
  simp only [Op.bytesLess, Bool.or_eq_false_iff, Bool.and_eq_false_iff, decide_eq_false_iff_not, beq_eq_false_iff_ne] at h1 h2
  have hab : a = b := by
   have g1 := h1.1; have g2 := h2.1
   simp only [UInt8.lt_iff_toNat_lt] at g1 g2
   exact UInt8.toNat_inj.1 (by omega)
  subst hab
  have e1 := h1.2.resolve_left (fun q => q rfl)
  have e2 := h2.2.resolve_left (fun q => q rfl)
  rw [bl_tri x y e1 e2]
theorem bl_tr : ∀ x y z : List UInt8, Op.bytesLess x y = true → Op.bytesLess y z = true → Op.bytesLess x z = true
 | x, [], [], _, h => by simp [Op.bytesLess] at h
 | x, b :: y, [], _, h => by simp [Op.bytesLess] at h
 | [], [], c :: z, h, _ => by simp [Op.bytesLess] at h
 | a :: x, [], c :: z, h, _ => by simp [Op.bytesLess] at h
 | [], b :: y, c :: z, _, _ => rfl
 | a :: x, b :: y, c :: z, h1, h2 => by
  simp only [Op.bytesLess, Bool.or_eq_true, Bool.and_eq_true, decide_eq_true_eq, beq_iff_eq] at h1 h2 ⊢
  simp only [UInt8.lt_iff_toNat_lt] at h1 h2 ⊢
  rcases h1 with h1 | ⟨rfl, h1⟩
  ·rcases h2 with h2 | ⟨rfl, h2⟩
   ·left; omega
   ·left; exact h1
  ·rcases h2 with h2 | ⟨rfl, h2⟩
   ·left; exact h2
   ·right; exact ⟨rfl, bl_tr x y z h1 h2⟩
theorem toList_inj {a b : ByteArray} (h : a.toList = b.toList) : a = b := by
 rw [ByteArray.toList_eq, ByteArray.toList_eq] at h
 cases a; cases b
 simp only [ByteArray.mk.injEq]
 exact Array.toList_inj.1 h
theorem lt_irr (a : ByteArray) : lt a a = false := bl_irr _
theorem lt_tr {a b c : ByteArray} (h1 : lt a b = true) (h2 : lt b c = true) : lt a c = true := bl_tr _ _ _ h1 h2
theorem lt_tri {a b : ByteArray} (h1 : lt a b = false) (h2 : lt b a = false) : a = b := toList_inj (bl_tri _ _ h1 h2)
def Ord (L : List Ent) : Prop := L.Pairwise fun x y => lt x.1 y.1 = true
def ins (k : ByteArray) (v : table_cell) : List Ent → List Ent
 | [] => [(k, v)]
 | (a, x) :: L => if lt k a = true then (k, v) :: (a, x) :: L else if lt a k = true then (a, x) :: ins k v L else (k, v) :: L
def del (k : ByteArray) : List Ent → List Ent
 | [] => []
 | (a, x) :: L => if lt k a = true then (a, x) :: L else if lt a k = true then (a, x) :: del k L else L
def look (k : ByteArray) : List Ent → Option table_cell
 | [] => none
 | (a, x) :: L => if lt k a = true then none else if lt a k = true then look k L else some x
theorem Ord.split {A B : List Ent} {x : Ent} (h : Ord (A ++ x :: B)) : Ord A ∧ Ord B ∧ (∀ y ∈ A, lt y.1 x.1 = true) ∧ (∀ y ∈ B, lt x.1 y.1 = true) := by
 unfold Ord at h ⊢
 rw [List.pairwise_append] at h
 obtain ⟨h1, h2, h3⟩ := h
 rw [List.pairwise_cons] at h2
 exact ⟨h1, h2.2, fun y hy => h3 y hy x (by simp), h2.1⟩
theorem lt_asym {a b : ByteArray} (h : lt a b = true) : lt b a = false := by
 cases hb : lt b a with
 | false => rfl
 | true => have := lt_tr h hb; rw [lt_irr] at this; cases this
theorem ins_left {k : ByteArray} {v : table_cell} {x : Ent} {B : List Ent} (hk : lt k x.1 = true) : ∀ A : List Ent, ins k v (A ++ x :: B) = ins k v A ++ x :: B
 | [] => by simp [ins, hk]
 | (a, y) :: A => by
  simp only [List.cons_append, ins]
  split
  ·rfl
  ·split
   ·rw [ins_left hk A]; rfl
   ·rfl
theorem ins_right {k : ByteArray} {v : table_cell} {x : Ent} {B : List Ent} (hk : lt x.1 k = true) : ∀ A : List Ent, (∀ y ∈ A, lt y.1 x.1 = true) → ins k v (A ++ x :: B) = A ++ x :: ins k v B
 | [], _ => by simp [ins, hk, lt_asym hk]
 | (a, y) :: A, h => by
  have h1 : lt a k = true := lt_tr (h (a, y) (by simp)) hk
  simp only [List.cons_append, ins, h1, lt_asym h1]
  rw [ins_right hk A (fun y hy => h y (by simp [hy]))]
  simp
theorem ins_here {k : ByteArray} {v y : table_cell} {B : List Ent} : ∀ A : List Ent, (∀ y ∈ A, lt y.1 k = true) → ins k v (A ++ (k, y) :: B) = A ++ (k, v) :: B
 | [], _ => by simp [ins, lt_irr]
 | (a, y) :: A, h => by
  have h1 : lt a k = true := h (a, y) (by simp)
  simp only [List.cons_append, ins, h1, lt_asym h1]
  rw [ins_here A (fun y hy => h y (by simp [hy]))]
  simp
theorem ins_len (k : ByteArray) (v : table_cell) : ∀ L : List Ent, (ins k v L).length ≤ L.length + 1
 | [] => by simp [ins]
 | (a, x) :: L => by
  have := ins_len k v L
  simp only [ins]
  split
  ·simp
  ·split <;> simp <;> omega
theorem put_eq : ∀ (n : Nat) (t : Tr) (k : ByteArray) (v : table_cell), 2 * t.list.length + 3 < n → t.WF → Ord t.list → t.list.length + 1 < big →
  ∃ u, tree_Tree_Put.f n t k v = some u ∧ u.WF ∧ u.list = ins k v t.list
 | 0, _, _, _, h, _, _, _ => absurd h (by omega)
 | n + 1, t, k, v, hn, ht, ho, hb => by
  cases t with
  | nil =>
   obtain ⟨u, eu, wu, lu, _⟩ := node_eq (l := .nil) (r := .nil) (k := k) (v := v) trivial trivial (by simp [Tr.list, big])
   refine ⟨u, ?_, wu, by rw [lu]; rfl⟩
   simp only [tree_Tree_Put.f, eu, Option.bind_some]
   rw [if_pos (by rfl)]
  | node l r a x s d =>
   obtain ⟨wl, wr', _, _⟩ := ht
   obtain ⟨ol, or', hA, hB⟩ := Ord.split (show Ord (l.list ++ (a, x) :: r.list) from ho)
   simp only [Tr.list, List.length_append, List.length_cons] at hn hb
   simp only [tree_Tree_Put.f, Tr.cs, compare_eq, Option.bind_some]
   rw [if_neg (by simp [Tr.isNil])]
   cases h1 : lt k a with
   | true =>
    obtain ⟨u, eu, wu, lu⟩ := put_eq n l k v (by omega) wl ol (by omega)
    have hu := ins_len k v l.list; rw [← lu] at hu
    have g1 := u.hgt_le; have g2 := r.hgt_le
    obtain ⟨z, ez, wz, lz⟩ := join_eq n u r a x (by omega) wu wr' (by omega)
    refine ⟨z, ?_, wz, ?_⟩
    ·simp [eu, ez]
    ·rw [lz, lu]; exact (ins_left (x := (a, x)) h1 l.list).symm
   | false =>
    cases h2 : lt a k with
    | true =>
     have hne : (k.toList == a.toList) = false := by
      cases q : (k.toList == a.toList) with
      | false => rfl
      | true => have := toList_inj (eq_of_beq q); subst this; rw [lt_irr] at h2; cases h2
     obtain ⟨u, eu, wu, lu⟩ := put_eq n r k v (by omega) wr' or' (by omega)
     have hu := ins_len k v r.list; rw [← lu] at hu
     have g1 := u.hgt_le; have g2 := l.hgt_le
     obtain ⟨z, ez, wz, lz⟩ := join_eq n l u a x (by omega) wl wu (by omega)
     refine ⟨z, ?_, wz, ?_⟩
     ·simp [hne, eu, ez]
     ·rw [lz, lu]; exact (ins_right (x := (a, x)) h2 l.list hA).symm
    | false =>
     have he := lt_tri h1 h2
     subst he
     obtain ⟨z, ez, wz, lz, _⟩ := node_eq (k := k) (v := v) wl wr' (by omega)
     refine ⟨z, ?_, wz, ?_⟩
     ·simp [ez]
     ·rw [lz]; exact (ins_here l.list hA).symm
theorem keq {a b : ByteArray} : (a.toList == b.toList) = decide (a = b) := by
 by_cases h : a = b
 ·subst h; simp
 ·rw [decide_eq_false h]
  cases q : (a.toList == b.toList) with
  | false => rfl
  | true => exact absurd (toList_inj (eq_of_beq q)) h
theorem mem_ins {k : ByteArray} {v : table_cell} {y : Ent} : ∀ L : List Ent, y ∈ ins k v L → y = (k, v) ∨ y ∈ L
 | [], h => by simp only [ins, List.mem_singleton] at h; exact Or.inl h
 | (a, x) :: L, h => by
  simp only [ins] at h
  split at h
  ·simp only [List.mem_cons] at h ⊢; exact h
  ·split at h
   ·simp only [List.mem_cons] at h ⊢
    rcases h with h | h
    ·exact Or.inr (Or.inl h)
    ·rcases mem_ins L h with h | h
     ·exact Or.inl h
     ·exact Or.inr (Or.inr h)
   ·simp only [List.mem_cons] at h ⊢
    rcases h with h | h
    ·exact Or.inl h
    ·exact Or.inr (Or.inr h)
theorem mem_del {k : ByteArray} {y : Ent} : ∀ L : List Ent, y ∈ del k L → y ∈ L
 | [], h => by simp [del] at h
 | (a, x) :: L, h => by
  simp only [del] at h
  split at h
  ·exact h
  ·split at h
   ·simp only [List.mem_cons] at h ⊢
    rcases h with h | h
    ·exact Or.inl h
    ·exact Or.inr (mem_del L h)
   ·exact List.mem_cons_of_mem _ h
theorem ins_ord {k : ByteArray} {v : table_cell} : ∀ L : List Ent, Ord L → Ord (ins k v L)
 | [], _ => by simp [ins, Ord]
 | (a, x) :: L, h => by
  have h' := h
  unfold Ord at h'
  rw [List.pairwise_cons] at h'
  simp only [ins]
  split
  ·rename_i c
   unfold Ord
   rw [List.pairwise_cons]
   refine ⟨?_, h⟩
   intro y hy
   rcases List.mem_cons.1 hy with rfl | hy
   ·exact c
   ·exact lt_tr c (h'.1 y hy)
  ·split
   ·rename_i c1 c
    unfold Ord
    rw [List.pairwise_cons]
    refine ⟨?_, ins_ord L h'.2⟩
    intro y hy
    rcases mem_ins L hy with rfl | hy
    ·exact c
    ·exact h'.1 y hy
   ·rename_i c1 c2
    have he : k = a := lt_tri (by simpa using c1) (by simpa using c2)
    subst he
    unfold Ord
    rw [List.pairwise_cons]
    exact ⟨h'.1, h'.2⟩
theorem del_ord {k : ByteArray} : ∀ L : List Ent, Ord L → Ord (del k L)
 | [], _ => by simp [del, Ord]
 | (a, x) :: L, h => by
  have h' := h
  unfold Ord at h'
  rw [List.pairwise_cons] at h'
  simp only [del]
  split
  ·exact h
  ·split
   ·unfold Ord
    rw [List.pairwise_cons]
    exact ⟨fun y hy => h'.1 y (mem_del L hy), del_ord L h'.2⟩
   ·exact h'.2
theorem del_left {k : ByteArray} {x : Ent} {B : List Ent} (hk : lt k x.1 = true) : ∀ A : List Ent, del k (A ++ x :: B) = del k A ++ x :: B
 | [] => by simp [del, hk]
 | (a, y) :: A => by
  simp only [List.cons_append, del]
  split
  ·rfl
  ·split
   ·rw [del_left hk A]; rfl
   ·rfl
theorem del_right {k : ByteArray} {x : Ent} {B : List Ent} (hk : lt x.1 k = true) : ∀ A : List Ent, (∀ y ∈ A, lt y.1 x.1 = true) → del k (A ++ x :: B) = A ++ x :: del k B
 | [], _ => by simp [del, hk, lt_asym hk]
 | (a, y) :: A, h => by
  have h1 : lt a k = true := lt_tr (h (a, y) (by simp)) hk
  simp only [List.cons_append, del, h1, lt_asym h1]
  rw [del_right hk A (fun y hy => h y (by simp [hy]))]
  simp
theorem del_here {k : ByteArray} {y : table_cell} {B : List Ent} : ∀ A : List Ent, (∀ y ∈ A, lt y.1 k = true) → del k (A ++ (k, y) :: B) = A ++ B
 | [], _ => by simp [del, lt_irr]
 | (a, y) :: A, h => by
  have h1 : lt a k = true := h (a, y) (by simp)
  simp only [List.cons_append, del, h1, lt_asym h1]
  rw [del_here A (fun y hy => h y (by simp [hy]))]
  simp
theorem del_len (k : ByteArray) : ∀ L : List Ent, (del k L).length ≤ L.length
 | [] => by simp [del]
 | (a, x) :: L => by
  have := del_len k L
  simp only [del]
  split
  ·simp
  ·split <;> simp <;> omega
theorem look_left {k : ByteArray} {x : Ent} {B : List Ent} (hk : lt k x.1 = true) : ∀ A : List Ent, look k (A ++ x :: B) = look k A
 | [] => by simp [look, hk]
 | (a, y) :: A => by
  simp only [List.cons_append, look]
  rw [look_left hk A]
theorem look_right {k : ByteArray} {x : Ent} {B : List Ent} (hk : lt x.1 k = true) : ∀ A : List Ent, (∀ y ∈ A, lt y.1 x.1 = true) → look k (A ++ x :: B) = look k B
 | [], _ => by simp [look, hk, lt_asym hk]
 | (a, y) :: A, h => by
  have h1 : lt a k = true := lt_tr (h (a, y) (by simp)) hk
  simp only [List.cons_append, look, h1, lt_asym h1]
  rw [look_right hk A (fun y hy => h y (by simp [hy]))]
  simp
theorem look_here {k : ByteArray} {y : table_cell} {B : List Ent} : ∀ A : List Ent, (∀ y ∈ A, lt y.1 k = true) → look k (A ++ (k, y) :: B) = some y
 | [], _ => by simp [look, lt_irr]
 | (a, y) :: A, h => by
  have h1 : lt a k = true := h (a, y) (by simp)
  simp only [List.cons_append, look, h1, lt_asym h1]
  rw [look_here A (fun y hy => h y (by simp [hy]))]
  simp
theorem del_none {k : ByteArray} : ∀ L : List Ent, look k L = none → del k L = L
 | [], _ => rfl
 | (a, x) :: L, h => by
  simp only [look] at h
  simp only [del]
  split
  ·rfl
  ·rename_i c1
   rw [if_neg c1] at h
   split
   ·rename_i c2; rw [if_pos c2] at h; rw [del_none L h]
   ·rename_i c2; rw [if_neg c2] at h; cases h
theorem look_mem {k : ByteArray} {x : table_cell} : ∀ L : List Ent, look k L = some x → (k, x) ∈ L
 | [], h => by simp [look] at h
 | (a, y) :: L, h => by
  simp only [look] at h
  split at h
  ·cases h
  ·split at h
   ·exact List.mem_cons_of_mem _ (look_mem L h)
   ·rename_i c1 c2
    have he : k = a := lt_tri (by simpa using c1) (by simpa using c2)
    subst he
    cases h
    simp
theorem keqb {k a : ByteArray} (h : lt a k = true) : (k.toList == a.toList) = false := by
 cases q : (k.toList == a.toList) with
 | false => rfl
 | true => have := toList_inj (eq_of_beq q); subst this; rw [lt_irr] at h; cases h
theorem delete_eq : ∀ (n : Nat) (t : Tr) (k : ByteArray), 4 * t.list.length + 3 < n → t.WF → Ord t.list → t.list.length + 1 < big →
  ∃ u, tree_Tree_Delete.f n t k = some (u, (look k t.list).isSome) ∧ u.WF ∧ u.list = del k t.list
 | 0, _, _, h, _, _, _ => absurd h (by omega)
 | n + 1, t, k, hn, ht, ho, hb => by
  cases t with
  | nil => exact ⟨.nil, rfl, trivial, rfl⟩
  | node l r a x s d =>
   have ht' := ht
   obtain ⟨wl, wr', _, _⟩ := ht
   obtain ⟨ol, or', hA, hB⟩ := Ord.split (show Ord (l.list ++ (a, x) :: r.list) from ho)
   simp only [Tr.list, List.length_append, List.length_cons] at hn hb
   simp only [tree_Tree_Delete.f, Tr.cs, compare_eq, Option.bind_some]
   rw [if_neg (by simp [Tr.isNil])]
   cases h1 : lt k a with
   | true =>
    obtain ⟨u, eu, wu, lu⟩ := delete_eq n l k (by omega) wl ol (by omega)
    have hl : look k (l.list ++ (a, x) :: r.list) = look k l.list := look_left (x := (a, x)) h1 l.list
    have hd : del k (l.list ++ (a, x) :: r.list) = del k l.list ++ (a, x) :: r.list := del_left (x := (a, x)) h1 l.list
    show ∃ u : Tr, _ = some (u, (look k (l.list ++ (a, x) :: r.list)).isSome) ∧ u.WF ∧ u.list = del k (l.list ++ (a, x) :: r.list)
    rw [hl, hd]
    cases hs : (look k l.list).isSome with
    | false =>
     rw [hs] at eu
     refine ⟨_, ?_, ht', ?_⟩
     ·simp [eu]
     ·rw [del_none l.list (by simpa using hs)]; rfl
    | true =>
     rw [hs] at eu
     have hu := del_len k l.list; rw [← lu] at hu
     have g1 := u.hgt_le; have g2 := r.hgt_le
     obtain ⟨z, ez, wz, lz⟩ := join_eq n u r a x (by omega) wu wr' (by omega)
     refine ⟨z, ?_, wz, ?_⟩
     ·simp [eu, ez]
     ·rw [lz, lu]
   | false =>
    cases h2 : lt a k with
    | true =>
     obtain ⟨u, eu, wu, lu⟩ := delete_eq n r k (by omega) wr' or' (by omega)
     have hl : look k (l.list ++ (a, x) :: r.list) = look k r.list := look_right (x := (a, x)) h2 l.list hA
     have hd : del k (l.list ++ (a, x) :: r.list) = l.list ++ (a, x) :: del k r.list := del_right (x := (a, x)) h2 l.list hA
     show ∃ u : Tr, _ = some (u, (look k (l.list ++ (a, x) :: r.list)).isSome) ∧ u.WF ∧ u.list = del k (l.list ++ (a, x) :: r.list)
     rw [hl, hd]
     cases hs : (look k r.list).isSome with
     | false =>
      rw [hs] at eu
      refine ⟨_, ?_, ht', ?_⟩
      ·simp [keqb h2, eu]
      ·rw [del_none r.list (by simpa using hs)]; rfl
     | true =>
      rw [hs] at eu
      have hu := del_len k r.list; rw [← lu] at hu
      have g1 := u.hgt_le; have g2 := l.hgt_le
      obtain ⟨z, ez, wz, lz⟩ := join_eq n l u a x (by omega) wl wu (by omega)
      refine ⟨z, ?_, wz, ?_⟩
      ·simp [keqb h2, eu, ez]
      ·rw [lz, lu]
    | false =>
     have he := lt_tri h1 h2
     subst he
     obtain ⟨z, ez, wz, lz⟩ := both_eq n l r (by omega) wl wr' (by omega)
     refine ⟨z, ?_, wz, ?_⟩
     ·show _ = some (z, (look k (l.list ++ (k, x) :: r.list)).isSome)
      rw [look_here l.list hA]; simp [ez]
     ·rw [lz]; exact (del_here l.list hA).symm
theorem loop_next {S X : Type} {f : S → Option (Ctl S X)} {n : Nat} {s s' : S} (h : f s = some (.next s')) : loop f (n + 1) s = loop f n s' := by
 show (f s).bind _ = _; rw [h]; rfl
theorem loop_done {S X : Type} {f : S → Option (Ctl S X)} {n : Nat} {s : S} {x : X} (h : f s = some (.done x)) : loop f (n + 1) s = some x := by
 show (f s).bind _ = _; rw [h]; rfl
def gotQ (o : Option table_cell) : table_cell × Bool := match o with
 | some x => (x, true)
 | none => (table_cell.mk [] 0, false)
theorem get_eq : ∀ (n : Nat) (t : Tr) (k : ByteArray), t.hgt < n → Ord t.list →
  tree_Tree_Get.f n t k = some (gotQ (look k t.list)) := by
 have key : ∀ (n : Nat) (t : Tr) (k : ByteArray), t.hgt < n → Ord t.list →
  loop (tree_Tree_Get.b1 k) n t = some ((look k t.list).elim (Sum.inl ()) fun x => Sum.inr (x, true)) := by
  intro n
  induction n with
  | zero => intro t k h; omega
  | succ n ih =>
   intro t k hn ho
   cases t with
   | nil => rfl
   | node l r a x s d =>
    obtain ⟨ol, or', hA, hB⟩ := Ord.split (show Ord (l.list ++ (a, x) :: r.list) from ho)
    simp only [Tr.hgt] at hn
    simp only [Tr.list]
    cases h1 : lt k a with
    | true =>
     rw [look_left (x := (a, x)) h1 l.list, loop_next (s' := l)]
     ·exact ih l k (by omega) ol
     ·unfold tree_Tree_Get.b1
      rw [if_neg (by simp [Tr.isNil])]
      simp [Tr.cs, compare_eq, h1]
    | false =>
     cases h2 : lt a k with
     | true =>
      rw [look_right (x := (a, x)) h2 l.list hA, loop_next (s' := r)]
      ·exact ih r k (by omega) or'
      ·unfold tree_Tree_Get.b1
       rw [if_neg (by simp [Tr.isNil])]
       simp [Tr.cs, compare_eq, h1, keqb h2]
     | false =>
      have he := lt_tri h1 h2
      subst he
      rw [look_here l.list hA, loop_done (x := Sum.inr (x, true))]
      ·rfl
      ·unfold tree_Tree_Get.b1
       rw [if_neg (by simp [Tr.isNil])]
       simp [Tr.cs, compare_eq, h1]
 intro n t k hn ho
 unfold tree_Tree_Get.f
 show (loop (tree_Tree_Get.b1 k) n t).bind _ = _
 rw [key n t k hn ho]
 cases look k t.list <;> rfl
section
variable {σ X : Type} (g : σ → ByteArray → table_cell → Option (Ctl σ X))
def foldC : List Ent → σ → Option (Ctl σ X)
 | [], s => some (.next s)
 | (k, v) :: L, s => thenC (g s k v) fun s => foldC L s
theorem thenC_assoc (y : Option (Ctl σ X)) (f h : σ → Option (Ctl σ X)) : thenC (thenC y f) h = thenC y fun s => thenC (f s) h := by
 cases y with
 | none => rfl
 | some c => cases c <;> rfl
theorem foldC_app : ∀ (A B : List Ent) (s : σ), foldC g (A ++ B) s = thenC (foldC g A s) fun s => foldC g B s
 | [], B, s => rfl
 | (k, v) :: A, B, s => by
  show thenC (g s k v) (fun s => foldC g (A ++ B) s) = thenC (thenC (g s k v) fun s => foldC g A s) fun s => foldC g B s
  rw [thenC_assoc]
  congr 1; funext s; exact foldC_app A B s
theorem up_eq : ∀ (t : Tr) (s : σ), Tr.up g t s = foldC g t.list s
 | .nil, s => rfl
 | .node l r k v _ _, s => by
  show thenC (Tr.up g l s) _ = foldC g (l.list ++ (k, v) :: r.list) s
  rw [foldC_app, up_eq l s]
  congr 1; funext s'
  show thenC _ _ = thenC _ _
  congr 1; funext s''; exact up_eq r s''
def above (key : ByteArray) (L : List Ent) : List Ent := L.filter fun e => !lt e.1 key
theorem from_eq (key : ByteArray) : ∀ (t : Tr) (s : σ), Ord t.list → Tr.from key g t s = foldC g (above key t.list) s
 | .nil, s, _ => rfl
 | .node l r k v _ _, s, ho => by
  obtain ⟨ol, or', hA, hB⟩ := Ord.split (show Ord (l.list ++ (k, v) :: r.list) from ho)
  show (cmp_Less.f k key).bind _ = foldC g (above key (l.list ++ (k, v) :: r.list)) s
  rw [less_eq, Option.bind_some]
  unfold above
  rw [List.filter_append]
  cases h : lt k key with
  | true =>
   rw [if_pos rfl, from_eq key r s or']
   have e1 : l.list.filter (fun e => !lt e.1 key) = [] := by
    rw [List.filter_eq_nil_iff]
    intro a ha
    simp [lt_tr (hA a ha) h]
   rw [e1, List.filter_cons, if_neg (by simp [h])]
   rfl
  | false =>
   rw [if_neg (by simp), List.filter_cons, if_pos (by simp [h])]
   have e2 : r.list.filter (fun e => !lt e.1 key) = r.list := by
    rw [List.filter_eq_self]
    intro a ha
    have := hB a ha
    simp only [Bool.not_eq_true']
    cases q : lt a.1 key with
    | false => rfl
    | true => rw [lt_tr this q] at h; cases h
   rw [e2, foldC_app, from_eq key l s ol]
   congr 1; funext s'
   show thenC _ _ = thenC _ _
   congr 1; funext s''; exact up_eq g r s''
end
def seekQ (L : List Ent) : ByteArray × table_cell × Bool := match L with
 | [] => (.empty, table_cell.mk [] 0, false)
 | (k, v) :: _ => (k, v, true)
theorem seek_eq (t : Tr) (key : ByteArray) (ho : Ord t.list) :
  tree_Tree_Seek.f t key = some (seekQ (above key t.list)) := by
 unfold tree_Tree_Seek.f
 show (some (It.from t key)).bind _ = _
 rw [Option.bind_some]
 show (Tr.from key _ t ()).bind _ = _
 rw [from_eq _ key t () ho]
 cases above key t.list with
 | nil => rfl
 | cons e L => rfl
abbrev Fuel (k : Nat) : Prop := 1099511627776 ≤ k
theorem bind_eq {α β : Type} {x : Option α} {f : α → Option β} {a : α} (h : x = some a) : x.bind f = f a := by rw [h]; rfl
theorem shr7 (n : Nat) : shr .i64 (n : Int) 7 = ((n / 128 : Nat) : Int) := by
 unfold shr
 have : (2 : Int) ^ (min (7 : Int).toNat IntKind.i64.bits) = 128 := by decide
 rw [this, Int.fdiv_eq_ediv_of_nonneg _ (by omega)]
 omega
theorem shr7u (n : Nat) : shr .u64 (n : Int) 7 = ((n / 128 : Nat) : Int) := by
 unfold shr
 have : (2 : Int) ^ (min (7 : Int).toNat IntKind.u64.bits) = 128 := by decide
 rw [this, Int.fdiv_eq_ediv_of_nonneg _ (by omega)]
 omega
def nmF : Nat → Nat → Nat
 | 0, _ => 0
 | f + 1, n => if n ≤ 127 then 0 else nmF f (n / 128) + 1
def nm (n : Nat) : Nat := 1 + nmF 9 n
theorem nmF_le : ∀ f n, nmF f n ≤ f
 | 0, _ => Nat.le_refl _
 | f + 1, n => by
  have := nmF_le f (n / 128)
  unfold nmF; split <;> omega
theorem num_loop : ∀ (f n s k : Nat), n < 128 ^ f → f < k → s + f < 1000 → loop (fun (s_ : Int × Int) => table_num.b1 s_.1 s_.2) k ((n : Int), (s : Int)) = some ((s + nmF f n : Nat) : Int)
 | _, _, _, 0, _, h, _ => absurd h (by omega)
 | 0, n, s, k + 1, h, _, _ => by
  have : n = 0 := by simpa using h
  subst this
  rw [loop_done (x := (s : Int))]
  ·simp [nmF]
  ·simp [table_num.b1]
 | f + 1, n, s, k + 1, h, hk, hs => by
  by_cases c : n ≤ 127
  ·rw [loop_done (x := (s : Int))]
   ·simp [nmF, c]
   ·unfold table_num.b1; rw [if_neg (by omega)]
  ·have hd : n / 128 < 128 ^ f := by rw [Nat.pow_succ] at h; omega
   rw [loop_next (s' := (((n / 128 : Nat) : Int), ((s + 1 : Nat) : Int)))]
   ·rw [num_loop f (n / 128) (s + 1) k hd (by omega) (by omega)]
    simp only [nmF, if_neg c]; congr 2; omega
   ·unfold table_num.b1
    rw [if_pos (by omega), shr7, wr (by omega) (by omega)]
    congr 3
theorem num_eq {k n : Nat} (hk : Fuel k) (hn : n < 9223372036854775808) : table_num.f k (n : Int) = some (nm n : Int) := by
 unfold table_num.f
 rw [show ((n : Int), (1 : Int)) = ((n : Int), ((1 : Nat) : Int)) from rfl, bind_eq (num_loop 9 n 1 k (by omega) (by omega) (by omega))]
 rfl
def lg (k : ByteArray) (c : table_cell) : Int := nm k.size + k.size + nm c.value.length + c.value.length + nm c.rev.toNat
def sz (L : List Ent) : Int := (L.map fun e => lg e.1 e.2).sum
structure Inv (L : List Ent) (r : Nat) : Prop where
 ord : Ord L
 len : L.length ≤ r
 ent : ∀ e ∈ L, 1 ≤ e.1.size ∧ e.1.size ≤ 64 ∧ e.2.value.length ≤ 256 ∧ 1 ≤ e.2.rev ∧ e.2.rev ≤ r
theorem nm_le (n : Nat) : 1 ≤ nm n ∧ nm n ≤ 10 := by have := nmF_le 9 n; unfold nm; omega
theorem lg_le {k : ByteArray} {c : table_cell} (h1 : k.size ≤ 64) (h2 : c.value.length ≤ 256) : 0 ≤ lg k c ∧ lg k c ≤ 400 := by
 have := nm_le k.size; have := nm_le c.value.length; have := nm_le c.rev.toNat
 unfold lg; omega
theorem sz_le : ∀ {L : List Ent} {r : Nat}, (∀ e ∈ L, 1 ≤ e.1.size ∧ e.1.size ≤ 64 ∧ e.2.value.length ≤ 256 ∧ 1 ≤ e.2.rev ∧ e.2.rev ≤ (r : Int)) → 0 ≤ sz L ∧ sz L ≤ 400 * L.length
 | [], _, _ => by simp [sz]
 | e :: L, r, h => by
  have h1 := sz_le (L := L) (r := r) (fun x hx => h x (by simp [hx]))
  have h2 := h e (by simp)
  have h3 := lg_le h2.2.1 h2.2.2.1
  simp only [sz, List.map_cons, List.sum_cons, List.length_cons] at h1 ⊢
  omega
theorem long_eq {k : Nat} (hk : Fuel k) {key : ByteArray} {c : table_cell} (h1 : key.size ≤ 64) (h2 : c.value.length ≤ 256) (h3 : 0 ≤ c.rev) (h4 : c.rev ≤ 1099511627776) : table_long.f k key c = some (lg key c) := by
 have e3 : (c.rev : Int) = ((c.rev.toNat : Nat) : Int) := by omega
 have := nm_le key.size; have := nm_le c.value.length; have := nm_le c.rev.toNat
 unfold table_long.f
 rw [bind_eq (num_eq hk (n := key.size) (by omega)), bind_eq (num_eq hk (n := c.value.length) (by omega)), e3, bind_eq (num_eq hk (n := c.rev.toNat) (by omega))]
 rw [wr (n := (nm key.size : Int) + key.size) (by omega) (by omega), wr (n := (nm key.size : Int) + key.size + nm c.value.length) (by omega) (by omega), wr (n := (nm key.size : Int) + key.size + nm c.value.length + c.value.length) (by omega) (by omega), wr (by omega) (by omega)]
 rfl
theorem sz_cons (e : Ent) (L : List Ent) : sz (e :: L) = lg e.1 e.2 + sz L := by simp [sz]
theorem sz_ins (k : ByteArray) (v : table_cell) : ∀ L : List Ent, sz (ins k v L) = sz L + lg k v - (look k L).elim 0 (fun o => lg k o)
 | [] => by simp [ins, look, sz]
 | (a, x) :: L => by
  simp only [ins, look]
  split
  ·simp only [sz_cons, Option.elim]; omega
  ·split
   ·rw [sz_cons, sz_cons, sz_ins k v L]; omega
   ·rename_i c1 c2
    have he : k = a := lt_tri (by simpa using c1) (by simpa using c2)
    subst he
    simp only [sz_cons, Option.elim]; omega
theorem sz_del (k : ByteArray) : ∀ L : List Ent, sz (del k L) = sz L - (look k L).elim 0 (fun o => lg k o)
 | [] => by simp [del, look, sz]
 | (a, x) :: L => by
  simp only [del, look]
  split
  ·simp only [Option.elim]; omega
  ·split
   ·rw [sz_cons, sz_cons, sz_del k L]; omega
   ·rename_i c1 c2
    have he : k = a := lt_tri (by simpa using c1) (by simpa using c2)
    subst he
    simp only [sz_cons, Option.elim]; omega
theorem Inv.look {L : List Ent} {r : Nat} (h : Inv L r) {k : ByteArray} {c : table_cell} (hl : look k L = some c) : 1 ≤ k.size ∧ k.size ≤ 64 ∧ c.value.length ≤ 256 ∧ 1 ≤ c.rev ∧ c.rev ≤ r := h.ent _ (look_mem L hl)
theorem Inv.ins {L : List Ent} {r : Nat} (h : Inv L r) {k : ByteArray} {v : List Int} (h1 : 1 ≤ k.size) (h2 : k.size ≤ 64) (h3 : v.length ≤ 256) : Inv (ins k ⟨v, r + 1⟩ L) (r + 1) := by
 refine ⟨ins_ord L h.ord, ?_, fun e he => ?_⟩
 ·have := ins_len k ⟨v, r + 1⟩ L; have := h.len; omega
 ·rcases mem_ins L he with rfl | he
  ·exact ⟨h1, h2, h3, by show (1 : Int) ≤ (r : Int) + 1; omega, by show (r : Int) + 1 ≤ ((r + 1 : Nat) : Int); omega⟩
  ·have := h.ent e he; refine ⟨this.1, this.2.1, this.2.2.1, this.2.2.2.1, ?_⟩; have := this.2.2.2.2; omega
theorem Inv.del {L : List Ent} {r : Nat} (h : Inv L r) (k : ByteArray) : Inv (del k L) (r + 1) := by
 refine ⟨del_ord L h.ord, ?_, fun e he => ?_⟩
 ·have := del_len k L; have := h.len; omega
 ·have := h.ent e (mem_del L he); refine ⟨this.1, this.2.1, this.2.2.1, this.2.2.2.1, ?_⟩; have := this.2.2.2.2; omega
theorem Inv.up {L : List Ent} {r : Nat} (h : Inv L r) : Inv L (r + 1) := by
 refine ⟨h.ord, by have := h.len; omega, fun e he => ?_⟩
 have := h.ent e he; refine ⟨this.1, this.2.1, this.2.2.1, this.2.2.2.1, ?_⟩; have := this.2.2.2.2; omega
def Rep (t : Option Tab) (L : List Ent) (r : Nat) : Prop := ∃ rows, t = some ⟨rows, r, sz L⟩ ∧ rows.WF ∧ rows.list = L ∧ Inv L r
def told (r : Int) (k : ByteArray) (o : Option table_cell) : api_Answer := match o with
 | some c => ⟨true, sb k, c.value, c.rev, r⟩
 | none => ⟨false, [], [], 0, r⟩
def zeroA : api_Answer := ⟨false, [], [], 0, 0⟩
def keyok (o : api_Op) : Bool := decide (0 < o.Key.length) && decide (o.Key.length ≤ 64)
def right (o : api_Op) : Bool :=
 if o.Kind = 4 then keyok o && decide (o.Value.length ≤ 256) && decide (0 ≤ o.Rev) && decide (o.Rev ≤ 1099511627776)
 else if o.Kind = 2 then keyok o && decide (o.Value.length ≤ 256) && decide (o.Rev = 0)
 else if o.Kind = 5 then decide (o.Key.length ≤ 65) && decide (o.Value.length = 0) && decide (o.Rev = 0)
 else if o.Kind = 1 ∨ o.Kind = 3 then keyok o && decide (o.Value.length = 0) && decide (o.Rev = 0)
 else false
theorem j4_eq (a b c : Bool) : table_Right.j4 a b c = some (a && b && c) := by cases a <;> cases b <;> cases c <;> rfl
theorem right_eq (o : api_Op) : table_Right.f o = some (right o) := by
 have hk : ∀ b, (if 0 < (o.Key.length : Int) then table_Right.j1 o (decide ((o.Key.length : Int) ≤ 64)) else table_Right.j1 o false) = some b ↔ table_Right.j1 o (keyok o) = some b := by
  intro b
  unfold keyok
  by_cases h : 0 < o.Key.length
  ·rw [if_pos (by omega), decide_eq_true h, Bool.true_and]
   have : decide ((o.Key.length : Int) ≤ 64) = decide (o.Key.length ≤ 64) := by apply decide_eq_decide.2; omega
   rw [this]
  ·rw [if_neg (by omega), decide_eq_false h, Bool.false_and]
 unfold table_Right.f
 rw [hk]
 have v1 : decide ((o.Value.length : Int) ≤ 256) = decide (o.Value.length ≤ 256) := by apply decide_eq_decide.2; omega
 have v2 : decide ((o.Value.length : Int) = 0) = decide (o.Value.length = 0) := by apply decide_eq_decide.2; omega
 have v3 : decide ((o.Key.length : Int) ≤ 65) = decide (o.Key.length ≤ 65) := by apply decide_eq_decide.2; omega
 unfold table_Right.j1 table_Right.j2 table_Right.j3 right
 simp only [j4_eq, v1, v2, v3]
 by_cases c4 : o.Kind = 4
 ·simp only [c4, if_true]
  by_cases c : 0 ≤ o.Rev
  ·simp [c]
  ·simp [c]
 ·simp only [c4, if_false]
  by_cases c2 : o.Kind = 2
  ·simp only [c2, if_true]
  ·simp only [c2, if_false]
   by_cases c5 : o.Kind = 5
   ·simp only [c5, if_true]
   ·simp only [c5, if_false]
    by_cases c1 : o.Kind = 1
    ·simp [c1]
    ·by_cases c3 : o.Kind = 3
     ·simp [c3]
     ·simp [c1, c3]
def isW (o : api_Op) : Bool := decide (o.Kind = 2) || decide (o.Kind = 3) || decide (o.Kind = 4)
theorem writes_eq (o : api_Op) : table_writes.f o = some (isW o) := by
 unfold table_writes.f isW
 by_cases c2 : o.Kind = 2
 ·simp [c2]
 ·by_cases c3 : o.Kind = 3
  ·simp [c3]
  ·simp [c2, c3]
theorem bs_size (l : List Int) : (bs l).size = l.length := by simp [bs, ByteArray.size]
theorem right_key {o : api_Op} (h : right o = true) : o.Key.length ≤ 65 ∧ o.Value.length ≤ 256 ∧ (o.Kind ≠ 5 → 1 ≤ o.Key.length ∧ o.Key.length ≤ 64) ∧ (o.Kind = 1 ∨ o.Kind = 2 ∨ o.Kind = 3 ∨ o.Kind = 4 ∨ o.Kind = 5) := by
 unfold right keyok at h
 split at h
 ·simp only [Bool.and_eq_true, decide_eq_true_eq] at h; omega
 ·split at h
  ·simp only [Bool.and_eq_true, decide_eq_true_eq] at h; omega
  ·split at h
   ·simp only [Bool.and_eq_true, decide_eq_true_eq] at h; omega
   ·split at h
    ·simp only [Bool.and_eq_true, decide_eq_true_eq] at h; omega
    ·cases h
theorem told_some {rows : Tr} {r z : Int} {k : ByteArray} {c : table_cell} (h1 : k.size ≤ 1000) (h2 : c.value.length ≤ 1000) : table_Table_told.f (some ⟨rows, r, z⟩) k c true = some (told r k (some c)) := by
 unfold table_Table_told.f bytes_Clone.f
 simp only [Option.bind_some, if_true]
 rw [if_pos (by omega), if_pos (by omega)]
 rfl
theorem told_none {rows : Tr} {r z : Int} {k : ByteArray} {c : table_cell} : table_Table_told.f (some ⟨rows, r, z⟩) k c false = some (told r k none) := by
 unfold table_Table_told.f
 simp [told]
theorem told_look {rows : Tr} {r z : Int} {k : ByteArray} {L : List Ent} {n : Nat} (hI : Inv L n) :
  table_Table_told.f (some ⟨rows, r, z⟩) k (gotQ (look k L)).1 (gotQ (look k L)).2 = some (told r k (look k L)) := by
 cases h : look k L with
 | none => exact told_none
 | some c => have := hI.look h; exact told_some (k := k) (c := c) (by omega) (by omega)
def okE (e : Ent) : Prop := e.1.size ≤ 64 ∧ e.2.value.length ≤ 256 ∧ 0 ≤ e.2.rev ∧ e.2.rev ≤ 1099511627776
theorem sz_ok : ∀ {L : List Ent}, (∀ e ∈ L, okE e) → 0 ≤ sz L ∧ sz L ≤ 400 * L.length
 | [], _ => by simp [sz]
 | e :: L, h => by
  have h1 := sz_ok (L := L) (fun x hx => h x (by simp [hx]))
  have h2 := h e (by simp)
  have h3 := lg_le h2.1 h2.2.1
  simp only [sz, List.map_cons, List.sum_cons, List.length_cons] at h1 ⊢
  omega
theorem set_put0 {k : Nat} (hk : Fuel k) {rows : Tr} {L : List Ent} {R : Int} (hlen : L.length < 10000000000) (hw : rows.WF) (hl : rows.list = L) (ho : Ord L) (hE : ∀ e ∈ L, okE e) {key : ByteArray} {c : table_cell} (hc : okE (key, c)) :
  ∃ u, table_Table_set.f k (some ⟨rows, R, sz L⟩) key c true = some (some ⟨u, R, sz (ins key c L)⟩) ∧ u.WF ∧ u.list = ins key c L := by
 subst hl
 have hh := rows.hgt_le
 obtain ⟨u, eu, wu, lu⟩ := put_eq k rows key c (by have : 1099511627776 ≤ k := hk; omega) hw ho (by unfold big; omega)
 have hsz := sz_ok hE
 have hlg := lg_le (k := key) (c := c) hc.1 hc.2.1
 have hlk : 0 ≤ (look key rows.list).elim 0 (fun o => lg key o) ∧ (look key rows.list).elim 0 (fun o => lg key o) ≤ 400 := by
  cases h : look key rows.list with
  | none => simp
  | some x => have := hE _ (look_mem _ h); exact lg_le (k := key) (c := x) this.1 this.2.1
 have hput : table_Table_set.j1 k key c true ⟨rows, R, sz rows.list⟩ (sz rows.list - (look key rows.list).elim 0 (fun o => lg key o)) = some (some ⟨u, R, sz (ins key c rows.list)⟩) := by
  unfold table_Table_set.j1
  rw [if_pos rfl, bind_eq eu, bind_eq (long_eq hk (key := key) (c := c) hc.1 hc.2.1 hc.2.2.1 hc.2.2.2)]
  rw [sz_ins]
  rw [wr (by omega) (by omega)]
  simp only [Option.some.injEq, Tab.mk.injEq, true_and]; omega
 refine ⟨u, ?_, wu, lu⟩
 unfold table_Table_set.f
 simp only [Option.bind_some]
 rw [bind_eq (get_eq k rows key (by have : 1099511627776 ≤ k := hk; omega) ho)]
 cases h : look key rows.list with
 | none =>
  rw [h] at hput
  simp only [Option.elim, Int.sub_zero] at hput
  rw [if_neg (by simp [gotQ])]
  exact hput
 | some x =>
  have hx := hE _ (look_mem _ h)
  rw [h] at hput
  simp only [Option.elim] at hput
  have hL : table_long.f k key (gotQ (some x)).1 = some (lg key x) := long_eq hk (c := x) hx.1 hx.2.1 hx.2.2.1 hx.2.2.2
  rw [if_pos (show (gotQ (some x)).2 = true from rfl), bind_eq hL]
  have := lg_le (k := key) (c := x) hx.1 hx.2.1
  rw [wr (by omega) (by omega)]
  exact hput
theorem set_put {k : Nat} (hk : Fuel k) {rows : Tr} {L : List Ent} {r : Nat} (hlen : L.length < 10000000000) (hr : r < 1099511627776) (hw : rows.WF) (hl : rows.list = L) (hI : Inv L r) {key : ByteArray} {v : List Int} (h1 : 1 ≤ key.size) (h2 : key.size ≤ 64) (h3 : v.length ≤ 256) :
  ∃ t, table_Table_set.f k (some ⟨rows, r + 1, sz L⟩) key ⟨v, r + 1⟩ true = some t ∧ Rep t (ins key ⟨v, r + 1⟩ L) (r + 1) := by
 obtain ⟨u, e, wu, lu⟩ := set_put0 hk (R := (r : Int) + 1) hlen hw hl hI.ord (fun e he => by have := hI.ent e he; exact ⟨this.2.1, this.2.2.1, by omega, by omega⟩) (key := key) (c := ⟨v, (r : Int) + 1⟩) ⟨h2, h3, by show (0 : Int) ≤ (r : Int) + 1; omega, by show (r : Int) + 1 ≤ _; omega⟩
 exact ⟨_, e, u, rfl, wu, lu, hI.ins h1 h2 h3⟩
theorem set_del {k : Nat} (hk : Fuel k) {rows : Tr} {L : List Ent} {r : Nat} (hlen : L.length < 10000000000) (hr : r < 1099511627776) (hw : rows.WF) (hl : rows.list = L) (hI : Inv L r) {key : ByteArray} {c0 : table_cell} :
  ∃ t, table_Table_set.f k (some ⟨rows, r + 1, sz L⟩) key c0 false = some t ∧ Rep t (del key L) (r + 1) := by
 subst hl
 have hh := rows.hgt_le
 obtain ⟨u, eu, wu, lu⟩ := delete_eq k rows key (by have : 1099511627776 ≤ k := hk; omega) hw hI.ord (by unfold big; omega)
 have hsz := sz_le hI.ent
 have hput : table_Table_set.j1 k key c0 false ⟨rows, r + 1, sz rows.list⟩ (sz rows.list - (look key rows.list).elim 0 (fun o => lg key o)) = some (some ⟨u, r + 1, sz (del key rows.list)⟩) := by
  unfold table_Table_set.j1
  rw [if_neg (by simp), bind_eq eu, sz_del]
 refine ⟨_, ?_, u, rfl, wu, lu, hI.del key⟩
 unfold table_Table_set.f
 simp only [Option.bind_some]
 rw [bind_eq (get_eq k rows key (by have : 1099511627776 ≤ k := hk; omega) hI.ord)]
 rw [show ((r + 1 : Nat) : Int) = (r : Int) + 1 by omega]
 cases h : look key rows.list with
 | none =>
  rw [h] at hput
  simp only [Option.elim, Int.sub_zero] at hput
  rw [if_neg (by simp [gotQ])]
  exact hput
 | some c =>
  have hc := hI.look h
  rw [h] at hput
  simp only [Option.elim] at hput
  have hL : table_long.f k key (gotQ (some c)).1 = some (lg key c) := long_eq hk (c := c) hc.2.1 hc.2.2.1 (by omega) (by omega)
  rw [if_pos (show (gotQ (some c)).2 = true from rfl), bind_eq hL]
  have := lg_le hc.2.1 hc.2.2.1
  rw [wr (by omega) (by omega)]
  exact hput
def act (L : List Ent) (r : Nat) (o : api_Op) : api_Answer × Int × List Ent × Nat :=
 if right o = false then (zeroA, 131, L, r)
 else if o.Kind = 5 then ((match above (bs o.Key) L with | [] => told r .empty none | (k, v) :: _ => told r k (some v)), 0, L, r)
 else if o.Kind = 1 then (told r (bs o.Key) (look (bs o.Key) L), 0, L, r)
 else if o.Kind = 3 then (told ((r : Int) + 1) (bs o.Key) (look (bs o.Key) L), 0, del (bs o.Key) L, r + 1)
 else if o.Kind = 2 ∨ (look (bs o.Key) L).elim 0 (fun c => c.rev) = o.Rev then ({ told ((r : Int) + 1) (bs o.Key) (look (bs o.Key) L) with Done := true }, 0, ins (bs o.Key) ⟨o.Value, r + 1⟩ L, r + 1)
 else ({ told ((r : Int) + 1) (bs o.Key) (look (bs o.Key) L) with Done := false }, 0, L, r + 1)
theorem above_mem {key : ByteArray} {L : List Ent} {e : Ent} {M : List Ent} (h : above key L = e :: M) : e ∈ L := by
 have : e ∈ above key L := by rw [h]; simp
 exact (List.mem_filter.1 this).1
def fullQ (r : Nat) (o : api_Op) : Prop := right o = true ∧ isW o = true ∧ r = 1099511627776
instance (r : Nat) (o : api_Op) : Decidable (fullQ r o) := by unfold fullQ; infer_instance
def actE (L : List Ent) (r : Nat) (o : api_Op) : api_Answer × Int × List Ent × Nat := if fullQ r o then (zeroA, 132, L, r) else act L r o
theorem do_eq0 {k : Nat} (hk : Fuel k) {t : Option Tab} {L : List Ent} {r : Nat} (hlen : L.length < 2000000000) (hr : r ≤ 1099511627776) (hT : Rep t L r) (o : api_Op) :
  ∃ t', table_Table_Do.f k t o = some ((actE L r o).1, (actE L r o).2.1, t') ∧ Rep t' (actE L r o).2.2.1 (actE L r o).2.2.2 := by
 obtain ⟨rows, rfl, hw, hl, hI⟩ := hT
 subst hl
 have hT : Rep (some ⟨rows, r, sz rows.list⟩) rows.list r := ⟨rows, rfl, hw, rfl, hI⟩
 have hh := rows.hgt_le
 have h24 : 1099511627776 ≤ k := hk
 unfold table_Table_Do.f actE act
 rw [if_neg (by simp), bind_eq (right_eq o)]
 cases hR : right o with
 | false => rw [if_neg (show ¬ fullQ r o from fun h => by have := h.1; rw [hR] at this; cases this)]; exact ⟨_, rfl, hT⟩
 | true =>
  obtain ⟨k1, k2, k3, k4⟩ := right_key hR
  rw [if_pos rfl, if_neg (show ¬ (true = false) by simp)]
  by_cases c5 : o.Kind = 5
  ·rw [if_neg (show ¬ fullQ r o from fun h => by have := h.2.1; simp [isW, c5] at this)]
   rw [if_pos c5, if_pos c5]
   simp only [Option.bind_some]
   rw [bind_eq (seek_eq rows (bs o.Key) hI.ord)]
   unfold table_Table_Do.j1
   cases hA : above (bs o.Key) rows.list with
   | nil =>
    refine ⟨_, ?_, hT⟩
    rw [bind_eq (show table_Table_told.f (some ⟨rows, r, sz rows.list⟩) (seekQ []).1 (seekQ []).2.1 (seekQ []).2.2 = _ from told_none)]; rfl
   | cons e M =>
    have := hI.ent e (above_mem hA)
    refine ⟨_, ?_, hT⟩
    rw [bind_eq (show table_Table_told.f (some ⟨rows, r, sz rows.list⟩) (seekQ (e :: M)).1 (seekQ (e :: M)).2.1 (seekQ (e :: M)).2.2 = _ from told_some (k := e.1) (c := e.2) (by omega) (by omega))]
  ·rw [if_neg c5, if_neg c5]
   have k3' := k3 c5
   simp only [Option.bind_some]
   rw [bind_eq (get_eq k rows (bs o.Key) (by omega) hI.ord), bind_eq (writes_eq o)]
   by_cases c1 : o.Kind = 1
   ·rw [if_neg (show ¬ fullQ r o from fun h => by have := h.2.1; simp [isW, c1] at this)]
    rw [if_pos c1, if_neg (by simp [isW, c1])]
    refine ⟨_, ?_, hT⟩
    rw [bind_eq (told_look hI)]
   ·have hiw : isW o = true := by unfold isW; simp; omega
    by_cases cf : r = 1099511627776
    ·rw [if_pos (show fullQ r o from ⟨hR, hiw, cf⟩), if_pos hiw, if_pos (by show ((r : Int) = _); omega)]
     exact ⟨_, rfl, hT⟩
    have hr : r < 1099511627776 := by omega
    rw [if_neg (show ¬ fullQ r o from fun h => cf h.2.2)]
    rw [if_neg c1, if_pos hiw, if_neg (by show ¬ ((r : Int) = _); omega)]
    rw [wr (n := (r : Int) + 1) (by omega) (by omega), bind_eq (told_look hI)]
    have hcl : bytes_Clone.f o.Value = some o.Value := by unfold bytes_Clone.f; rw [if_pos (by omega)]
    rw [bind_eq hcl]
    unfold table_Table_Do.j2
    rw [wr (n := (r : Int) + 1) (by omega) (by omega)]
    by_cases c3 : o.Kind = 3
    ·rw [if_pos c3, if_pos c3]
     obtain ⟨t', e', R'⟩ := set_del hk (c0 := ⟨o.Value, (r : Int) + 1⟩) (key := bs o.Key) (by omega) hr hw rfl hI
     exact ⟨t', by rw [bind_eq e'], R'⟩
    ·rw [if_neg c3, if_neg c3]
     obtain ⟨t', e', R'⟩ := set_put hk (key := bs o.Key) (v := o.Value) (by omega) hr hw rfl hI (by rw [bs_size]; omega) (by rw [bs_size]; omega) k2
     have hj : ∀ b, table_Table_Do.j3 k o ⟨rows, r, sz rows.list⟩ (told ((r : Int) + 1) (bs o.Key) (look (bs o.Key) rows.list)) o.Value b = if b = true then some ({ told ((r : Int) + 1) (bs o.Key) (look (bs o.Key) rows.list) with Done := true }, 0, t') else some ({ told ((r : Int) + 1) (bs o.Key) (look (bs o.Key) rows.list) with Done := false }, 0, some ⟨rows, r + 1, sz rows.list⟩) := by
      intro b
      unfold table_Table_Do.j3
      rw [wr (n := (r : Int) + 1) (by omega) (by omega)]
      cases b with
      | true => rw [if_pos rfl, if_pos rfl, bind_eq e']
      | false => rw [if_neg (by simp), if_neg (by simp)]
     have hold : (gotQ (look (bs o.Key) rows.list)).1.rev = (look (bs o.Key) rows.list).elim 0 (fun c => c.rev) := by
      cases look (bs o.Key) rows.list <;> rfl
     by_cases c2 : o.Kind = 2
     ·rw [if_pos c2, if_pos (Or.inl c2), hj, if_pos rfl]
      exact ⟨t', rfl, R'⟩
     ·rw [if_neg c2, hj, hold]
      by_cases c : (look (bs o.Key) rows.list).elim 0 (fun c => c.rev) = o.Rev
      ·rw [if_pos (Or.inr c), if_pos (by simp [c])]
       exact ⟨t', rfl, R'⟩
      ·rw [if_neg (show ¬ (o.Kind = 2 ∨ (look (bs o.Key) rows.list).elim 0 (fun c => c.rev) = o.Rev) from fun h => h.elim c2 c), if_neg (by simp [c])]
       exact ⟨_, rfl, rows, by simp, hw, rfl, hI.up⟩
theorem do_eq {k : Nat} (hk : Fuel k) {t : Option Tab} {L : List Ent} {r : Nat} (hr : r < 4194304) (hT : Rep t L r) (o : api_Op) :
  ∃ t', table_Table_Do.f k t o = some ((act L r o).1, (act L r o).2.1, t') ∧ Rep t' (act L r o).2.2.1 (act L r o).2.2.2 := by
 have hlen : L.length ≤ r := by obtain ⟨_, _, _, _, hI⟩ := hT; exact hI.len
 obtain ⟨t', h⟩ := do_eq0 hk (by omega) (by omega) hT o
 have e : actE L r o = act L r o := if_neg fun h => by have := h.2.2; omega
 rw [e] at h
 exact ⟨t', h⟩
theorem act_r (L : List Ent) (r : Nat) (o : api_Op) : (act L r o).2.2.2 = r ∨ (act L r o).2.2.2 = r + 1 := by
 unfold act
 repeat' split
 all_goals simp
theorem new_rep : ∃ t, table_New.f = some t ∧ Rep t [] 0 := ⟨_, rfl, .nil, rfl, trivial, rfl, ⟨List.Pairwise.nil, Nat.le_refl _, fun e he => by cases he⟩⟩
theorem rd_eq {α : Type} [Inhabited α] {xs : List α} {i : Nat} (h : i < xs.length) : rd xs (i : Int) = xs[i] := by
 unfold rd
 rw [Int.toNat_natCast, List.getD_eq_getElem?_getD, List.getElem?_eq_getElem h]
 rfl
theorem take_one {α : Type} {xs : List α} {i : Nat} (h : i < xs.length) : xs.take (i + 1) = xs.take i ++ [xs[i]] := by
 rw [List.take_add_one, List.getElem?_eq_getElem h]; rfl
theorem wrS (i : Nat) (h : i < 1000000000000) : IntKind.i64.wrap ((i : Int) + 1) = ((i + 1 : Nat) : Int) := by rw [wr (by omega) (by omega)]; omega
abbrev St := List Ent × Nat
def stepS (s : St) (o : api_Op) : St := (act s.1 s.2 o).2.2
def run (s : St) (ops : List api_Op) : St := ops.foldl stepS s
theorem run_snoc (s : St) (ops : List api_Op) (o : api_Op) : run s (ops ++ [o]) = stepS (run s ops) o := by simp [run]
theorem step_r (s : St) (o : api_Op) : (stepS s o).2 = s.2 ∨ (stepS s o).2 = s.2 + 1 := act_r s.1 s.2 o
theorem run_r : ∀ (ops : List api_Op) (s : St), (run s ops).2 ≤ s.2 + ops.length
 | [], s => Nat.le_refl _
 | o :: ops, s => by
  have h1 := run_r ops (stepS s o)
  have h2 := step_r s o
  show (run (stepS s o) ops).2 ≤ _
  rw [List.length_cons]; omega
abbrev RepS (t : Option Tab) (s : St) : Prop := Rep t s.1 s.2
theorem do_step {k : Nat} (hk : Fuel k) {t : Option Tab} {s : St} (hr : s.2 < 4194304) (hT : RepS t s) (o : api_Op) :
  ∃ t', table_Table_Do.f k t o = some ((act s.1 s.2 o).1, (act s.1 s.2 o).2.1, t') ∧ RepS t' (stepS s o) := do_eq hk hr hT o
theorem loop_inv {S X : Type} {f : S → Option (Ctl S X)} {I : Nat → S → Prop} {P : X → Prop} {N : Nat}
  (step : ∀ i s, i < N → I i s → (∃ s', f s = some (.next s') ∧ I (i + 1) s') ∨ (∃ x, f s = some (.done x) ∧ P x))
  (last : ∀ s, I N s → ∃ x, f s = some (.done x) ∧ P x) : ∀ (n i : Nat) (s : S) (m : Nat), I i s → i + n = N → n < m → ∃ x, loop f m s = some x ∧ P x
 | _, _, _, 0, _, _, h => absurd h (by omega)
 | 0, i, s, m + 1, hI, hN, _ => by
  obtain rfl : i = N := by omega
  obtain ⟨x, h1, h2⟩ := last s hI
  exact ⟨x, loop_done h1, h2⟩
 | n + 1, i, s, m + 1, hI, hN, hm => by
  rcases step i s (by omega) hI with ⟨s', h1, h2⟩ | ⟨x, h1, h2⟩
  ·rw [loop_next h1]
   exact loop_inv step last n (i + 1) s' m h2 (by omega) (by omega)
  ·exact ⟨x, loop_done h1, h2⟩
def fmP : Nat → Nat → List Int
 | 0, _ => []
 | f + 1, n => if n ≤ 127 then [] else bor .u8 (IntKind.u8.wrap n) 128 :: fmP f (n / 128)
def fmL : Nat → Nat → Nat
 | 0, n => n
 | f + 1, n => if n ≤ 127 then n else fmL f (n / 128)
def fm (n : Nat) : List Int := fmP 9 n ++ [IntKind.u8.wrap (fmL 9 n)]
theorem fmP_len : ∀ f n, (fmP f n).length = nmF f n
 | 0, _ => rfl
 | f + 1, n => by
  unfold fmP nmF
  split
  ·rfl
  ·rw [List.length_cons, fmP_len f]
theorem fm_len (n : Nat) : (fm n).length = nm n := by unfold fm nm; rw [List.length_append, fmP_len]; simp; omega
theorem form_loop : ∀ (f n k : Nat) (l : List Int), n < 128 ^ f → f < k → l.length + f < 1000 → loop (fun (s_ : Int × List Int) => parcel_form.b1 s_.1 s_.2) k ((n : Int), l) = some ((fmL f n : Int), l ++ fmP f n)
 | _, _, 0, _, _, h, _ => absurd h (by omega)
 | 0, n, k + 1, l, h, _, _ => by
  have : n = 0 := by simpa using h
  subst this
  rw [loop_done (x := ((0 : Int), l))]
  ·simp [fmP, fmL]
  ·simp [parcel_form.b1]
 | f + 1, n, k + 1, l, h, hk, hs => by
  by_cases c : n ≤ 127
  ·rw [loop_done (x := ((n : Int), l))]
   ·simp [fmP, fmL, c]
   ·unfold parcel_form.b1; rw [if_neg (by omega)]
  ·have hd : n / 128 < 128 ^ f := by rw [Nat.pow_succ] at h; omega
   rw [loop_next (s' := (((n / 128 : Nat) : Int), l ++ [bor .u8 (IntKind.u8.wrap n) 128]))]
   ·rw [form_loop f (n / 128) k _ hd (by omega) (by simp; omega)]
    simp [fmP, fmL, c]
   ·unfold parcel_form.b1
    rw [if_pos (by omega), if_pos (by simp; omega), shr7u]
theorem form_eq {k n : Nat} (hk : Fuel k) (hn : n < 9223372036854775808) : parcel_form.f k (n : Int) = some (fm n) := by
 have h24 : 1099511627776 ≤ k := hk
 have := nmF_le 9 n
 unfold parcel_form.f
 rw [if_pos (by decide), bind_eq (form_loop 9 n k _ (by omega) (by omega) (by simp))]
 unfold parcel_form.j2
 simp only [Int.toNat_zero, List.replicate_zero, List.nil_append]
 rw [if_pos (by rw [fmP_len]; simp; omega)]
 rfl
theorem wru {n : Int} (h0 : 0 ≤ n) (h1 : n < 9223372036854775808) : IntKind.u64.wrap n = n := by
 simp only [IntKind.wrap, IntKind.bits, IntKind.signed]; simp; omega
abbrev W (room : Int) (b : List Int) : Option Wri := some ⟨room, b, [], 0⟩
theorem lay_eq {room : Int} {b a : List Int} (h1 : (b.length + a.length : Nat) ≤ room) (h2 : room ≤ 1000000000000) : parcel_Writer_lay.f (W room b) a = some (W room (b ++ a)) := by
 unfold parcel_Writer_lay.f parcel_Writer_whole.f
 simp only [Option.isNone_some, Bool.false_eq_true, if_false, Option.bind_some, decide_true, if_true]
 rw [wr (by omega) (by omega), if_neg (by omega), if_pos (by omega)]
theorem Num_eq {k : Nat} (hk : Fuel k) {room : Int} {b : List Int} {n : Nat} (hn : n < 9223372036854775808) (h1 : (b.length + (fm n).length : Nat) ≤ room) (h2 : room ≤ 1000000000000) :
  parcel_Writer_Num.f k (W room b) (n : Int) = some (W room (b ++ fm n)) := by
 unfold parcel_Writer_Num.f
 rw [bind_eq (form_eq hk hn), bind_eq (lay_eq h1 h2)]
theorem concat_eq {k : Nat} (hk : Fuel k) {x y : List Int} (h : x.length + y.length < 2000000000000) : slices_Concat.f k [x, y] = some (x ++ y) := by
 have h24 : 1099511627776 ≤ k := hk
 obtain ⟨q, rfl⟩ : ∃ q, k = q + 1 + 1 + 1 := ⟨k - 3, by omega⟩
 unfold slices_Concat.f
 have e1 : loop (fun (s_ : Int × Int) => slices_Concat.b1 [x, y] s_.1 s_.2) (q + 1 + 1 + 1) (0, 0) = some ((x.length + y.length : Nat) : Int) := by
  rw [loop_next (s' := ((x.length : Int), (1 : Int)))]
  ·rw [loop_next (s' := (((x.length + y.length : Nat) : Int), (2 : Int)))]
   ·refine loop_done ?_
    simp [slices_Concat.b1]
   ·have r1 : rd [x, y] 1 = y := rfl
    have w1 : IntKind.i64.wrap ((x.length : Int) + (y.length : Int)) = ((x.length + y.length : Nat) : Int) := by rw [wr (by omega) (by omega)]; omega
    unfold slices_Concat.b1
    simp only [r1, w1]
    rw [if_pos (by simp), if_pos (by simp), if_neg (by omega)]
    rfl
  ·have r1 : rd [x, y] 0 = x := rfl
   have w1 : IntKind.i64.wrap (0 + (x.length : Int)) = (x.length : Int) := by rw [wr (by omega) (by omega)]; omega
   unfold slices_Concat.b1
   simp only [r1, w1]
   rw [if_pos (by simp), if_pos (by simp), if_neg (by omega)]
   rfl
 rw [bind_eq e1]
 unfold slices_Concat.j2
 have e2 : slices_Grow.f [] ((x.length + y.length : Nat) : Int) = some [] := by
  unfold slices_Grow.f; rw [if_pos ⟨by omega, by omega, rfl⟩]
 rw [bind_eq e2]
 have e3 : loop (fun (s_ : (List Int) × Int) => slices_Concat.b3 [x, y] s_.1 s_.2) (q + 1 + 1 + 1) ([], 0) = some (x ++ y) := by
  rw [loop_next (s' := (x, (1 : Int)))]
  ·rw [loop_next (s' := (x ++ y, (2 : Int)))]
   ·refine loop_done ?_
    simp [slices_Concat.b3]
   ·have r1 : rd [x, y] 1 = y := rfl
    unfold slices_Concat.b3
    simp only [r1]
    rw [if_pos (by simp), if_pos (by simp), if_pos (by omega)]
    rfl
  ·have r1 : rd [x, y] 0 = x := rfl
   unfold slices_Concat.b3
   simp only [r1]
   rw [if_pos (by simp), if_pos (by simp), if_pos (by simp; omega)]
   rfl
 rw [bind_eq e3]
 rfl
theorem Text_eq {k : Nat} (hk : Fuel k) {room : Int} {b a : List Int} (h1 : (b.length + (fm a.length).length + a.length : Nat) ≤ room) (h2 : room ≤ 1000000000000) :
  parcel_Writer_Text.f k (W room b) a = some (W room (b ++ (fm a.length ++ a))) := by
 have := fm_len a.length; have := nm_le a.length
 have e : ((b.length + (fm a.length ++ a).length : Nat) : Int) ≤ room := by rw [List.length_append]; omega
 unfold parcel_Writer_Text.f
 rw [wru (by omega) (by omega), bind_eq (form_eq hk (by omega)), bind_eq (concat_eq hk (by omega)), bind_eq (lay_eq e h2)]
def ef (e : Ent) : List Int := (fm e.1.size ++ sb e.1) ++ ((fm e.2.value.length ++ e.2.value) ++ fm e.2.rev.toNat)
theorem sb_len (k : ByteArray) : (sb k).length = k.size := by unfold sb; rw [List.length_map]; rfl
theorem ef_len (e : Ent) : ((ef e).length : Int) = lg e.1 e.2 := by
 unfold ef lg
 simp only [List.length_append, fm_len, sb_len]; omega
theorem bytes_fold {k : Nat} (hk : Fuel k) {room : Int} (h2 : room ≤ 1000000000000) {r : Nat} (hr : r ≤ 1099511627776) : ∀ (L : List Ent) (b : List Int), (∀ e ∈ L, 1 ≤ e.1.size ∧ e.1.size ≤ 64 ∧ e.2.value.length ≤ 256 ∧ 1 ≤ e.2.rev ∧ e.2.rev ≤ (r : Int)) → b.length + sz L ≤ room →
  foldC (fun (s_ : (Option Wri)) (k_ : ByteArray) (v_ : table_cell) => table_Table_Bytes.b1 k s_ k_ v_) L (W room b) = some (.next (W room (b ++ L.flatMap ef)))
 | [], b, _, _ => by simp [foldC]
 | e :: L, b, h, hb => by
  have he := h e (by simp)
  have h3 := sz_le (L := L) (r := r) (fun x hx => h x (by simp [hx]))
  rw [sz_cons] at hb
  have hl := ef_len e
  have hl' := hl
  unfold lg at hl'
  have f1 := fm_len e.1.size; have f2 := fm_len e.2.value.length; have f3 := fm_len e.2.rev.toNat
  have hs := sb_len e.1
  have hrev : e.2.rev = ((e.2.rev.toNat : Nat) : Int) := by omega
  have step : table_Table_Bytes.b1 k (W room b) e.1 e.2 = some (Ctl.next (W room (b ++ ef e))) := by
   unfold table_Table_Bytes.b1
   rw [if_pos (by omega), bind_eq (Text_eq hk (a := sb e.1) (by rw [hs]; omega) h2), bind_eq (Text_eq hk (a := e.2.value) (by simp only [List.length_append, hs]; omega) h2), hrev, wru (by omega) (by omega),
    bind_eq (Num_eq hk (n := e.2.rev.toNat) (by omega) (by simp only [List.length_append, hs]; omega) h2)]
   unfold ef
   rw [hs]
   simp only [List.append_assoc]
  show thenC (table_Table_Bytes.b1 k (W room b) e.1 e.2) _ = _
  rw [step]
  show foldC _ L (W room (b ++ ef e)) = _
  rw [bytes_fold hk h2 hr L (b ++ ef e) (fun x hx => h x (by simp [hx])) (by simp only [List.length_append]; omega)]
  simp
def form (s : St) : List Int := fm s.2 ++ fm s.1.length ++ s.1.flatMap ef
theorem done_eq {room : Int} {b : List Int} (h : b.length ≤ 1000000000000) : parcel_Writer_Done.f (W room b) = some (b, 0) := by
 unfold parcel_Writer_Done.f
 simp only [Option.isNone_some, Bool.false_eq_true, if_false, Option.bind_some, if_true, List.length_nil]
 rw [if_neg (by omega), if_pos (by omega)]
 simp
theorem RepS.inv {t : Option Tab} {s : St} (hT : RepS t s) : Inv s.1 s.2 := by obtain ⟨rows, _, _, _, hI⟩ := hT; exact hI
theorem size_eq0 {k : Nat} (hk : Fuel k) {t : Option Tab} {s : St} (hl0 : s.1.length < 2000000000) (hr : s.2 ≤ 1099511627776) (hT : RepS t s) : table_Table_Size.f k t = some (nm s.2 + nm s.1.length + sz s.1) := by
 obtain ⟨rows, rfl, hw, hl, hI⟩ := hT
 have hlen := hI.len
 have hsz := sz_le hI.ent
 have := nm_le s.2; have := nm_le s.1.length
 unfold table_Table_Size.f
 simp only [Option.isNone_some, Bool.false_eq_true, if_false, Option.bind_some]
 rw [bind_eq (num_eq hk (n := s.2) (by omega)), bind_eq (len_eq hw), hl, bind_eq (num_eq hk (n := s.1.length) (by omega)), wr (n := (nm s.2 : Int) + nm s.1.length) (by omega) (by omega), wr (by omega) (by omega)]
theorem flat_len : ∀ L : List Ent, ((L.flatMap ef).length : Int) = sz L
 | [] => rfl
 | e :: L => by rw [List.flatMap_cons, List.length_append, sz_cons, ← flat_len L, ← ef_len]; omega
theorem bytes_eq0 {k : Nat} (hk : Fuel k) {t : Option Tab} {s : St} (hl0 : s.1.length < 2000000000) (hr : s.2 ≤ 1099511627776) (hT : RepS t s) : table_Table_Bytes.f k t = some (form s) := by
 have hS := size_eq0 hk hl0 hr hT
 obtain ⟨rows, rfl, hw, hl, hI⟩ := hT
 have hlen := hI.len
 have hsz := sz_le hI.ent
 have h1 := nm_le s.2; have h2 := nm_le s.1.length
 have f1 := fm_len s.2; have f2 := fm_len s.1.length
 unfold table_Table_Bytes.f
 rw [if_neg (by simp), bind_eq hS]
 have e0 : parcel_New.f (nm s.2 + nm s.1.length + sz s.1) = some (W (nm s.2 + nm s.1.length + sz s.1) []) := by
  unfold parcel_New.f
  rw [Int.max_eq_left (by omega)]
 rw [bind_eq e0]
 simp only [Option.bind_some]
 rw [wru (by omega) (by omega), bind_eq (Num_eq hk (n := s.2) (by omega) (by simp only [List.length_nil]; omega) (by omega)), bind_eq (len_eq hw), hl, wru (by omega) (by omega),
  bind_eq (Num_eq hk (n := s.1.length) (by omega) (by simp only [List.length_append, List.length_nil]; omega) (by omega))]
 show (some (It.all rows)).bind _ = _
 rw [Option.bind_some]
 show (Tr.up _ rows _).bind _ = _
 rw [up_eq, hl, bind_eq (bytes_fold hk (by omega) hr s.1 _ hI.ent (by simp only [List.length_append, List.length_nil]; omega))]
 have hfl := flat_len s.1
 show (parcel_Writer_Done.f _).bind _ = _
 rw [bind_eq (done_eq (by simp only [List.length_append, List.length_nil]; omega))]
 simp [form]
theorem bytes_eq {k : Nat} (hk : Fuel k) {t : Option Tab} {s : St} (hr : s.2 < 4194304) (hT : RepS t s) : table_Table_Bytes.f k t = some (form s) := bytes_eq0 hk (Nat.lt_trans (Nat.lt_of_le_of_lt hT.inv.len hr) (by omega)) (by omega) hT
theorem Rev_eq {t : Option Tab} {s : St} (hT : RepS t s) : table_Table_Rev.f t = some (s.2 : Int) := by
 obtain ⟨rows, rfl, hw, hl, hI⟩ := hT
 rfl
theorem Len_eq {t : Option Tab} {s : St} (hT : RepS t s) : table_Table_Len.f t = some (s.1.length : Int) := by
 obtain ⟨rows, rfl, hw, hl, hI⟩ := hT
 unfold table_Table_Len.f
 rw [if_neg (by simp)]
 show (tree_Tree_Len.f rows).bind _ = _
 rw [bind_eq (len_eq hw), hl]
def rowOf (e : Ent) : api_Row := ⟨sb e.1, e.2.value, e.2.rev⟩
theorem rows_fold : ∀ (L : List Ent) (b : List api_Row), (∀ e ∈ L, e.1.size ≤ 64 ∧ e.2.value.length ≤ 256) → b.length + L.length ≤ 2000000000 →
  foldC (X := Unit) (fun (s_ : List api_Row) (k_ : ByteArray) (v_ : table_cell) => table_Table_Rows.b1 s_ k_ v_) L b = some (.next (b ++ L.map rowOf))
 | [], b, _, _ => by simp [foldC]
 | e :: L, b, h, hb => by
  have he := h e (by simp)
  rw [List.length_cons] at hb
  have step : table_Table_Rows.b1 b e.1 e.2 = some (Ctl.next (b ++ [rowOf e])) := by
   unfold table_Table_Rows.b1 bytes_Clone.f
   rw [if_pos (by omega), if_pos (by omega), Option.bind_some, if_pos (by simp only [List.length_singleton]; omega)]
   rfl
  show thenC (table_Table_Rows.b1 b e.1 e.2) _ = _
  rw [step]
  show foldC _ L (b ++ [rowOf e]) = _
  rw [rows_fold L _ (fun x hx => h x (by simp [hx])) (by simp; omega)]
  simp
theorem Rows_eq0 {t : Option Tab} {s : St} (hl0 : s.1.length < 2000000000) (hT : RepS t s) : table_Table_Rows.f t = some (s.1.map rowOf) := by
 obtain ⟨rows, rfl, hw, hl, hI⟩ := hT
 have hlen := hI.len
 unfold table_Table_Rows.f
 rw [if_neg (by simp)]
 show (Tr.up _ rows _).bind _ = _
 rw [up_eq, hl, bind_eq (rows_fold s.1 [] (fun e he => ⟨(hI.ent e he).2.1, (hI.ent e he).2.2.1⟩) (by simp; omega))]
 rfl
theorem Rows_eq {t : Option Tab} {s : St} (hr : s.2 < 4194304) (hT : RepS t s) : table_Table_Rows.f t = some (s.1.map rowOf) := Rows_eq0 (Nat.lt_trans (Nat.lt_of_le_of_lt hT.inv.len hr) (by omega)) hT
end Go.Proofs.Ytoaldfpngihhcaa.G