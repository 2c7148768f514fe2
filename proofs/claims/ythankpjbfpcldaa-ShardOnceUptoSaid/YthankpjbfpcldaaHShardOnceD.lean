/- Words, contracts and plain laws on which the row of 'ShardOnce' hangs (its '..UptoSaid': inputs of bulk at most 1048576). -/
import Derived.Test.YthankpjbfpcldaaHShardOnceB
import Derived.Test.YthankpjbfpcldaaHShardOnceC
import Derived.Laws.Externs
namespace Go.Proofs.Ythankpjbfpcldaa.G
open Go Go.RowKit
set_option linter.unusedVariables false
set_option linter.unusedSimpArgs false
set_option maxRecDepth 100000
set_option maxHeartbeats 40000000
theorem shard_Shard_next.calls (k : Nat) {m : Nat} {c0 : Nat → Nat} {w0 : World} {j4 : Nat} {j5 : Nat} {p2 : Option Addr} {A9 : Option Addr} {C10 : Nat} {A12 : Option Addr} {C13 : Nat} {a1 : Option Sha} {a6 : Int} {a7 : Int} {a8 : api_Op} (hm0 : 0 < m) (B0 : CB m c0 w0) (h3 : SH j4 j5 c0 w0 p2 a1) (h11 : SL false (Kint .u8) 0 0 c0 w0 A9 C10 a8.Key) (h14 : SL false (Kint .u8) 0 0 c0 w0 A12 C13 a8.Value) (bj4 : j4 < m) (bj5 : j5 < m ∧ j5 ≠ j4) (jr351 : Nat) (bjr351 : jr351 < m) (jr352 : Nat) (bjr352 : jr352 < m) (r : (Option (Option Sha)) × api_Answer × Bool × Int) (H : shard_Shard_next.f k a1 a6 a7 a8 = some r) : Calls Try.prog 37 #[.pointer p2, .int .i64 a6, .int .i64 a7, .agg #[.int .i64 a8.Kind, .slice A9 a8.Key.length C10, .slice A12 a8.Value.length C13, .int .i64 a8.Rev]] w0 (fun e w_ => ∃ (c_ : Nat → Nat) (P0_ : Option Addr) (A1_ : Option Addr) (C1_ : Nat) (A3_ : Option Addr) (C3_ : Nat), e = .returned (.tuple #[.pointer P0_, .agg #[.bool r.2.1.Done, .slice A1_ r.2.1.Key.length C1_, .slice A3_ r.2.1.Value.length C3_, .int .i64 r.2.1.Rev, .int .i64 r.2.1.At], .bool r.2.2.1, .int .i64 r.2.2.2]) ∧ Ev (fun x => False) c0 w0 c_ w_ ∧ CB m c_ w_ ∧ alc r.1 (P0_ = p2) (fun o_ => SH jr351 jr352 c_ w_ P0_ o_) ∧ SL false (Kint .u8) 0 0 c_ w_ A1_ C1_ r.2.1.Key ∧ SL false (Kint .u8) 0 0 c_ w_ A3_ C3_ r.2.1.Value) := by
 unfold shard_Shard_next.f at H
 have B := B0.mono (show m ≤ m + 6 by omega)
 have E : Ev (fun x => False ∨ m ≤ x) c0 w0 c0 w0 := Ev.refl
 refine enter (N := 111) (l := [.pointer p2, .int .i64 a6, .int .i64 a7, .agg #[.int .i64 a8.Kind, .slice A9 a8.Key.length C10, .slice A12 a8.Value.length C13, .int .i64 a8.Rev]]) Try.func37 rfl rfl (nb rfl) fun a F => ?_
 refine wp_seq_k fun K15 hK15 => reg ?_
 refine q_eff F rfl rfl (by decide) (e_box F (v := .agg #[.int .i64 a8.Kind, .slice A9 a8.Key.length C10, .slice A12 a8.Value.length C13, .int .i64 a8.Rev]) rfl c0 (m + 1)) ?_
 rintro v w17 a ⟨c16, qa18, rfl, E19, h20, B21⟩ F
 replace B := B21 _ B lm
 replace h3 := h3.ev E19 nq nq nq
 replace h11 := h11.ev E19 nq nq
 replace h14 := h14.ev E19 nq nq
 replace E := E.trans E19 nx
 replace h20 : AT true (m + 1) c16 w17 qa18 [.int .i64 a8.Kind, .slice A9 a8.Key.length C10, .slice A12 a8.Value.length C13, .int .i64 a8.Rev] := h20
 refine qa F fun a F => ?_
 refine q_eff F rfl rfl (by decide) (e_alloc F zv_34 c16 (m + 2)) ?_
 rintro v w24 a ⟨c23, qa25, rfl, E26, h27, B28⟩ F
 replace B := B28 _ B lm
 replace h3 := h3.ev E26 nq nq nq
 replace h11 := h11.ev E26 nq nq
 replace h14 := h14.ev E26 nq nq
 replace h20 := h20.ev E26 nq
 as_aux_lemma =>
 replace E := E.trans E26 nx
 replace h27 : AT true (m + 2) c23 w24 qa25 [.bool false, .slice none 0 0, .slice none 0 0, .int .i64 0, .int .i64 0] := h27
 refine qa F fun a F => ?_
 refine qa F fun a F => ?_
 refine nil (hK15 _ _ ?_)
 refine wp_seq_k fun K30 hK30 => ?_
 refine wp_block ?_
 refine wp_seq_k fun K31 hK31 => reg ?_
 refine qm F fun a F => ?_
 refine qv F (r_peqlA F Try.underlying24 rfl rfl (SH.isNone h3)) fun a F => ?_
 refine qa F fun a F => ?_
 refine nil (hK31 _ _ ?_)
 by_cases hb32 : (Option.isNone a1) = true
 ·replace H := ip hb32 H
  refine wp_cond_true (fb F hb32) ?_
  refine wp_seq_k fun K33 hK33 => reg ?_
  refine qv F (r_build (v := .agg #[.bool false, .slice none 0 0, .slice none 0 0, .int .i64 0, .int .i64 0]) F [] (by exact trivial) (fun w => by kernel_rfl)) fun a F => ?_
  refine qa F fun a F => ?_
  refine q_eff0 F rfl rfl (e_storeN0 (us := [.bool false, .slice none 0 0, .slice none 0 0, .int .i64 0, .int .i64 0]) F rfl rfl sz_34 h27 (nb rfl) (one_all rfl)) ?_
  rintro w34 a ⟨E35, h27, Z36⟩ F
  replace B := B.size Z36
  replace E := E.trans E35 lc1
  replace h27 : AT true (m + 2) c23 w34 qa25 [.bool false, .slice none 0 0, .slice none 0 0, .int .i64 0, .int .i64 0] := h27
  as_aux_lemma =>
  refine qa F fun a F => ?_
  refine qa F fun a F => ?_
  refine nil (hK33 _ _ ?_)
  replace F : Fr a 111 [(8, .pointer none), (9, .pointer (some qa25)), (10, .bool false), (11, .int .i64 1)] := F.sub ⟨rfl, rfl, rfl, rfl, trivial⟩
  refine wp_ret ?_
  refine inbR ?_
  refine thenR ?_
  replace H := si H
  subst H
  refine outR4 F rfl rfl ⟨_, rfl, lv_agg (cs := [.bool false, .slice none 0 0, .slice none 0 0, .int .i64 0, .int .i64 0]) ag_34 sz_34 h27⟩ rfl rfl ?_
  exact ⟨cf (fun x_ => if x_ = m + 3 then jr351 else if x_ = m + 4 then jr352 else if x_ < m then x_ else 0) c23, none, none, 0, none, 0, rfl, E.lv B0, cfb, alc_mk (SH.nil), SL.nil, SL.nil⟩
 replace H := im hb32 H
 refine wp_cond_false (fb F (bfalse hb32)) ?_
 refine wp_seq_k fun K37 hK37 => ?_
 have J42 : ∀ (c43 : Nat → Nat) (w44 : World) (a : Act) (b41 : Bool), Fr a 111 [(0, .pointer p2), (1, .int .i64 a6), (2, .int .i64 a7), (7, .pointer (some qa18)), (9, .pointer (some qa25)), (19, .bool b41)] → Ev (fun x => False ∨ m ≤ x) c0 w0 c43 w44 → CB (m + 6) c43 w44 → AT true (m + 1) c43 w44 qa18 [.int .i64 a8.Kind, .slice A9 a8.Key.length C10, .slice A12 a8.Value.length C13, .int .i64 a8.Rev] → AT true (m + 2) c43 w44 qa25 [.bool false, .slice none 0 0, .slice none 0 0, .int .i64 0, .int .i64 0] → SH j4 j5 c43 w44 p2 a1 → SL false (Kint .u8) 0 0 c43 w44 A9 C10 a8.Key → SL false (Kint .u8) 0 0 c43 w44 A12 C13 a8.Value → shard_Shard_next.j1 k a1 a6 a7 a8 b41 = some r → K37 a w44 := by
  intro c43 w44 a b41 F E B h20 h27 h3 h11 h14 H
  unfold shard_Shard_next.j1 at H
  refine hK37 _ _ ?_
  by_cases hb45 : b41 = true
  ·replace H := ip hb45 H
   refine wp_cond_true (fb F hb45) ?_
   refine wp_seq_k fun K46 hK46 => reg ?_
   refine qv F (r_build (v := .agg #[.bool false, .slice none 0 0, .slice none 0 0, .int .i64 0, .int .i64 0]) F [] (by exact trivial) (fun w => by kernel_rfl)) fun a F => ?_
   as_aux_lemma =>
   refine qa F fun a F => ?_
   refine q_eff0 F rfl rfl (e_storeN0 (us := [.bool false, .slice none 0 0, .slice none 0 0, .int .i64 0, .int .i64 0]) F rfl rfl sz_34 h27 (nb rfl) (one_all rfl)) ?_
   rintro w47 a ⟨E48, h27, Z49⟩ F
   replace B := B.size Z49
   replace E := E.trans E48 lc1
   replace h27 : AT true (m + 2) c43 w47 qa25 [.bool false, .slice none 0 0, .slice none 0 0, .int .i64 0, .int .i64 0] := h27
   refine qa F fun a F => ?_
   refine qa F fun a F => ?_
   refine nil (hK46 _ _ ?_)
   refine wp_ret ?_
   refine inbR ?_
   refine thenR ?_
   replace H := si H
   subst H
   refine outR4 F rfl rfl ⟨_, rfl, lv_agg (cs := [.bool false, .slice none 0 0, .slice none 0 0, .int .i64 0, .int .i64 0]) ag_34 sz_34 h27⟩ rfl rfl ?_
   exact ⟨cf (fun x_ => if x_ = m + 3 then jr351 else if x_ = m + 4 then jr352 else if x_ < m then x_ else 0) c43, none, none, 0, none, 0, rfl, E.lv B0, cfb, alc_mk (SH.nil), SL.nil, SL.nil⟩
  replace H := im hb45 H
  refine wp_cond_false (fb F (bfalse hb45)) ?_
  refine wp_seq_k fun K50 hK50 => reg ?_
  refine qv F (r_loads (cs := [.int .i64 a8.Kind, .slice A9 a8.Key.length C10, .slice A12 a8.Value.length C13, .int .i64 a8.Rev]) F rfl ag_30 sz_30 h20) fun a F => ?_
  obtain ⟨t51, q52, H⟩ := bind_some H
  refine qc F Try.func24 (table_Right.calls (m := m + 6) (pl hm0) B h11 h14 _ q52) ?_
  rintro e w54 ⟨c53, rfl, E55, B56⟩
  as_aux_lemma =>
  refine ⟨_, rfl, fun a F => ?_⟩
  have B := B56
  replace h20 := h20.ev E55 nq
  replace h27 := h27.ev E55 nq
  replace h3 := h3.ev E55 nq nq nq
  replace h11 := h11.ev E55 nq nq
  replace h14 := h14.ev E55 nq nq
  replace E := E.trans E55 nx
  refine qv F (r_not F rfl) fun a F => ?_
  refine qa F fun a F => ?_
  refine nil (hK50 _ _ ?_)
  by_cases hb58 : t51 = true
  ·replace H := ip hb58 H
   refine wp_cond_false (fb F (congrArg not hb58)) ?_
   refine wp_seq_k fun K59 hK59 => reg ?_
   refine qm F fun a F => ?_
   refine qm F fun a F => ?_
   obtain ⟨ob60, e61, H⟩ := bind_some H
   have z62 := h3
   rw [e61] at z62
   obtain ⟨ad63, p65, cs67, rfl, hat64, h66, h68⟩ := SH.some z62
   refine qv F (r_nil F rfl) fun a F => ?_
   refine qf F ff_76_1 fun a F => ?_
   as_aux_lemma =>
   replace H := ifN H
   obtain ⟨g70, H⟩ := H
   obtain ⟨cs72, h73, r74⟩ := AR.at (off := 1) hat64 rfl h68 a6 g70.1 (by have g_ := g70.2; omega)
   obtain ⟨A76, C77, A79, C80, rfl, h78, h81⟩ := r74
   obtain ⟨qa75, qqa75⟩ : ∃ q, q = (ad63.add (1 + a6.toNat * 7)) := ⟨_, rfl⟩
   have h73 : AT true j4 c53 w54 qa75 [.int .i64 ((rd ob60.seats a6).Client), .int .i64 ((rd ob60.seats a6).Seq), .bool (((rd ob60.seats a6).Answer).Done), .slice A76 (((rd ob60.seats a6).Answer).Key).length C77, .slice A79 (((rd ob60.seats a6).Answer).Value).length C80, .int .i64 (((rd ob60.seats a6).Answer).Rev), .int .i64 (((rd ob60.seats a6).Answer).At)] := by rw [qqa75]; exact h73
   refine qv F (r_indexArr3 F ua_74 sz_36 rfl rfl g70.1 (by have g_ := g70.2; omega) hat64 qqa75) fun a F => ?_
   refine qf F ff_36_1 fun a F => ?_
   refine qv F (r_load F rfl ag_3 (AT.cell h73 rfl)) fun a F => ?_
   refine qm F fun a F => ?_
   refine qv F (r_gtr F rfl rfl) fun a F => ?_
   refine qa F fun a F => ?_
   refine nil (hK59 _ _ ?_)
   replace F : Fr a 111 [(0, .pointer (some ad63)), (1, .int .i64 a6), (2, .int .i64 a7), (7, .pointer (some qa18)), (9, .pointer (some qa25)), (40, .bool (decide (a7 < ((rd ob60.seats a6).Seq))))] := F.sub ⟨rfl, rfl, rfl, rfl, rfl, rfl, trivial⟩
   by_cases hb83 : a7 < ((rd ob60.seats a6).Seq)
   ·replace H := ip hb83 H
    refine wp_cond_true (fb F (dt hb83)) ?_
    refine wp_seq_k fun K84 hK84 => reg ?_
    refine qv F (r_build (v := .agg #[.bool false, .slice none 0 0, .slice none 0 0, .int .i64 0, .int .i64 0]) F [] (by exact trivial) (fun w => by kernel_rfl)) fun a F => ?_
    refine qa F fun a F => ?_
    refine q_eff0 F rfl rfl (e_storeN0 (us := [.bool false, .slice none 0 0, .slice none 0 0, .int .i64 0, .int .i64 0]) F rfl rfl sz_34 h27 (nb rfl) (one_all rfl)) ?_
    rintro w85 a ⟨E86, h27, Z87⟩ F
    replace B := B.size Z87
    as_aux_lemma =>
    replace E := E.trans E86 lc1
    replace h27 : AT true (m + 2) c53 w85 qa25 [.bool false, .slice none 0 0, .slice none 0 0, .int .i64 0, .int .i64 0] := h27
    refine qa F fun a F => ?_
    refine qa F fun a F => ?_
    refine nil (hK84 _ _ ?_)
    refine wp_ret ?_
    refine inbR ?_
    refine thenR ?_
    replace H := si H
    subst H
    refine outR4 F rfl rfl ⟨_, rfl, lv_agg (cs := [.bool false, .slice none 0 0, .slice none 0 0, .int .i64 0, .int .i64 0]) ag_34 sz_34 h27⟩ rfl rfl ?_
    exact ⟨cf (fun x_ => if x_ = m + 3 then jr351 else if x_ = m + 4 then jr352 else if x_ < m then x_ else 0) c53, none, none, 0, none, 0, rfl, E.lv B0, cfb, alc_mk (SH.nil), SL.nil, SL.nil⟩
   replace H := im hb83 H
   refine wp_cond_false (fb F (dz hb83)) ?_
   refine wp_seq_k fun K88 hK88 => reg ?_
   refine qm F fun a F => ?_
   refine qm F fun a F => ?_
   refine qv F (r_nil F rfl) fun a F => ?_
   refine qf F ff_76_1 fun a F => ?_
   replace H := ifN H
   obtain ⟨g89, H⟩ := H
   obtain ⟨cs91, h92, r93⟩ := AR.at (off := 1) hat64 rfl h68 a6 g89.1 (by have g_ := g89.2; omega)
   obtain ⟨A95, C96, A98, C99, rfl, h97, h100⟩ := r93
   obtain ⟨qa94, qqa94⟩ : ∃ q, q = (ad63.add (1 + a6.toNat * 7)) := ⟨_, rfl⟩
   have h92 : AT true j4 c53 w54 qa94 [.int .i64 ((rd ob60.seats a6).Client), .int .i64 ((rd ob60.seats a6).Seq), .bool (((rd ob60.seats a6).Answer).Done), .slice A95 (((rd ob60.seats a6).Answer).Key).length C96, .slice A98 (((rd ob60.seats a6).Answer).Value).length C99, .int .i64 (((rd ob60.seats a6).Answer).Rev), .int .i64 (((rd ob60.seats a6).Answer).At)] := by rw [qqa94]; exact h92
   as_aux_lemma =>
   refine qv F (r_indexArr3 F ua_74 sz_36 rfl rfl g89.1 (by have g_ := g89.2; omega) hat64 qqa94) fun a F => ?_
   refine qf F ff_36_1 fun a F => ?_
   refine qv F (r_load F rfl ag_3 (AT.cell h92 rfl)) fun a F => ?_
   refine qm F fun a F => ?_
   refine qv F (r_eql F rfl rfl) fun a F => ?_
   refine qa F fun a F => ?_
   refine nil (hK88 _ _ ?_)
   replace F : Fr a 111 [(0, .pointer (some ad63)), (1, .int .i64 a6), (2, .int .i64 a7), (7, .pointer (some qa18)), (9, .pointer (some qa25)), (51, .bool (decide (((rd ob60.seats a6).Seq) = a7)))] := F.sub ⟨rfl, rfl, rfl, rfl, rfl, rfl, trivial⟩
   by_cases hb102 : ((rd ob60.seats a6).Seq) = a7
   ·replace H := ip hb102 H
    refine wp_cond_true (fb F (dt hb102)) ?_
    refine wp_seq_k fun K103 hK103 => reg ?_
    refine qm F fun a F => ?_
    refine qm F fun a F => ?_
    refine qm F fun a F => ?_
    refine qv F (r_nil F rfl) fun a F => ?_
    refine qf F ff_76_1 fun a F => ?_
    replace H := ifN H
    obtain ⟨g104, H⟩ := H
    obtain ⟨cs106, h107, r108⟩ := AR.at (off := 1) hat64 rfl h68 a6 g104.1 (by have g_ := g104.2; omega)
    obtain ⟨A110, C111, A113, C114, rfl, h112, h115⟩ := r108
    replace h112 := SL.fl (i' := 0) h112 (fun q => q)
    replace h115 := SL.fl (i' := 0) h115 (fun q => q)
    obtain ⟨qa109, qqa109⟩ : ∃ q, q = (ad63.add (1 + a6.toNat * 7)) := ⟨_, rfl⟩
    have h107 : AT true j4 c53 w54 qa109 [.int .i64 ((rd ob60.seats a6).Client), .int .i64 ((rd ob60.seats a6).Seq), .bool (((rd ob60.seats a6).Answer).Done), .slice A110 (((rd ob60.seats a6).Answer).Key).length C111, .slice A113 (((rd ob60.seats a6).Answer).Value).length C114, .int .i64 (((rd ob60.seats a6).Answer).Rev), .int .i64 (((rd ob60.seats a6).Answer).At)] := by rw [qqa109]; exact h107
    as_aux_lemma =>
    refine qv F (r_indexArr3 F ua_74 sz_36 rfl rfl g104.1 (by have g_ := g104.2; omega) hat64 qqa109) fun a F => ?_
    refine qv F (r_loads (cs := [.int .i64 ((rd ob60.seats a6).Client), .int .i64 ((rd ob60.seats a6).Seq), .bool (((rd ob60.seats a6).Answer).Done), .slice A110 (((rd ob60.seats a6).Answer).Key).length C111, .slice A113 (((rd ob60.seats a6).Answer).Value).length C114, .int .i64 (((rd ob60.seats a6).Answer).Rev), .int .i64 (((rd ob60.seats a6).Answer).At)]) F rfl ag_36 sz_36 h107) fun a F => ?_
    obtain ⟨t117, q118, H⟩ := bind_some H
    refine qc F Try.func36 (shard_own.calls (m := m + 6) (a1 := api_Seat.mk ((rd ob60.seats a6).Client) ((rd ob60.seats a6).Seq) ((rd ob60.seats a6).Answer)) (pl hm0) B h112 h115 _ q118) ?_
    rintro e w120 ⟨c119, A123, C124, A126, C127, rfl, E121, B122, h125, h128⟩
    refine ⟨_, rfl, fun a F => ?_⟩
    have B := B122
    replace h27 := h27.ev E121 nq
    replace E := E.trans E121 nx
    refine qv F (r_field (v := .agg #[.bool t117.Answer.Done, .slice A123 t117.Answer.Key.length C124, .slice A126 t117.Answer.Value.length C127, .int .i64 t117.Answer.Rev, .int .i64 t117.Answer.At]) F rfl (fun w => by kernel_rfl)) fun a F => ?_
    refine qa F fun a F => ?_
    refine q_eff0 F rfl rfl (e_storeN0 (us := [.bool t117.Answer.Done, .slice A123 t117.Answer.Key.length C124, .slice A126 t117.Answer.Value.length C127, .int .i64 t117.Answer.Rev, .int .i64 t117.Answer.At]) F rfl rfl sz_34 h27 (nb rfl) (one_all rfl)) ?_
    rintro w130 a ⟨E131, h27, Z132⟩ F
    replace B := B.size Z132
    replace h125 := h125.ev E131 ne_zm ne_zm
    replace h128 := h128.ev E131 ne_zm ne_zm
    replace E := E.trans E131 lc1
    replace h27 : AT true (m + 2) c119 w130 qa25 [.bool t117.Answer.Done, .slice A123 t117.Answer.Key.length C124, .slice A126 t117.Answer.Value.length C127, .int .i64 t117.Answer.Rev, .int .i64 t117.Answer.At] := h27
    refine qa F fun a F => ?_
    refine qa F fun a F => ?_
    refine nil (hK103 _ _ ?_)
    replace F : Fr a 111 [(8, .pointer (some ad63)), (9, .pointer (some qa25)), (10, .bool false), (11, .int .i64 0)] := F.sub ⟨rfl, rfl, rfl, rfl, trivial⟩
    as_aux_lemma =>
    refine wp_ret ?_
    refine inbR ?_
    refine thenR ?_
    replace H := si H
    subst H
    refine outR4 F rfl rfl ⟨_, rfl, lv_agg (cs := [.bool t117.Answer.Done, .slice A123 t117.Answer.Key.length C124, .slice A126 t117.Answer.Value.length C127, .int .i64 t117.Answer.Rev, .int .i64 t117.Answer.At]) ag_34 sz_34 h27⟩ rfl rfl ?_
    exact ⟨cf (fun x_ => if x_ = m + 3 then jr351 else if x_ = m + 4 then jr352 else if x_ < m then x_ else 0) c119, (some ad63), A123, C124, A126, C127, rfl, E.lv B0, cfb, alc_sm rfl, SL.rc h125 cfk cfk, SL.rc h128 cfk cfk⟩
   replace H := im hb102 H
   refine wp_cond_false (fb F (dz hb102)) (wp_skip (hK30 _ _ ?_))
   refine wp_seq_k fun K137 hK137 => reg ?_
   refine qm F fun a F => ?_
   obtain ⟨t138, q139, H⟩ := bind_some H
   refine qc F Try.func30 (shard_Shard_Copy.calls (m := m + 6) (pl hm0) B h3 (Nat.lt_add_right _ bj4) ⟨(Nat.lt_add_right _ bj5.1), bj5.2⟩ (m + 3) lm (m + 4) lm _ q139) ?_
   rintro e w141 ⟨c140, p144, rfl, E142, B143, h145⟩
   refine ⟨_, rfl, fun a F => ?_⟩
   have B := B143
   replace h20 := h20.ev E142 nq
   replace h27 := h27.ev E142 nq
   replace h11 := h11.ev E142 nq nq
   replace h14 := h14.ev E142 nq nq
   replace h66 := h66.ev E142 nq nq
   replace h68 := h68.ev E142 nq
   as_aux_lemma =>
   replace hat64 := hat64.ev E142 nq
   replace E := E.trans E142 nx
   refine qa F fun a F => ?_
   refine nil (hK137 _ _ ?_)
   refine wp_seq_k fun K147 hK147 => ?_
   have J211 : ∀ (c212 : Nat → Nat) (w213 : World) (a : Act) (ad151 : Addr) (qa176 : Addr) (t160 : api_Answer × Int × (Option Tab)) (p153 : Option Addr) (cs155 : List Value) (ob148 : Sha) (A205 : Option Addr) (C206 : Nat) (A208 : Option Addr) (C209 : Nat), Fr a 111 [(0, .pointer (some ad63)), (1, .int .i64 a6), (2, .int .i64 a7), (7, .pointer (some qa18)), (9, .pointer (some qa25)), (12, .pointer (some ad151)), (13, .pointer (some qa176)), (14, .int .i64 t160.2.1)] → Ev (fun x => False ∨ m ≤ x) c0 w0 c212 w213 → CB (m + 6) c212 w213 → AT true j4 c212 w213 ad63 (([.pointer p65] : List Value) ++ (cs67 ++ (([] : List Value)))) → AT true (m + 1) c212 w213 qa18 [.int .i64 a8.Kind, .slice A9 a8.Key.length C10, .slice A12 a8.Value.length C13, .int .i64 a8.Rev] → AT true (m + 2) c212 w213 qa25 [.bool false, .slice none 0 0, .slice none 0 0, .int .i64 0, .int .i64 0] → AT true (m + 3) c212 w213 ad151 (([.pointer p153] : List Value) ++ (cs155 ++ (([] : List Value)))) → AT true (m + 5) c212 w213 qa176 [.bool t160.1.Done, .slice A205 t160.1.Key.length C206, .slice A208 t160.1.Value.length C209, .int .i64 t160.1.Rev, .int .i64 t160.1.At] → TB j5 c212 w213 p65 ob60.Table → AR K_api_Seat 0 c212 w213 cs67 16 ob60.seats → SL false (Kint .u8) 0 0 c212 w213 A9 C10 a8.Key → SL false (Kint .u8) 0 0 c212 w213 A12 C13 a8.Value → AR K_api_Seat 0 c212 w213 cs155 16 ob148.seats → TB (m + 4) c212 w213 p153 t160.2.2 → SL false (Kint .u8) 0 0 c212 w213 A205 C206 t160.1.Key → SL false (Kint .u8) 0 0 c212 w213 A208 C209 t160.1.Value → shard_Shard_next.j2 k a6 a7 a8 ob148 t160 = some r → K147 a w213 := by
    intro c212 w213 a ad151 qa176 t160 p153 cs155 ob148 A205 C206 A208 C209 F E B hat64 h20 h27 hat152 h178 h66 h68 h11 h14 h156 h204 h207 h210 H
    unfold shard_Shard_next.j2 at H
    refine hK147 _ _ ?_
    refine wp_seq_k fun K214 hK214 => ?_
    refine wp_seq_k fun K215 hK215 => reg ?_
    refine qm F fun a F => ?_
    refine qv F (r_neq F rfl rfl) fun a F => ?_
    refine nil (hK215 _ _ ?_)
    by_cases hb216 : t160.2.1 = 0
    ·replace H := ip hb216 H
     refine wp_cond_false (fb F (congrArg not (dt hb216))) (wp_skip (hK214 _ _ ?_))
     refine wp_seq_k fun K221 hK221 => ?_
     refine wp_seq_k fun K222 hK222 => ?_
     have J225 : ∀ (c226 : Nat → Nat) (w227 : World) (a : Act) (b224 : Bool), Fr a 111 [(0, .pointer (some ad63)), (1, .int .i64 a6), (2, .int .i64 a7), (9, .pointer (some qa25)), (12, .pointer (some ad151)), (13, .pointer (some qa176)), (92, .bool b224)] → Ev (fun x => False ∨ m ≤ x) c0 w0 c226 w227 → CB (m + 6) c226 w227 → AT true j4 c226 w227 ad63 (([.pointer p65] : List Value) ++ (cs67 ++ (([] : List Value)))) → AT true (m + 2) c226 w227 qa25 [.bool false, .slice none 0 0, .slice none 0 0, .int .i64 0, .int .i64 0] → AT true (m + 3) c226 w227 ad151 (([.pointer p153] : List Value) ++ (cs155 ++ (([] : List Value)))) → AT true (m + 5) c226 w227 qa176 [.bool t160.1.Done, .slice A205 t160.1.Key.length C206, .slice A208 t160.1.Value.length C209, .int .i64 t160.1.Rev, .int .i64 t160.1.At] → TB j5 c226 w227 p65 ob60.Table → AR K_api_Seat 0 c226 w227 cs67 16 ob60.seats → TB (m + 4) c226 w227 p153 t160.2.2 → AR K_api_Seat 0 c226 w227 cs155 16 ob148.seats → SL false (Kint .u8) 0 0 c226 w227 A205 C206 t160.1.Key → SL false (Kint .u8) 0 0 c226 w227 A208 C209 t160.1.Value → shard_Shard_next.j3 k a6 a7 ob148 t160 b224 = some r → K222 a w227 := by
      intro c226 w227 a b224 F E B hat64 h27 hat152 h178 h66 h68 h204 h156 h207 h210 H
      unfold shard_Shard_next.j3 at H
      refine hK222 _ _ ?_
      by_cases hb228 : b224 = true
      ·replace H := ip hb228 H
       as_aux_lemma =>
       refine wp_cond_true (fb F hb228) ?_
       refine wp_seq_k fun K229 hK229 => ?_
       refine regD (SB (fun x => x = m + 2) c226 w227) 6 (.q 0 (.q 1 (.q 2 (.e 3 (.q 4 (.q 5 .nil)))))) Try_hm (by decide +kernel) ?_
       intro w230 w1_ w2_ w3_ w4_
       have E231 : Ev No c226 w227 c226 w230 := Ev.same w1_ w2_ w3_ w4_
       replace B := B.same w1_
       have zh178 := h178
       have ER : Ev (fun x => x = m + 2) c226 w227 c226 w230 := Ev.same w1_ w2_ w3_ w4_
       replace h27 := h27.ev E231 nq
       replace h207 := h207.ev E231 nq nq
       replace h210 := h210.ev E231 nq nq
       replace E := E.trans E231 nx
       refine dm F ER.sb fun a F => ?_
       refine dq F (fun wq hS => r_loads (cs := [.bool t160.1.Done, .slice A205 t160.1.Key.length C206, .slice A208 t160.1.Value.length C209, .int .i64 t160.1.Rev, .int .i64 t160.1.At]) F rfl ag_34 sz_34 (AT.sb zh178 hS mm)) ER.sb fun a F => ?_
       refine da F ER.sb fun a F => ?_
       refine d_e ?_
       refine o_eff0 F rfl rfl rfl (e_storeN0 (us := [.bool t160.1.Done, .slice A205 t160.1.Key.length C206, .slice A208 t160.1.Value.length C209, .int .i64 t160.1.Rev, .int .i64 t160.1.At]) F rfl rfl sz_34 h27 (nb rfl) (one_all rfl)) ?_
       rintro w232 a ⟨E233, h27, Z234⟩ F
       replace B := B.size Z234
       replace ER := ER.trans E233 (fun x q => by replace q : x = m + 2 := q; show x = m + 2; omega)
       replace h207 := h207.ev E233 ne_zm ne_zm
       replace h210 := h210.ev E233 ne_zm ne_zm
       as_aux_lemma =>
       replace E := E.trans E233 lc1
       replace h27 : AT true (m + 2) c226 w232 qa25 [.bool t160.1.Done, .slice A205 t160.1.Key.length C206, .slice A208 t160.1.Value.length C209, .int .i64 t160.1.Rev, .int .i64 t160.1.At] := h27
       refine ⟨fun _ => ER.sb, ?_⟩
       refine da F ER.sb fun a F => ?_
       refine da F ER.sb fun a F => ?_
       refine d_nil ?_
       refine hK229 _ _ ?_
       replace F : Fr a 111 [(8, .pointer (some ad63)), (9, .pointer (some qa25)), (10, .bool false), (11, .int .i64 0)] := F.sub ⟨rfl, rfl, rfl, rfl, trivial⟩
       refine wp_ret ?_
       refine thenR ?_
       replace H := si H
       subst H
       refine outR4 F rfl rfl ⟨_, rfl, lv_agg (cs := [.bool t160.1.Done, .slice A205 t160.1.Key.length C206, .slice A208 t160.1.Value.length C209, .int .i64 t160.1.Rev, .int .i64 t160.1.At]) ag_34 sz_34 h27⟩ rfl rfl ?_
       exact ⟨cf (fun x_ => if x_ = m + 3 then jr351 else if x_ = m + 4 then jr352 else if x_ < m then x_ else 0) c226, (some ad63), A205, C206, A208, C209, rfl, E.lv B0, cfb, alc_sm rfl, SL.rc h207 cfk cfk, SL.rc h210 cfk cfk⟩
      replace H := im hb228 H
      refine wp_cond_false (fb F (bfalse hb228)) (wp_skip (hK221 _ _ ?_))
      refine wp_seq_k fun K235 hK235 => ?_
      have J326 : ∀ (c327 : Nat → Nat) (w328 : World) (a : Act) (t238 : api_Seat) (cs324 : List Value), Fr a 111 [(9, .pointer (some qa25)), (12, .pointer (some ad151)), (13, .pointer (some qa176))] → Ev (fun x => False ∨ m ≤ x) c0 w0 c327 w328 → CB (m + 6) c327 w328 → AT true (m + 2) c327 w328 qa25 [.bool false, .slice none 0 0, .slice none 0 0, .int .i64 0, .int .i64 0] → AT true (m + 3) c327 w328 ad151 (([.pointer p153] : List Value) ++ (cs324 ++ (([] : List Value)))) → AT true (m + 5) c327 w328 qa176 [.bool t160.1.Done, .slice A205 t160.1.Key.length C206, .slice A208 t160.1.Value.length C209, .int .i64 t160.1.Rev, .int .i64 t160.1.At] → TB (m + 4) c327 w328 p153 t160.2.2 → SL false (Kint .u8) 0 0 c327 w328 A205 C206 t160.1.Key → SL false (Kint .u8) 0 0 c327 w328 A208 C209 t160.1.Value → AR K_api_Seat 0 c327 w328 cs324 16 (ob148.seats.set a6.toNat t238) → shard_Shard_next.j4 k a6 ob148 t160 t238 = some r → K235 a w328 := by
       intro c327 w328 a t238 cs324 F E B h27 hat152 h178 h204 h207 h210 h325 H
       unfold shard_Shard_next.j4 at H
       refine hK235 _ _ ?_
       refine wp_seq_k fun K329 hK329 => ?_
       as_aux_lemma =>
       refine wp_seq_k fun K330 hK330 => reg ?_
       refine qm F fun a F => ?_
       have h331 : SH (m + 3) (m + 4) c327 w328 (some ad151) (some (Sha.mk t160.2.2 (ob148.seats.set a6.toNat t238))) := SH.mk hat152 h204 h325
       obtain ⟨t332, q333, H⟩ := bind_some H
       refine qc F Try.func32 (shard_Shard_Size.calls k (m := m + 6) (pl hm0) B h331 lm ⟨lm, mm⟩ _ q333) ?_
       rintro e w335 ⟨c334, rfl, E336, B337⟩
       refine ⟨_, rfl, fun a F => ?_⟩
       have B := B337
       replace h27 := h27.ev E336 nq
       replace hat152 := hat152.ev E336 nq
       replace h178 := h178.ev E336 nq
       replace h204 := h204.ev E336 nq nq
       replace h207 := h207.ev E336 nq nq
       replace h210 := h210.ev E336 nq nq
       replace h325 := h325.ev E336 nq
       replace E := E.trans E336 nx
       refine qv F (r_gtr F rfl rfl) fun a F => ?_
       refine nil (hK330 _ _ ?_)
       by_cases hb339 : 262144 < t332
       ·replace H := ip hb339 H
        refine wp_cond_true (fb F (dt hb339)) ?_
        refine wp_seq_k fun K340 hK340 => reg ?_
        refine qv F (r_build (v := .agg #[.bool false, .slice none 0 0, .slice none 0 0, .int .i64 0, .int .i64 0]) F [] (by exact trivial) (fun w => by kernel_rfl)) fun a F => ?_
        as_aux_lemma =>
        refine qa F fun a F => ?_
        refine q_eff0 F rfl rfl (e_storeN0 (us := [.bool false, .slice none 0 0, .slice none 0 0, .int .i64 0, .int .i64 0]) F rfl rfl sz_34 h27 (nb rfl) (one_all rfl)) ?_
        rintro w341 a ⟨E342, h27, Z343⟩ F
        replace B := B.size Z343
        replace E := E.trans E342 lc1
        replace h27 : AT true (m + 2) c334 w341 qa25 [.bool false, .slice none 0 0, .slice none 0 0, .int .i64 0, .int .i64 0] := h27
        refine qa F fun a F => ?_
        refine qa F fun a F => ?_
        refine nil (hK340 _ _ ?_)
        refine wp_ret ?_
        refine thenR ?_
        replace H := si H
        subst H
        refine outR4 F rfl rfl ⟨_, rfl, lv_agg (cs := [.bool false, .slice none 0 0, .slice none 0 0, .int .i64 0, .int .i64 0]) ag_34 sz_34 h27⟩ rfl rfl ?_
        exact ⟨cf (fun x_ => if x_ = m + 3 then jr351 else if x_ = m + 4 then jr352 else if x_ < m then x_ else 0) c334, none, none, 0, none, 0, rfl, E.lv B0, cfb, alc_mk (SH.nil), SL.nil, SL.nil⟩
       replace H := im hb339 H
       refine wp_cond_false (fb F (dz hb339)) (wp_skip (hK329 _ _ ?_))
       refine wp_seq_k fun K344 hK344 => ?_
       refine regD (SB (fun x => x = m + 2) c334 w335) 6 (.q 0 (.q 1 (.q 2 (.e 3 (.q 4 (.q 5 .nil)))))) Try_hm (by decide +kernel) ?_
       intro w345 w1_ w2_ w3_ w4_
       have E346 : Ev No c334 w335 c334 w345 := Ev.same w1_ w2_ w3_ w4_
       replace B := B.same w1_
       have zh178 := h178
       have ER : Ev (fun x => x = m + 2) c334 w335 c334 w345 := Ev.same w1_ w2_ w3_ w4_
       as_aux_lemma =>
       replace h27 := h27.ev E346 nq
       replace hat152 := hat152.ev E346 nq
       replace h204 := h204.ev E346 nq nq
       replace h207 := h207.ev E346 nq nq
       replace h210 := h210.ev E346 nq nq
       replace h325 := h325.ev E346 nq
       replace E := E.trans E346 nx
       refine dm F ER.sb fun a F => ?_
       refine dq F (fun wq hS => r_loads (cs := [.bool t160.1.Done, .slice A205 t160.1.Key.length C206, .slice A208 t160.1.Value.length C209, .int .i64 t160.1.Rev, .int .i64 t160.1.At]) F rfl ag_34 sz_34 (AT.sb zh178 hS mm)) ER.sb fun a F => ?_
       refine da F ER.sb fun a F => ?_
       refine d_e ?_
       refine o_eff0 F rfl rfl rfl (e_storeN0 (us := [.bool t160.1.Done, .slice A205 t160.1.Key.length C206, .slice A208 t160.1.Value.length C209, .int .i64 t160.1.Rev, .int .i64 t160.1.At]) F rfl rfl sz_34 h27 (nb rfl) (one_all rfl)) ?_
       rintro w347 a ⟨E348, h27, Z349⟩ F
       replace B := B.size Z349
       replace ER := ER.trans E348 (fun x q => by replace q : x = m + 2 := q; show x = m + 2; omega)
       replace hat152 := hat152.ev E348 mm
       replace h204 := h204.ev E348 mm ne_zm
       replace h207 := h207.ev E348 ne_zm ne_zm
       replace h210 := h210.ev E348 ne_zm ne_zm
       replace h325 := h325.ev E348 ne_zm
       replace E := E.trans E348 lc1
       replace h27 : AT true (m + 2) c334 w347 qa25 [.bool t160.1.Done, .slice A205 t160.1.Key.length C206, .slice A208 t160.1.Value.length C209, .int .i64 t160.1.Rev, .int .i64 t160.1.At] := h27
       as_aux_lemma =>
       refine ⟨fun _ => ER.sb, ?_⟩
       refine da F ER.sb fun a F => ?_
       refine da F ER.sb fun a F => ?_
       refine d_nil ?_
       refine hK344 _ _ ?_
       refine wp_ret ?_
       have h350 : SH (m + 3) (m + 4) c334 w347 (some ad151) (some (Sha.mk t160.2.2 (ob148.seats.set a6.toNat t238))) := SH.mk hat152 h204 h325
       replace H := si H
       subst H
       refine outR4 F rfl rfl ⟨_, rfl, lv_agg (cs := [.bool t160.1.Done, .slice A205 t160.1.Key.length C206, .slice A208 t160.1.Value.length C209, .int .i64 t160.1.Rev, .int .i64 t160.1.At]) ag_34 sz_34 h27⟩ rfl rfl ?_
       exact ⟨cf (fun x_ => if x_ = m + 3 then jr351 else if x_ = m + 4 then jr352 else if x_ < m then x_ else 0) c334, (some ad151), A205, C206, A208, C209, rfl, E.lv B0, cfb, alc_mk (SH.rc h350 cfk cfk cfk), SL.rc h207 cfk cfk, SL.rc h210 cfk cfk⟩
      refine regD (SB No c226 w227) 10 (.q 0 (.q 1 (.q 2 (.q 3 (.q 4 (.q 5 (.f 6 (.e 7 (.e 8 (.q 9 (.e 10 .nil)))) 7 (.f 6 (.e 8 (.q 9 (.e 10 .nil))) 8 (.e 6 (.q 9 (.e 10 .nil))))))))))) Try_hm (by decide +kernel) ?_
      intro w236 w1_ w2_ w3_ w4_
      have E237 : Ev No c226 w227 c226 w236 := Ev.same w1_ w2_ w3_ w4_
      replace B := B.same w1_
      have zhat152 := hat152
      have zh178 := h178
      have zh156 := h156
      have ER : Ev No c226 w227 c226 w236 := Ev.same w1_ w2_ w3_ w4_
      replace h27 := h27.ev E237 nq
      replace hat152 := hat152.ev E237 nq
      replace h178 := h178.ev E237 nq
      as_aux_lemma =>
      replace h204 := h204.ev E237 nq nq
      replace h156 := h156.ev E237 nq
      replace h207 := h207.ev E237 nq nq
      replace h210 := h210.ev E237 nq nq
      replace E := E.trans E237 nx
      refine dm F ER.sb fun a F => ?_
      refine dm F ER.sb fun a F => ?_
      refine dm F ER.sb fun a F => ?_
      refine dm F ER.sb fun a F => ?_
      refine dq F (fun wq hS => r_loads (cs := [.bool t160.1.Done, .slice A205 t160.1.Key.length C206, .slice A208 t160.1.Value.length C209, .int .i64 t160.1.Rev, .int .i64 t160.1.At]) F rfl ag_34 sz_34 (AT.sb zh178 hS nq)) ER.sb fun a F => ?_
      refine d_q F rfl rfl rfl (by decide) (fun wq hS => r_build (v := .agg #[.int .i64 a6, .int .i64 a7, .bool t160.1.Done, .slice A205 t160.1.Key.length C206, .slice A208 t160.1.Value.length C209, .int .i64 t160.1.Rev, .int .i64 t160.1.At]) F [(0, .int .i64 a6), (1, .int .i64 a7), (2, .agg #[.bool t160.1.Done, .slice A205 t160.1.Key.length C206, .slice A208 t160.1.Value.length C209, .int .i64 t160.1.Rev, .int .i64 t160.1.At])] (by exact ⟨rfl, rfl, rfl, rfl, rfl, rfl, trivial⟩) (bd_36_i64_0_i64_1_bssi64i64_2 _ _ _ _ _ _ _ _ _ _ _)) ER.sb fun a F => ?_
      refine d_f ?_ ?_
      ·obtain ⟨t238, q239, H⟩ := bind_some H
       refine oc F Try.func36 (shard_own.calls (m := m + 6) (a1 := api_Seat.mk a6 a7 t160.1) (pl hm0) B h207 h210 _ q239) ?_
       rintro e w241 ⟨c240, A244, C245, A247, C248, rfl, E242, B243, h246, h249⟩
       refine ⟨_, rfl, fun a F => ?_⟩
       have B := B243
       replace ER := ER.trans E242 nx
       replace h27 := h27.ev E242 nq
       replace hat152 := hat152.ev E242 nq
       replace h178 := h178.ev E242 nq
       replace h204 := h204.ev E242 nq nq
       replace h156 := h156.ev E242 nq
       as_aux_lemma =>
       replace h207 := h207.ev E242 nq nq
       replace h210 := h210.ev E242 nq nq
       replace E := E.trans E242 nx
       refine ⟨fun _ => ER.sb, ?_⟩
       refine d_e ?_
       refine o_val F rfl rfl rfl (by decide) (r_nil F rfl) fun a F => ?_
       refine ⟨fun _ => ER.sb, ?_⟩
       refine d_e ?_
       refine o_val F rfl rfl rfl (by decide) (r_fieldAddr F rfl ff_76_1) fun a F => ?_
       refine ⟨fun _ => ER.sb, ?_⟩
       replace H := ifN H
       obtain ⟨g251, H⟩ := H
       obtain ⟨cs253, h254, r255⟩ := AR.at (off := 1) zhat152 rfl zh156 a6 g251.1 (by have g_ := g251.2; omega)
       obtain ⟨A257, C258, A260, C261, rfl, h259, h262⟩ := r255
       obtain ⟨qa256, qqa256⟩ : ∃ q, q = (ad151.add (1 + a6.toNat * 7)) := ⟨_, rfl⟩
       have h254 : AT true (m + 3) c226 w227 qa256 [.int .i64 ((rd ob148.seats a6).Client), .int .i64 ((rd ob148.seats a6).Seq), .bool (((rd ob148.seats a6).Answer).Done), .slice A257 (((rd ob148.seats a6).Answer).Key).length C258, .slice A260 (((rd ob148.seats a6).Answer).Value).length C261, .int .i64 (((rd ob148.seats a6).Answer).Rev), .int .i64 (((rd ob148.seats a6).Answer).At)] := by rw [qqa256]; exact h254
       replace h254 := h254.ev ER nq
       refine dq F (fun wq hS => r_indexArr3 F ua_74 sz_36 rfl rfl g251.1 (by have g_ := g251.2; omega) hat152 qqa256) ER.sb fun a F => ?_
       refine d_e ?_
       refine o_eff0 F rfl rfl rfl (e_storearN (us := [.int .i64 t238.Client, .int .i64 t238.Seq, .bool t238.Answer.Done, .slice A244 t238.Answer.Key.length C245, .slice A247 t238.Answer.Value.length C248, .int .i64 t238.Answer.Rev, .int .i64 t238.Answer.At]) F rfl rfl sz_36 hat152 rfl h156 (m := a6.toNat) (by have g_ := g251; omega) qqa256 h254 rfl (nb rfl) (one_all rfl) t238 ⟨A244, C245, A247, C248, rfl, (SL.fl h246 (fun q => q)), (SL.fl h249 (fun q => q))⟩ ne_zm) ?_
       rintro w264 a ⟨cs267, E265, hat152, h156, Z266⟩ F
       replace B := B.size Z266
       as_aux_lemma =>
       replace h27 := h27.ev E265 mm
       replace h178 := h178.ev E265 mm
       replace h204 := h204.ev E265 mm ne_zm
       replace h207 := h207.ev E265 ne_zm ne_zm
       replace h210 := h210.ev E265 ne_zm ne_zm
       replace E := E.trans E265 lc1
       replace hat152 : AT true (m + 3) c240 w264 ad151 (([.pointer p153] : List Value) ++ (cs267 ++ (([] : List Value)))) := hat152
       refine ⟨fun q => absurd rfl q, ?_⟩
       refine d_nil ?_
       exact J326 c240 w264 a t238 cs267 (F.sub ⟨rfl, rfl, rfl, trivial⟩) E B h27 hat152 h178 h204 h207 h210 h156 H
      obtain ⟨t238, q239, H⟩ := bind_some H
      refine o_val F rfl rfl rfl (by decide) (r_nil F rfl) fun a F => ?_
      refine ⟨fun _ => ER.sb, ?_⟩
      refine d_f ?_ ?_
      ·refine oc F Try.func36 (shard_own.calls (m := m + 6) (a1 := api_Seat.mk a6 a7 t160.1) (pl hm0) B h207 h210 _ q239) ?_
       rintro e w269 ⟨c268, A272, C273, A275, C276, rfl, E270, B271, h274, h277⟩
       refine ⟨_, rfl, fun a F => ?_⟩
       have B := B271
       replace ER := ER.trans E270 nx
       replace h27 := h27.ev E270 nq
       replace hat152 := hat152.ev E270 nq
       replace h178 := h178.ev E270 nq
       replace h204 := h204.ev E270 nq nq
       as_aux_lemma =>
       replace h156 := h156.ev E270 nq
       replace h207 := h207.ev E270 nq nq
       replace h210 := h210.ev E270 nq nq
       replace E := E.trans E270 nx
       refine ⟨fun _ => ER.sb, ?_⟩
       refine d_e ?_
       refine o_val F rfl rfl rfl (by decide) (r_fieldAddr F rfl ff_76_1) fun a F => ?_
       refine ⟨fun _ => ER.sb, ?_⟩
       replace H := ifN H
       obtain ⟨g279, H⟩ := H
       obtain ⟨cs281, h282, r283⟩ := AR.at (off := 1) zhat152 rfl zh156 a6 g279.1 (by have g_ := g279.2; omega)
       obtain ⟨A285, C286, A288, C289, rfl, h287, h290⟩ := r283
       obtain ⟨qa284, qqa284⟩ : ∃ q, q = (ad151.add (1 + a6.toNat * 7)) := ⟨_, rfl⟩
       have h282 : AT true (m + 3) c226 w227 qa284 [.int .i64 ((rd ob148.seats a6).Client), .int .i64 ((rd ob148.seats a6).Seq), .bool (((rd ob148.seats a6).Answer).Done), .slice A285 (((rd ob148.seats a6).Answer).Key).length C286, .slice A288 (((rd ob148.seats a6).Answer).Value).length C289, .int .i64 (((rd ob148.seats a6).Answer).Rev), .int .i64 (((rd ob148.seats a6).Answer).At)] := by rw [qqa284]; exact h282
       replace h282 := h282.ev ER nq
       refine dq F (fun wq hS => r_indexArr3 F ua_74 sz_36 rfl rfl g279.1 (by have g_ := g279.2; omega) hat152 qqa284) ER.sb fun a F => ?_
       refine d_e ?_
       refine o_eff0 F rfl rfl rfl (e_storearN (us := [.int .i64 t238.Client, .int .i64 t238.Seq, .bool t238.Answer.Done, .slice A272 t238.Answer.Key.length C273, .slice A275 t238.Answer.Value.length C276, .int .i64 t238.Answer.Rev, .int .i64 t238.Answer.At]) F rfl rfl sz_36 hat152 rfl h156 (m := a6.toNat) (by have g_ := g279; omega) qqa284 h282 rfl (nb rfl) (one_all rfl) t238 ⟨A272, C273, A275, C276, rfl, (SL.fl h274 (fun q => q)), (SL.fl h277 (fun q => q))⟩ ne_zm) ?_
       rintro w292 a ⟨cs295, E293, hat152, h156, Z294⟩ F
       replace B := B.size Z294
       replace h27 := h27.ev E293 mm
       replace h178 := h178.ev E293 mm
       as_aux_lemma =>
       replace h204 := h204.ev E293 mm ne_zm
       replace h207 := h207.ev E293 ne_zm ne_zm
       replace h210 := h210.ev E293 ne_zm ne_zm
       replace E := E.trans E293 lc1
       replace hat152 : AT true (m + 3) c268 w292 ad151 (([.pointer p153] : List Value) ++ (cs295 ++ (([] : List Value)))) := hat152
       refine ⟨fun q => absurd rfl q, ?_⟩
       refine d_nil ?_
       exact J326 c268 w292 a t238 cs295 (F.sub ⟨rfl, rfl, rfl, trivial⟩) E B h27 hat152 h178 h204 h207 h210 h156 H
      refine o_val F rfl rfl rfl (by decide) (r_fieldAddr F rfl ff_76_1) fun a F => ?_
      refine ⟨fun _ => ER.sb, ?_⟩
      refine d_e ?_
      refine oc F Try.func36 (shard_own.calls (m := m + 6) (a1 := api_Seat.mk a6 a7 t160.1) (pl hm0) B h207 h210 _ q239) ?_
      rintro e w297 ⟨c296, A300, C301, A303, C304, rfl, E298, B299, h302, h305⟩
      refine ⟨_, rfl, fun a F => ?_⟩
      have B := B299
      replace ER := ER.trans E298 nx
      replace h27 := h27.ev E298 nq
      replace hat152 := hat152.ev E298 nq
      replace h178 := h178.ev E298 nq
      replace h204 := h204.ev E298 nq nq
      replace h156 := h156.ev E298 nq
      replace h207 := h207.ev E298 nq nq
      as_aux_lemma =>
      replace h210 := h210.ev E298 nq nq
      replace E := E.trans E298 nx
      refine ⟨fun _ => ER.sb, ?_⟩
      replace H := ifN H
      obtain ⟨g307, H⟩ := H
      obtain ⟨cs309, h310, r311⟩ := AR.at (off := 1) zhat152 rfl zh156 a6 g307.1 (by have g_ := g307.2; omega)
      obtain ⟨A313, C314, A316, C317, rfl, h315, h318⟩ := r311
      obtain ⟨qa312, qqa312⟩ : ∃ q, q = (ad151.add (1 + a6.toNat * 7)) := ⟨_, rfl⟩
      have h310 : AT true (m + 3) c226 w227 qa312 [.int .i64 ((rd ob148.seats a6).Client), .int .i64 ((rd ob148.seats a6).Seq), .bool (((rd ob148.seats a6).Answer).Done), .slice A313 (((rd ob148.seats a6).Answer).Key).length C314, .slice A316 (((rd ob148.seats a6).Answer).Value).length C317, .int .i64 (((rd ob148.seats a6).Answer).Rev), .int .i64 (((rd ob148.seats a6).Answer).At)] := by rw [qqa312]; exact h310
      replace h310 := h310.ev ER nq
      refine dq F (fun wq hS => r_indexArr3 F ua_74 sz_36 rfl rfl g307.1 (by have g_ := g307.2; omega) hat152 qqa312) ER.sb fun a F => ?_
      refine d_e ?_
      refine o_eff0 F rfl rfl rfl (e_storearN (us := [.int .i64 t238.Client, .int .i64 t238.Seq, .bool t238.Answer.Done, .slice A300 t238.Answer.Key.length C301, .slice A303 t238.Answer.Value.length C304, .int .i64 t238.Answer.Rev, .int .i64 t238.Answer.At]) F rfl rfl sz_36 hat152 rfl h156 (m := a6.toNat) (by have g_ := g307; omega) qqa312 h310 rfl (nb rfl) (one_all rfl) t238 ⟨A300, C301, A303, C304, rfl, (SL.fl h302 (fun q => q)), (SL.fl h305 (fun q => q))⟩ ne_zm) ?_
      rintro w320 a ⟨cs323, E321, hat152, h156, Z322⟩ F
      replace B := B.size Z322
      replace h27 := h27.ev E321 mm
      replace h178 := h178.ev E321 mm
      replace h204 := h204.ev E321 mm ne_zm
      replace h207 := h207.ev E321 ne_zm ne_zm
      replace h210 := h210.ev E321 ne_zm ne_zm
      replace E := E.trans E321 lc1
      replace hat152 : AT true (m + 3) c296 w320 ad151 (([.pointer p153] : List Value) ++ (cs323 ++ (([] : List Value)))) := hat152
      as_aux_lemma =>
      refine ⟨fun q => absurd rfl q, ?_⟩
      refine d_nil ?_
      exact J326 c296 w320 a t238 cs323 (F.sub ⟨rfl, rfl, rfl, trivial⟩) E B h27 hat152 h178 h204 h207 h210 h156 H
     refine reg ?_
     refine qf F ff_30_0 fun a F => ?_
     refine qv F (r_load F rfl ag_3 (AT.cell h20 rfl)) fun a F => ?_
     refine qv F (r_eql F rfl rfl) fun a F => ?_
     refine qm F fun a F => ?_
     by_cases hb223 : a8.Kind = 1
     ·replace H := ip hb223 H
      refine qn F (dt hb223) fun a F => ?_
      refine qn F (dt hb223) fun a F => ?_
      refine qn F (dt hb223) fun a F => ?_
      refine qv F (r_pick_t F rfl (dt hb223) rfl) fun a F => ?_
      refine nil ?_
      exact J225 c212 w213 a true (F.sub ⟨rfl, rfl, rfl, rfl, rfl, rfl, rfl, trivial⟩) E B hat64 h27 hat152 h178 h66 h68 h204 h156 h207 h210 H
     replace H := im hb223 H
     refine qy F (dz hb223) ?_
     refine qf F ff_30_0 fun a F => ?_
     refine qy F (dz hb223) ?_
     refine qv F (r_load F rfl ag_3 (AT.cell h20 rfl)) fun a F => ?_
     refine qy F (dz hb223) ?_
     refine qv F (r_eql F rfl rfl) fun a F => ?_
     as_aux_lemma =>
     refine qv F (r_pick_f F rfl (dz hb223) rfl) fun a F => ?_
     refine nil ?_
     exact J225 c212 w213 a (decide (a8.Kind = 5)) (F.sub ⟨rfl, rfl, rfl, rfl, rfl, rfl, rfl, trivial⟩) E B hat64 h27 hat152 h178 h66 h68 h204 h156 h207 h210 H
    replace H := im hb216 H
    refine wp_cond_true (fb F (congrArg not (dz hb216))) ?_
    refine wp_seq_k fun K217 hK217 => reg ?_
    refine qv F (r_build (v := .agg #[.bool false, .slice none 0 0, .slice none 0 0, .int .i64 0, .int .i64 0]) F [] (by exact trivial) (fun w => by kernel_rfl)) fun a F => ?_
    refine qm F fun a F => ?_
    refine qa F fun a F => ?_
    refine q_eff0 F rfl rfl (e_storeN0 (us := [.bool false, .slice none 0 0, .slice none 0 0, .int .i64 0, .int .i64 0]) F rfl rfl sz_34 h27 (nb rfl) (one_all rfl)) ?_
    rintro w218 a ⟨E219, h27, Z220⟩ F
    replace B := B.size Z220
    replace E := E.trans E219 lc1
    replace h27 : AT true (m + 2) c212 w218 qa25 [.bool false, .slice none 0 0, .slice none 0 0, .int .i64 0, .int .i64 0] := h27
    refine qa F fun a F => ?_
    refine qa F fun a F => ?_
    refine nil (hK217 _ _ ?_)
    replace F : Fr a 111 [(8, .pointer none), (9, .pointer (some qa25)), (10, .bool false), (11, .int .i64 t160.2.1)] := F.sub ⟨rfl, rfl, rfl, rfl, trivial⟩
    refine wp_ret ?_
    refine thenR ?_
    replace H := si H
    subst H
    as_aux_lemma =>
    refine outR4 F rfl rfl ⟨_, rfl, lv_agg (cs := [.bool false, .slice none 0 0, .slice none 0 0, .int .i64 0, .int .i64 0]) ag_34 sz_34 h27⟩ rfl rfl ?_
    exact ⟨cf (fun x_ => if x_ = m + 3 then jr351 else if x_ = m + 4 then jr352 else if x_ < m then x_ else 0) c212, none, none, 0, none, 0, rfl, E.lv B0, cfb, alc_mk (SH.nil), SL.nil, SL.nil⟩
   obtain ⟨ob148, e149, H⟩ := bind_some H
   have z150 := h145
   rw [e149] at z150
   obtain ⟨ad151, p153, cs155, rfl, hat152, h154, h156⟩ := SH.some z150
   refine regD (SB (fun x => x = m + 4 ∨ x = m + 5) c140 w141) 12 (.q 0 (.q 1 (.q 2 (.q 3 (.q 4 (.f 5 (.q 6 (.q 7 (.q 8 (.e 9 (.e 10 (.q 11 .nil)))))) 9 (.e 5 (.q 6 (.q 7 (.q 8 (.e 10 (.q 11 .nil)))))))))))) Try_hm (by decide +kernel) ?_
   intro w158 w1_ w2_ w3_ w4_
   have E159 : Ev No c140 w141 c140 w158 := Ev.same w1_ w2_ w3_ w4_
   replace B := B.same w1_
   have zh20 := h20
   have zhat152 := hat152
   have ER : Ev (fun x => x = m + 4 ∨ x = m + 5) c140 w141 c140 w158 := Ev.same w1_ w2_ w3_ w4_
   replace h20 := h20.ev E159 nq
   replace h27 := h27.ev E159 nq
   replace h11 := h11.ev E159 nq nq
   replace h14 := h14.ev E159 nq nq
   replace h66 := h66.ev E159 nq nq
   replace h68 := h68.ev E159 nq
   replace hat64 := hat64.ev E159 nq
   replace h154 := h154.ev E159 nq nq
   replace h156 := h156.ev E159 nq
   as_aux_lemma =>
   replace hat152 := hat152.ev E159 nq
   replace E := E.trans E159 nx
   refine dm F ER.sb fun a F => ?_
   refine dq F (fun wq hS => r_nil F rfl) ER.sb fun a F => ?_
   refine df F ff_76_0 ER.sb fun a F => ?_
   refine dq F (fun wq hS => r_load F rfl ag_26 (AT.cell (AT.ev zhat152 hS (nor mm mm)) rfl)) ER.sb fun a F => ?_
   refine dq F (fun wq hS => r_loads (cs := [.int .i64 a8.Kind, .slice A9 a8.Key.length C10, .slice A12 a8.Value.length C13, .int .i64 a8.Rev]) F rfl ag_30 sz_30 (AT.sb zh20 hS (nor mm mm))) ER.sb fun a F => ?_
   refine d_f ?_ ?_
   ·obtain ⟨t160, q161, H⟩ := bind_some H
    refine oc F Try.func12 (table_Table_Do.calls k (m := m + 6) (pl hm0) B h154 h11 h14 ⟨(pl hm0), lm⟩ _ q161) ?_
    rintro e w163 ⟨c162, A166, C167, A169, C170, rfl, E164, B165, h168, h171, h172⟩
    refine ⟨_, rfl, fun a F => ?_⟩
    have B := B165
    replace ER := ER.trans E164 (fun x q => by replace q : x = m + 4 := q; show x = m + 4 ∨ x = m + 5; omega)
    replace h20 := h20.ev E164 mm
    replace h27 := h27.ev E164 mm
    replace h11 := h11.ev E164 ne_zm ne_zm
    replace h14 := h14.ev E164 ne_zm ne_zm
    replace h66 := h66.ev E164 (ne_pm bj5.1) ne_zm
    replace h68 := h68.ev E164 ne_zm
    replace hat64 := hat64.ev E164 (ne_pm bj4)
    replace h156 := h156.ev E164 ne_zm
    replace hat152 := hat152.ev E164 mm
    as_aux_lemma =>
    replace E := E.trans E164 lc1
    refine ⟨fun _ => ER.sb, ?_⟩
    refine dm F ER.sb fun a F => ?_
    refine dq F (fun wq hS => r_extract F rfl rfl) ER.sb fun a F => ?_
    refine dq F (fun wq hS => r_extract F rfl rfl) ER.sb fun a F => ?_
    refine d_e ?_
    refine o_eff F rfl rfl rfl (by decide) (e_alloc F zv_34 c162 (m + 5)) ?_
    rintro v w175 a ⟨c174, qa176, rfl, E177, h178, B179⟩ F
    replace B := B179 _ B lm
    replace ER := ER.trans E177 nx
    replace h20 := h20.ev E177 nq
    replace h27 := h27.ev E177 nq
    replace h11 := h11.ev E177 nq nq
    replace h14 := h14.ev E177 nq nq
    replace h66 := h66.ev E177 nq nq
    replace h68 := h68.ev E177 nq
    replace hat64 := hat64.ev E177 nq
    replace h156 := h156.ev E177 nq
    replace hat152 := hat152.ev E177 nq
    replace h168 := h168.ev E177 nq nq
    replace h171 := h171.ev E177 nq nq
    replace h172 := h172.ev E177 nq nq
    as_aux_lemma =>
    replace E := E.trans E177 nx
    replace h178 : AT true (m + 5) c174 w175 qa176 [.bool false, .slice none 0 0, .slice none 0 0, .int .i64 0, .int .i64 0] := h178
    refine ⟨fun _ => ER.sb, ?_⟩
    refine d_e ?_
    refine o_eff0 F rfl rfl rfl (e_storeN0 (us := [.bool t160.1.Done, .slice A166 t160.1.Key.length C167, .slice A169 t160.1.Value.length C170, .int .i64 t160.1.Rev, .int .i64 t160.1.At]) F rfl rfl sz_34 h178 (nb rfl) (one_all rfl)) ?_
    rintro w181 a ⟨E182, h178, Z183⟩ F
    replace B := B.size Z183
    replace ER := ER.trans E182 (fun x q => by replace q : x = m + 5 := q; show x = m + 4 ∨ x = m + 5; omega)
    replace h20 := h20.ev E182 mm
    replace h27 := h27.ev E182 mm
    replace h11 := h11.ev E182 ne_zm ne_zm
    replace h14 := h14.ev E182 ne_zm ne_zm
    replace h66 := h66.ev E182 (ne_pm bj5.1) ne_zm
    replace h68 := h68.ev E182 ne_zm
    replace hat64 := hat64.ev E182 (ne_pm bj4)
    replace h156 := h156.ev E182 ne_zm
    replace hat152 := hat152.ev E182 mm
    replace h168 := h168.ev E182 ne_zm ne_zm
    replace h171 := h171.ev E182 ne_zm ne_zm
    replace h172 := h172.ev E182 mm ne_zm
    replace E := E.trans E182 lc1
    replace h178 : AT true (m + 5) c174 w181 qa176 [.bool t160.1.Done, .slice A166 t160.1.Key.length C167, .slice A169 t160.1.Value.length C170, .int .i64 t160.1.Rev, .int .i64 t160.1.At] := h178
    as_aux_lemma =>
    refine ⟨fun _ => ER.sb, ?_⟩
    refine da F ER.sb fun a F => ?_
    refine d_nil ?_
    exact J211 c174 w181 a ad151 qa176 t160 p153 cs155 ob148 A166 C167 A169 C170 (F.sub ⟨rfl, rfl, rfl, rfl, rfl, rfl, rfl, rfl, trivial⟩) E B hat64 h20 h27 hat152 h178 h66 h68 h11 h14 h156 h172 h168 h171 H
   obtain ⟨t160, q161, H⟩ := bind_some H
   refine o_eff F rfl rfl rfl (by decide) (e_alloc F zv_34 c140 (m + 5)) ?_
   rintro v w185 a ⟨c184, qa176, rfl, E186, h178, B187⟩ F
   replace B := B187 _ B lm
   replace ER := ER.trans E186 nx
   replace h20 := h20.ev E186 nq
   replace h27 := h27.ev E186 nq
   replace h11 := h11.ev E186 nq nq
   replace h14 := h14.ev E186 nq nq
   replace h66 := h66.ev E186 nq nq
   replace h68 := h68.ev E186 nq
   replace hat64 := hat64.ev E186 nq
   replace h154 := h154.ev E186 nq nq
   replace h156 := h156.ev E186 nq
   replace hat152 := hat152.ev E186 nq
   replace E := E.trans E186 nx
   replace h178 : AT true (m + 5) c184 w185 qa176 [.bool false, .slice none 0 0, .slice none 0 0, .int .i64 0, .int .i64 0] := h178
   refine ⟨fun _ => ER.sb, ?_⟩
   as_aux_lemma =>
   refine d_e ?_
   refine oc F Try.func12 (table_Table_Do.calls k (m := m + 6) (pl hm0) B h154 h11 h14 ⟨(pl hm0), lm⟩ _ q161) ?_
   rintro e w189 ⟨c188, A192, C193, A195, C196, rfl, E190, B191, h194, h197, h198⟩
   refine ⟨_, rfl, fun a F => ?_⟩
   have B := B191
   replace ER := ER.trans E190 (fun x q => by replace q : x = m + 4 := q; show x = m + 4 ∨ x = m + 5; omega)
   replace h20 := h20.ev E190 mm
   replace h27 := h27.ev E190 mm
   replace h11 := h11.ev E190 ne_zm ne_zm
   replace h14 := h14.ev E190 ne_zm ne_zm
   replace h66 := h66.ev E190 (ne_pm bj5.1) ne_zm
   replace h68 := h68.ev E190 ne_zm
   replace hat64 := hat64.ev E190 (ne_pm bj4)
   replace h156 := h156.ev E190 ne_zm
   replace hat152 := hat152.ev E190 mm
   replace h178 := h178.ev E190 mm
   replace E := E.trans E190 lc1
   refine ⟨fun _ => ER.sb, ?_⟩
   refine dm F ER.sb fun a F => ?_
   refine dq F (fun wq hS => r_extract F rfl rfl) ER.sb fun a F => ?_
   refine dq F (fun wq hS => r_extract F rfl rfl) ER.sb fun a F => ?_
   refine d_e ?_
   as_aux_lemma =>
   refine o_eff0 F rfl rfl rfl (e_storeN0 (us := [.bool t160.1.Done, .slice A192 t160.1.Key.length C193, .slice A195 t160.1.Value.length C196, .int .i64 t160.1.Rev, .int .i64 t160.1.At]) F rfl rfl sz_34 h178 (nb rfl) (one_all rfl)) ?_
   rintro w200 a ⟨E201, h178, Z202⟩ F
   replace B := B.size Z202
   replace ER := ER.trans E201 (fun x q => by replace q : x = m + 5 := q; show x = m + 4 ∨ x = m + 5; omega)
   replace h20 := h20.ev E201 mm
   replace h27 := h27.ev E201 mm
   replace h11 := h11.ev E201 ne_zm ne_zm
   replace h14 := h14.ev E201 ne_zm ne_zm
   replace h66 := h66.ev E201 (ne_pm bj5.1) ne_zm
   replace h68 := h68.ev E201 ne_zm
   replace hat64 := hat64.ev E201 (ne_pm bj4)
   replace h156 := h156.ev E201 ne_zm
   replace hat152 := hat152.ev E201 mm
   replace h194 := h194.ev E201 ne_zm ne_zm
   replace h197 := h197.ev E201 ne_zm ne_zm
   replace h198 := h198.ev E201 mm ne_zm
   replace E := E.trans E201 lc1
   replace h178 : AT true (m + 5) c188 w200 qa176 [.bool t160.1.Done, .slice A192 t160.1.Key.length C193, .slice A195 t160.1.Value.length C196, .int .i64 t160.1.Rev, .int .i64 t160.1.At] := h178
   refine ⟨fun _ => ER.sb, ?_⟩
   refine da F ER.sb fun a F => ?_
   refine d_nil ?_
   exact J211 c188 w200 a ad151 qa176 t160 p153 cs155 ob148 A192 C193 A195 C196 (F.sub ⟨rfl, rfl, rfl, rfl, rfl, rfl, rfl, rfl, trivial⟩) E B hat64 h20 h27 hat152 h178 h66 h68 h11 h14 h156 h198 h194 h197 H
  as_aux_lemma =>
  replace H := im hb58 H
  refine wp_cond_true (fb F (congrArg not (bfalse hb58))) ?_
  refine wp_seq_k fun K133 hK133 => reg ?_
  refine qv F (r_build (v := .agg #[.bool false, .slice none 0 0, .slice none 0 0, .int .i64 0, .int .i64 0]) F [] (by exact trivial) (fun w => by kernel_rfl)) fun a F => ?_
  refine qa F fun a F => ?_
  refine q_eff0 F rfl rfl (e_storeN0 (us := [.bool false, .slice none 0 0, .slice none 0 0, .int .i64 0, .int .i64 0]) F rfl rfl sz_34 h27 (nb rfl) (one_all rfl)) ?_
  rintro w134 a ⟨E135, h27, Z136⟩ F
  replace B := B.size Z136
  replace E := E.trans E135 lc1
  replace h27 : AT true (m + 2) c53 w134 qa25 [.bool false, .slice none 0 0, .slice none 0 0, .int .i64 0, .int .i64 0] := h27
  refine qa F fun a F => ?_
  refine qa F fun a F => ?_
  refine nil (hK133 _ _ ?_)
  replace F : Fr a 111 [(8, .pointer none), (9, .pointer (some qa25)), (10, .bool false), (11, .int .i64 131)] := F.sub ⟨rfl, rfl, rfl, rfl, trivial⟩
  refine wp_ret ?_
  refine inbR ?_
  refine thenR ?_
  replace H := si H
  subst H
  refine outR4 F rfl rfl ⟨_, rfl, lv_agg (cs := [.bool false, .slice none 0 0, .slice none 0 0, .int .i64 0, .int .i64 0]) ag_34 sz_34 h27⟩ rfl rfl ?_
  exact ⟨cf (fun x_ => if x_ = m + 3 then jr351 else if x_ = m + 4 then jr352 else if x_ < m then x_ else 0) c53, none, none, 0, none, 0, rfl, E.lv B0, cfb, alc_mk (SH.nil), SL.nil, SL.nil⟩
 refine reg ?_
 as_aux_lemma =>
 refine qm F fun a F => ?_
 refine qv F (r_lss F rfl rfl) fun a F => ?_
 refine qm F fun a F => ?_
 by_cases hb38 : a6 < 0
 ·replace H := ip hb38 H
  refine qn F (dt hb38) fun a F => ?_
  refine qn F (dt hb38) fun a F => ?_
  refine qv F (r_pick_t F rfl (dt hb38) rfl) fun a F => ?_
  refine qm F fun a F => ?_
  refine qn F rfl fun a F => ?_
  refine qn F rfl fun a F => ?_
  refine qv F (r_pick_t F rfl rfl rfl) fun a F => ?_
  refine qm F fun a F => ?_
  refine qn F rfl fun a F => ?_
  refine qn F rfl fun a F => ?_
  refine qv F (r_pick_t F rfl rfl rfl) fun a F => ?_
  refine qa F fun a F => ?_
  refine nil ?_
  exact J42 c23 w24 a true (F.sub ⟨rfl, rfl, rfl, rfl, rfl, rfl, trivial⟩) E B h20 h27 h3 h11 h14 H
 replace H := im hb38 H
 refine qy F (dz hb38) ?_
 refine qm F fun a F => ?_
 refine qy F (dz hb38) ?_
 as_aux_lemma =>
 refine qv F (r_geq F rfl rfl) fun a F => ?_
 refine qv F (r_pick_f F rfl (dz hb38) rfl) fun a F => ?_
 refine qm F fun a F => ?_
 by_cases hb39 : 16 ≤ a6
 ·replace H := ip hb39 H
  refine qn F (dt hb39) fun a F => ?_
  refine qn F (dt hb39) fun a F => ?_
  refine qv F (r_pick_t F rfl (dt hb39) rfl) fun a F => ?_
  refine qm F fun a F => ?_
  refine qn F rfl fun a F => ?_
  refine qn F rfl fun a F => ?_
  refine qv F (r_pick_t F rfl rfl rfl) fun a F => ?_
  refine qa F fun a F => ?_
  refine nil ?_
  exact J42 c23 w24 a true (F.sub ⟨rfl, rfl, rfl, rfl, rfl, rfl, trivial⟩) E B h20 h27 h3 h11 h14 H
 replace H := im hb39 H
 refine qy F (dz hb39) ?_
 refine qm F fun a F => ?_
 refine qy F (dz hb39) ?_
 refine qv F (r_lss F rfl rfl) fun a F => ?_
 refine qv F (r_pick_f F rfl (dz hb39) rfl) fun a F => ?_
 refine qm F fun a F => ?_
 by_cases hb40 : a7 < 1
 ·replace H := ip hb40 H
  as_aux_lemma =>
  refine qn F (dt hb40) fun a F => ?_
  refine qn F (dt hb40) fun a F => ?_
  refine qv F (r_pick_t F rfl (dt hb40) rfl) fun a F => ?_
  refine qa F fun a F => ?_
  refine nil ?_
  exact J42 c23 w24 a true (F.sub ⟨rfl, rfl, rfl, rfl, rfl, rfl, trivial⟩) E B h20 h27 h3 h11 h14 H
 replace H := im hb40 H
 refine qy F (dz hb40) ?_
 refine qm F fun a F => ?_
 refine qy F (dz hb40) ?_
 refine qv F (r_gtr F rfl rfl) fun a F => ?_
 refine qv F (r_pick_f F rfl (dz hb40) rfl) fun a F => ?_
 refine qa F fun a F => ?_
 refine nil ?_
 exact J42 c23 w24 a (decide (1073741824 < a7)) (F.sub ⟨rfl, rfl, rfl, rfl, rfl, rfl, trivial⟩) E B h20 h27 h3 h11 h14 H
theorem shard_Shard_Do.calls (k : Nat) {m : Nat} {c0 : Nat → Nat} {w0 : World} {j4 : Nat} {j5 : Nat} {p2 : Option Addr} {A9 : Option Addr} {C10 : Nat} {A12 : Option Addr} {C13 : Nat} {a1 : Option Sha} {a6 : Int} {a7 : Int} {a8 : api_Op} (hm0 : 0 < m) (B0 : CB m c0 w0) (h3 : SH j4 j5 c0 w0 p2 a1) (h11 : SL false (Kint .u8) 0 0 c0 w0 A9 C10 a8.Key) (h14 : SL false (Kint .u8) 0 0 c0 w0 A12 C13 a8.Value) (bj4 : 0 < j4 ∧ j4 < m) (bj5 : 0 < j5 ∧ j5 < m ∧ j5 ≠ j4) (r : api_Answer × Bool × Int × (Option Sha)) (H : shard_Shard_Do.f k a1 a6 a7 a8 = some r) : Calls Try.prog 10 #[.pointer p2, .int .i64 a6, .int .i64 a7, .agg #[.int .i64 a8.Kind, .slice A9 a8.Key.length C10, .slice A12 a8.Value.length C13, .int .i64 a8.Rev]] w0 (fun e w_ => ∃ (c_ : Nat → Nat) (A0_ : Option Addr) (C0_ : Nat) (A2_ : Option Addr) (C2_ : Nat), e = .returned (.tuple #[.agg #[.bool r.1.Done, .slice A0_ r.1.Key.length C0_, .slice A2_ r.1.Value.length C2_, .int .i64 r.1.Rev, .int .i64 r.1.At], .bool r.2.1, .int .i64 r.2.2.1]) ∧ Ev (fun x => (x = j4 ∨ x = j5)) c0 w0 c_ w_ ∧ CB m c_ w_ ∧ SL false (Kint .u8) 0 0 c_ w_ A0_ C0_ r.1.Key ∧ SL false (Kint .u8) 0 0 c_ w_ A2_ C2_ r.1.Value ∧ SH j4 j5 c_ w_ p2 r.2.2.2) := by
 unfold shard_Shard_Do.f at H
 have B := B0.mono (show m ≤ m + 6 by omega)
 have E : Ev (fun x => (x = j4 ∨ x = j5) ∨ m ≤ x) c0 w0 c0 w0 := Ev.refl
 refine enter (N := 35) (l := [.pointer p2, .int .i64 a6, .int .i64 a7, .agg #[.int .i64 a8.Kind, .slice A9 a8.Key.length C10, .slice A12 a8.Value.length C13, .int .i64 a8.Rev]]) Try.func10 rfl rfl (nb rfl) fun a F => ?_
 refine wp_seq_k fun K15 hK15 => reg ?_
 refine q_eff F rfl rfl (by decide) (e_box F (v := .agg #[.int .i64 a8.Kind, .slice A9 a8.Key.length C10, .slice A12 a8.Value.length C13, .int .i64 a8.Rev]) rfl c0 (m + 1)) ?_
 rintro v w17 a ⟨c16, qa18, rfl, E19, h20, B21⟩ F
 replace B := B21 _ B lm
 replace h3 := h3.ev E19 nq nq nq
 replace h11 := h11.ev E19 nq nq
 replace h14 := h14.ev E19 nq nq
 replace E := E.trans E19 nx
 replace h20 : AT true (m + 1) c16 w17 qa18 [.int .i64 a8.Kind, .slice A9 a8.Key.length C10, .slice A12 a8.Value.length C13, .int .i64 a8.Rev] := h20
 refine q_eff F rfl rfl (by decide) (e_alloc F zv_34 c16 (m + 2)) ?_
 rintro v w24 a ⟨c23, qa25, rfl, E26, h27, B28⟩ F
 replace B := B28 _ B lm
 replace h3 := h3.ev E26 nq nq nq
 replace h11 := h11.ev E26 nq nq
 replace h14 := h14.ev E26 nq nq
 replace h20 := h20.ev E26 nq
 replace E := E.trans E26 nx
 replace h27 : AT true (m + 2) c23 w24 qa25 [.bool false, .slice none 0 0, .slice none 0 0, .int .i64 0, .int .i64 0] := h27
 refine qa F fun a F => ?_
 refine qa F fun a F => ?_
 refine nil (hK15 _ _ ?_)
 refine wp_seq_k fun K30 hK30 => reg ?_
 refine qm F fun a F => ?_
 refine qm F fun a F => ?_
 refine qm F fun a F => ?_
 refine qv F (r_loads (cs := [.int .i64 a8.Kind, .slice A9 a8.Key.length C10, .slice A12 a8.Value.length C13, .int .i64 a8.Rev]) F rfl ag_30 sz_30 h20) fun a F => ?_
 obtain ⟨t31, q32, H⟩ := bind_some H
 refine qc F Try.func37 (shard_Shard_next.calls k (m := m + 6) (pl hm0) B h3 h11 h14 (Nat.lt_add_right _ bj4.2) ⟨(Nat.lt_add_right _ bj5.2.1), bj5.2.2⟩ (m + 3) lm (m + 4) lm _ q32) ?_
 rintro e w34 ⟨c33, p37, A39, C40, A42, C43, rfl, E35, B36, h38, h41, h44⟩
 refine ⟨_, rfl, fun a F => ?_⟩
 have B := B36
 replace h3 := h3.ev E35 nq nq nq
 replace h27 := h27.ev E35 nq
 replace E := E.trans E35 nx
 rcases hq46 : t31.1 with _ | o47
 ·replace H := (alc_none hq46).symm.trans H
  replace h38 := Eq.mp (alc_none hq46) h38
  replace h38 : p2 = p37 := Eq.symm h38
  subst h38
  refine qm F fun a F => ?_
  refine qv F (r_extract F rfl rfl) fun a F => ?_
  refine qv F (r_extract F rfl rfl) fun a F => ?_
  refine qv F (r_extract F rfl rfl) fun a F => ?_
  refine qv F (r_extract F rfl rfl) fun a F => ?_
  refine q_eff F rfl rfl (by decide) (e_alloc F zv_34 c33 (m + 5)) ?_
  rintro v w49 a ⟨c48, qa50, rfl, E51, h52, B53⟩ F
  replace B := B53 _ B lm
  replace h3 := h3.ev E51 nq nq nq
  replace h27 := h27.ev E51 nq
  replace h41 := h41.ev E51 nq nq
  replace h44 := h44.ev E51 nq nq
  replace E := E.trans E51 nx
  replace h52 : AT true (m + 5) c48 w49 qa50 [.bool false, .slice none 0 0, .slice none 0 0, .int .i64 0, .int .i64 0] := h52
  refine qa F fun a F => ?_
  refine q_eff0 F rfl rfl (e_storeN0 (us := [.bool t31.2.1.Done, .slice A39 t31.2.1.Key.length C40, .slice A42 t31.2.1.Value.length C43, .int .i64 t31.2.1.Rev, .int .i64 t31.2.1.At]) F rfl rfl sz_34 h52 (nb rfl) (one_all rfl)) ?_
  rintro w55 a ⟨E56, h52, Z57⟩ F
  replace B := B.size Z57
  replace h3 := h3.ev E56 (ne_pm bj4.2) (ne_pm bj5.2.1) ne_zm
  replace h27 := h27.ev E56 mm
  replace h41 := h41.ev E56 ne_zm ne_zm
  replace h44 := h44.ev E56 ne_zm ne_zm
  replace E := E.trans E56 lc1
  replace h52 : AT true (m + 5) c48 w55 qa50 [.bool t31.2.1.Done, .slice A39 t31.2.1.Key.length C40, .slice A42 t31.2.1.Value.length C43, .int .i64 t31.2.1.Rev, .int .i64 t31.2.1.At] := h52
  refine qa F fun a F => ?_
  refine qa F fun a F => ?_
  refine nil (hK30 _ _ ?_)
  replace F : Fr a 35 [(0, .pointer p2), (8, .pointer (some qa25)), (11, .pointer p2), (12, .pointer (some qa50)), (13, .bool t31.2.2.1), (14, .int .i64 t31.2.2.2)] := F.sub ⟨rfl, rfl, rfl, rfl, rfl, rfl, trivial⟩
  refine wp_seq_k fun K65 hK65 => ?_
  refine wp_seq_k fun K66 hK66 => reg ?_
  refine qm F fun a F => ?_
  refine qv F (r_eql F rfl rfl) fun a F => ?_
  refine nil (hK66 _ _ ?_)
  by_cases hb67 : t31.2.2.2 = 0
  ·replace H := ip hb67 H
   refine wp_cond_true (fb F (dt hb67)) ?_
   refine reg ?_
   refine qm F fun a F => ?_
   refine qm F fun a F => ?_
   obtain ⟨ob68, e69, H⟩ := bind_some H
   have z70 := h3
   rw [e69] at z70
   obtain ⟨ad71, p73, cs75, rfl, hat72, h74, h76⟩ := SH.some z70
   refine qv F (r_nil F rfl) fun a F => ?_
   refine qv F (r_loadsS (cs := (([.pointer p73] : List Value) ++ (cs75 ++ (([] : List Value))))) F rfl ag_76 sz_76 (by have l0_ : cs75.length = 112 := (h76.1 : cs75.length = 112); simp only [List.length_append, List.length_cons, List.length_nil] <;> omega) hat72) fun a F => ?_
   refine qv F (r_nil F rfl) fun a F => ?_
   refine q_eff0 F rfl rfl (e_storeNS (us := (([.pointer p73] : List Value) ++ (cs75 ++ (([] : List Value))))) F rfl rfl sz_76 (by have l0_ : cs75.length = 112 := (h76.1 : cs75.length = 112); simp only [List.length_append, List.length_cons, List.length_nil] <;> omega) hat72 (by have l0_ : cs75.length = 112 := (h76.1 : cs75.length = 112); have m0_ : cs75.length = 112 := (h76.1 : cs75.length = 112); simp only [List.length_append, List.length_cons, List.length_nil] <;> omega) (all_app (one_all (us := ([.pointer p73] : List Value)) rfl) (all_app (AR.one h76) (one_all (us := ([] : List Value)) rfl)))) ?_
   rintro w78 a ⟨E79, hat72, Z80⟩ F
   replace B := B.size Z80
   replace h27 := h27.ev E79 (ne_mp bj4.2)
   replace h41 := h41.ev E79 (ne_z bj4.1) (ne_z bj4.1)
   replace h44 := h44.ev E79 (ne_z bj4.1) (ne_z bj4.1)
   replace h52 := h52.ev E79 (ne_mp bj4.2)
   replace h74 := h74.ev E79 bj5.2.2 (ne_z bj4.1)
   replace h76 := h76.ev E79 (ne_z bj4.1)
   replace E := E.trans E79 (fun x (q : x = j4) => Or.inl (Or.inl q))
   replace hat72 : AT true j4 c48 w78 ad71 (([.pointer p73] : List Value) ++ (cs75 ++ (([] : List Value)))) := AT.eqv hat72 (lay_all (by have l0_ : cs75.length = 112 := (h76.1 : cs75.length = 112); have m0_ : cs75.length = 112 := (h76.1 : cs75.length = 112); simp only [List.length_append, List.length_cons, List.length_nil] <;> omega))
   refine nil (hK65 _ _ ?_)
   replace F : Fr a 35 [(8, .pointer (some qa25)), (12, .pointer (some qa50)), (13, .bool t31.2.2.1), (14, .int .i64 t31.2.2.2)] := F.sub ⟨rfl, rfl, rfl, rfl, trivial⟩
   refine wp_seq_k fun K81 hK81 => reg ?_
   refine qv F (r_loads (cs := [.bool t31.2.1.Done, .slice A39 t31.2.1.Key.length C40, .slice A42 t31.2.1.Value.length C43, .int .i64 t31.2.1.Rev, .int .i64 t31.2.1.At]) F rfl ag_34 sz_34 h52) fun a F => ?_
   refine qm F fun a F => ?_
   refine qm F fun a F => ?_
   refine q_eff0 F rfl rfl (e_storeN0 (us := [.bool t31.2.1.Done, .slice A39 t31.2.1.Key.length C40, .slice A42 t31.2.1.Value.length C43, .int .i64 t31.2.1.Rev, .int .i64 t31.2.1.At]) F rfl rfl sz_34 h27 (nb rfl) (one_all rfl)) ?_
   rintro w82 a ⟨E83, h27, Z84⟩ F
   replace B := B.size Z84
   replace h41 := h41.ev E83 ne_zm ne_zm
   replace h44 := h44.ev E83 ne_zm ne_zm
   replace h74 := h74.ev E83 (ne_pm bj5.2.1) ne_zm
   replace h76 := h76.ev E83 ne_zm
   replace hat72 := hat72.ev E83 (ne_pm bj4.2)
   replace E := E.trans E83 lc1
   replace h27 : AT true (m + 2) c48 w82 qa25 [.bool t31.2.1.Done, .slice A39 t31.2.1.Key.length C40, .slice A42 t31.2.1.Value.length C43, .int .i64 t31.2.1.Rev, .int .i64 t31.2.1.At] := h27
   refine qa F fun a F => ?_
   refine qa F fun a F => ?_
   refine nil (hK81 _ _ ?_)
   refine wp_ret ?_
   have h85 : SH j4 j5 c48 w82 (some ad71) (some (Sha.mk ob68.Table ob68.seats)) := SH.mk hat72 h74 h76
   replace H := si H
   subst H
   refine outR3 F rfl ⟨_, rfl, lv_agg (cs := [.bool t31.2.1.Done, .slice A39 t31.2.1.Key.length C40, .slice A42 t31.2.1.Value.length C43, .int .i64 t31.2.1.Rev, .int .i64 t31.2.1.At]) ag_34 sz_34 h27⟩ rfl rfl ?_
   exact ⟨cf (fun x_ => if x_ = m + 4 then j5 else if x_ < m then x_ else 0) c48, A39, C40, A42, C43, rfl, E.lv B0, cfb, SL.rc h41 cfk cfk, SL.rc h44 cfk cfk, SH.rc h85 cfk cfk cfk⟩
  replace H := im hb67 H
  refine wp_cond_false (fb F (dz hb67)) (wp_skip (hK65 _ _ ?_))
  refine wp_seq_k fun K86 hK86 => reg ?_
  refine qv F (r_loads (cs := [.bool t31.2.1.Done, .slice A39 t31.2.1.Key.length C40, .slice A42 t31.2.1.Value.length C43, .int .i64 t31.2.1.Rev, .int .i64 t31.2.1.At]) F rfl ag_34 sz_34 h52) fun a F => ?_
  refine qm F fun a F => ?_
  refine qm F fun a F => ?_
  refine q_eff0 F rfl rfl (e_storeN0 (us := [.bool t31.2.1.Done, .slice A39 t31.2.1.Key.length C40, .slice A42 t31.2.1.Value.length C43, .int .i64 t31.2.1.Rev, .int .i64 t31.2.1.At]) F rfl rfl sz_34 h27 (nb rfl) (one_all rfl)) ?_
  rintro w87 a ⟨E88, h27, Z89⟩ F
  replace B := B.size Z89
  replace h3 := h3.ev E88 (ne_pm bj4.2) (ne_pm bj5.2.1) ne_zm
  replace h41 := h41.ev E88 ne_zm ne_zm
  replace h44 := h44.ev E88 ne_zm ne_zm
  replace E := E.trans E88 lc1
  replace h27 : AT true (m + 2) c48 w87 qa25 [.bool t31.2.1.Done, .slice A39 t31.2.1.Key.length C40, .slice A42 t31.2.1.Value.length C43, .int .i64 t31.2.1.Rev, .int .i64 t31.2.1.At] := h27
  refine qa F fun a F => ?_
  refine qa F fun a F => ?_
  refine nil (hK86 _ _ ?_)
  replace F : Fr a 35 [(8, .pointer (some qa25)), (9, .bool t31.2.2.1), (10, .int .i64 t31.2.2.2)] := F.sub ⟨rfl, rfl, rfl, trivial⟩
  refine wp_ret ?_
  replace H := si H
  subst H
  refine outR3 F rfl ⟨_, rfl, lv_agg (cs := [.bool t31.2.1.Done, .slice A39 t31.2.1.Key.length C40, .slice A42 t31.2.1.Value.length C43, .int .i64 t31.2.1.Rev, .int .i64 t31.2.1.At]) ag_34 sz_34 h27⟩ rfl rfl ?_
  exact ⟨cf (fun x_ => if x_ = m + 4 then j5 else if x_ < m then x_ else 0) c48, A39, C40, A42, C43, rfl, E.lv B0, cfb, SL.rc h41 cfk cfk, SL.rc h44 cfk cfk, SH.rc h3 cfk cfk cfk⟩
 replace H := (alc_some hq46).symm.trans H
 replace h38 := Eq.mp (alc_some hq46) h38
 refine qm F fun a F => ?_
 refine qv F (r_extract F rfl rfl) fun a F => ?_
 refine qv F (r_extract F rfl rfl) fun a F => ?_
 refine qv F (r_extract F rfl rfl) fun a F => ?_
 refine qv F (r_extract F rfl rfl) fun a F => ?_
 refine q_eff F rfl rfl (by decide) (e_alloc F zv_34 c33 (m + 5)) ?_
 rintro v w59 a ⟨c58, qa50, rfl, E60, h52, B61⟩ F
 replace B := B61 _ B lm
 replace h3 := h3.ev E60 nq nq nq
 replace h27 := h27.ev E60 nq
 replace h41 := h41.ev E60 nq nq
 replace h44 := h44.ev E60 nq nq
 replace h38 := h38.ev E60 nq nq nq
 replace E := E.trans E60 nx
 replace h52 : AT true (m + 5) c58 w59 qa50 [.bool false, .slice none 0 0, .slice none 0 0, .int .i64 0, .int .i64 0] := h52
 refine qa F fun a F => ?_
 refine q_eff0 F rfl rfl (e_storeN0 (us := [.bool t31.2.1.Done, .slice A39 t31.2.1.Key.length C40, .slice A42 t31.2.1.Value.length C43, .int .i64 t31.2.1.Rev, .int .i64 t31.2.1.At]) F rfl rfl sz_34 h52 (nb rfl) (one_all rfl)) ?_
 rintro w62 a ⟨E63, h52, Z64⟩ F
 replace B := B.size Z64
 replace h3 := h3.ev E63 (ne_pm bj4.2) (ne_pm bj5.2.1) ne_zm
 replace h27 := h27.ev E63 mm
 replace h41 := h41.ev E63 ne_zm ne_zm
 replace h44 := h44.ev E63 ne_zm ne_zm
 replace h38 := h38.ev E63 mm mm ne_zm
 replace E := E.trans E63 lc1
 replace h52 : AT true (m + 5) c58 w62 qa50 [.bool t31.2.1.Done, .slice A39 t31.2.1.Key.length C40, .slice A42 t31.2.1.Value.length C43, .int .i64 t31.2.1.Rev, .int .i64 t31.2.1.At] := h52
 refine qa F fun a F => ?_
 refine qa F fun a F => ?_
 refine nil (hK30 _ _ ?_)
 replace F : Fr a 35 [(0, .pointer p2), (8, .pointer (some qa25)), (11, .pointer p37), (12, .pointer (some qa50)), (13, .bool t31.2.2.1), (14, .int .i64 t31.2.2.2)] := F.sub ⟨rfl, rfl, rfl, rfl, rfl, rfl, trivial⟩
 refine wp_seq_k fun K90 hK90 => ?_
 refine wp_seq_k fun K91 hK91 => reg ?_
 refine qm F fun a F => ?_
 refine qv F (r_eql F rfl rfl) fun a F => ?_
 refine nil (hK91 _ _ ?_)
 by_cases hb92 : t31.2.2.2 = 0
 ·replace H := ip hb92 H
  refine wp_cond_true (fb F (dt hb92)) ?_
  refine reg ?_
  refine qm F fun a F => ?_
  refine qm F fun a F => ?_
  obtain ⟨ob93, e94, H⟩ := bind_some H
  have z95 := h38
  rw [e94] at z95
  obtain ⟨ad96, p98, cs100, rfl, hat97, h99, h101⟩ := SH.some z95
  refine qv F (r_nil F rfl) fun a F => ?_
  refine qv F (r_loadsS (cs := (([.pointer p98] : List Value) ++ (cs100 ++ (([] : List Value))))) F rfl ag_76 sz_76 (by have l0_ : cs100.length = 112 := (h101.1 : cs100.length = 112); simp only [List.length_append, List.length_cons, List.length_nil] <;> omega) hat97) fun a F => ?_
  obtain ⟨ob103, e104, H⟩ := bind_some H
  have z105 := h3
  rw [e104] at z105
  obtain ⟨ad106, p108, cs110, rfl, hat107, h109, h111⟩ := SH.some z105
  refine qv F (r_nil F rfl) fun a F => ?_
  refine q_eff0 F rfl rfl (e_storeNS (us := (([.pointer p98] : List Value) ++ (cs100 ++ (([] : List Value))))) F rfl rfl sz_76 (by have l0_ : cs100.length = 112 := (h101.1 : cs100.length = 112); simp only [List.length_append, List.length_cons, List.length_nil] <;> omega) hat107 (by have l0_ : cs110.length = 112 := (h111.1 : cs110.length = 112); have m0_ : cs100.length = 112 := (h101.1 : cs100.length = 112); simp only [List.length_append, List.length_cons, List.length_nil] <;> omega) (all_app (one_all (us := ([.pointer p98] : List Value)) rfl) (all_app (AR.one h101) (one_all (us := ([] : List Value)) rfl)))) ?_
  rintro w113 a ⟨E114, hat107, Z115⟩ F
  replace B := B.size Z115
  replace h27 := h27.ev E114 (ne_mp bj4.2)
  replace h41 := h41.ev E114 (ne_z bj4.1) (ne_z bj4.1)
  replace h44 := h44.ev E114 (ne_z bj4.1) (ne_z bj4.1)
  replace h52 := h52.ev E114 (ne_mp bj4.2)
  replace h99 := h99.ev E114 (ne_mp bj4.2) (ne_z bj4.1)
  replace h101 := h101.ev E114 (ne_z bj4.1)
  replace h111 := h111.ev E114 (ne_z bj4.1)
  replace E := E.trans E114 (fun x (q : x = j4) => Or.inl (Or.inl q))
  replace hat107 : AT true j4 c58 w113 ad106 (([.pointer p98] : List Value) ++ (cs100 ++ (([] : List Value)))) := AT.eqv hat107 (lay_all (by have l0_ : cs110.length = 112 := (h111.1 : cs110.length = 112); have m0_ : cs100.length = 112 := (h101.1 : cs100.length = 112); simp only [List.length_append, List.length_cons, List.length_nil] <;> omega))
  refine nil (hK90 _ _ ?_)
  replace F : Fr a 35 [(8, .pointer (some qa25)), (12, .pointer (some qa50)), (13, .bool t31.2.2.1), (14, .int .i64 t31.2.2.2)] := F.sub ⟨rfl, rfl, rfl, rfl, trivial⟩
  refine wp_seq_k fun K116 hK116 => reg ?_
  refine qv F (r_loads (cs := [.bool t31.2.1.Done, .slice A39 t31.2.1.Key.length C40, .slice A42 t31.2.1.Value.length C43, .int .i64 t31.2.1.Rev, .int .i64 t31.2.1.At]) F rfl ag_34 sz_34 h52) fun a F => ?_
  refine qm F fun a F => ?_
  refine qm F fun a F => ?_
  refine q_eff0 F rfl rfl (e_storeN0 (us := [.bool t31.2.1.Done, .slice A39 t31.2.1.Key.length C40, .slice A42 t31.2.1.Value.length C43, .int .i64 t31.2.1.Rev, .int .i64 t31.2.1.At]) F rfl rfl sz_34 h27 (nb rfl) (one_all rfl)) ?_
  rintro w117 a ⟨E118, h27, Z119⟩ F
  replace B := B.size Z119
  replace h41 := h41.ev E118 ne_zm ne_zm
  replace h44 := h44.ev E118 ne_zm ne_zm
  replace h99 := h99.ev E118 mm ne_zm
  replace h101 := h101.ev E118 ne_zm
  replace hat107 := hat107.ev E118 (ne_pm bj4.2)
  replace E := E.trans E118 lc1
  replace h27 : AT true (m + 2) c58 w117 qa25 [.bool t31.2.1.Done, .slice A39 t31.2.1.Key.length C40, .slice A42 t31.2.1.Value.length C43, .int .i64 t31.2.1.Rev, .int .i64 t31.2.1.At] := h27
  refine qa F fun a F => ?_
  refine qa F fun a F => ?_
  refine nil (hK116 _ _ ?_)
  refine wp_ret ?_
  have h120 : SH j4 (m + 4) c58 w117 (some ad106) (some (Sha.mk ob93.Table ob93.seats)) := SH.mk hat107 h99 h101
  replace H := si H
  subst H
  refine outR3 F rfl ⟨_, rfl, lv_agg (cs := [.bool t31.2.1.Done, .slice A39 t31.2.1.Key.length C40, .slice A42 t31.2.1.Value.length C43, .int .i64 t31.2.1.Rev, .int .i64 t31.2.1.At]) ag_34 sz_34 h27⟩ rfl rfl ?_
  exact ⟨cf (fun x_ => if x_ = m + 4 then j5 else if x_ < m then x_ else 0) c58, A39, C40, A42, C43, rfl, E.lv B0, cfb, SL.rc h41 cfk cfk, SL.rc h44 cfk cfk, SH.rc h120 cfk cfk cfk⟩
 replace H := im hb92 H
 refine wp_cond_false (fb F (dz hb92)) (wp_skip (hK90 _ _ ?_))
 refine wp_seq_k fun K121 hK121 => reg ?_
 refine qv F (r_loads (cs := [.bool t31.2.1.Done, .slice A39 t31.2.1.Key.length C40, .slice A42 t31.2.1.Value.length C43, .int .i64 t31.2.1.Rev, .int .i64 t31.2.1.At]) F rfl ag_34 sz_34 h52) fun a F => ?_
 refine qm F fun a F => ?_
 refine qm F fun a F => ?_
 refine q_eff0 F rfl rfl (e_storeN0 (us := [.bool t31.2.1.Done, .slice A39 t31.2.1.Key.length C40, .slice A42 t31.2.1.Value.length C43, .int .i64 t31.2.1.Rev, .int .i64 t31.2.1.At]) F rfl rfl sz_34 h27 (nb rfl) (one_all rfl)) ?_
 rintro w122 a ⟨E123, h27, Z124⟩ F
 replace B := B.size Z124
 replace h3 := h3.ev E123 (ne_pm bj4.2) (ne_pm bj5.2.1) ne_zm
 replace h41 := h41.ev E123 ne_zm ne_zm
 replace h44 := h44.ev E123 ne_zm ne_zm
 replace E := E.trans E123 lc1
 replace h27 : AT true (m + 2) c58 w122 qa25 [.bool t31.2.1.Done, .slice A39 t31.2.1.Key.length C40, .slice A42 t31.2.1.Value.length C43, .int .i64 t31.2.1.Rev, .int .i64 t31.2.1.At] := h27
 refine qa F fun a F => ?_
 refine qa F fun a F => ?_
 refine nil (hK121 _ _ ?_)
 replace F : Fr a 35 [(8, .pointer (some qa25)), (9, .bool t31.2.2.1), (10, .int .i64 t31.2.2.2)] := F.sub ⟨rfl, rfl, rfl, trivial⟩
 refine wp_ret ?_
 replace H := si H
 subst H
 refine outR3 F rfl ⟨_, rfl, lv_agg (cs := [.bool t31.2.1.Done, .slice A39 t31.2.1.Key.length C40, .slice A42 t31.2.1.Value.length C43, .int .i64 t31.2.1.Rev, .int .i64 t31.2.1.At]) ag_34 sz_34 h27⟩ rfl rfl ?_
 exact ⟨cf (fun x_ => if x_ = m + 4 then j5 else if x_ < m then x_ else 0) c58, A39, C40, A42, C43, rfl, E.lv B0, cfb, SL.rc h41 cfk cfk, SL.rc h44 cfk cfk, SH.rc h3 cfk cfk cfk⟩
theorem tree_Tree_All.calls {m : Nat} {c0 : Nat → Nat} {w0 : World} {p2 : Option Addr} {a1 : Tr} (hm0 : 0 < m) (B0 : CB m c0 w0) (h3 : TR 0 c0 w0 p2 a1) (jr14 : Nat) (bjr14 : jr14 < m) (r : It) (H : tree_Tree_All.f a1 = some r) : Calls Try.prog 44 #[.pointer p2] w0 (fun e w_ => ∃ (c_ : Nat → Nat) (V0_ : Value), e = .returned (V0_) ∧ Ev (fun x => False) c0 w0 c_ w_ ∧ CB m c_ w_ ∧ ITR jr14 c_ w_ V0_ r) := by
 unfold tree_Tree_All.f at H
 have B := B0.mono (show m ≤ m + 2 by omega)
 have E : Ev (fun x => False ∨ m ≤ x) c0 w0 c0 w0 := Ev.refl
 refine enter (N := 4) (l := [.pointer p2]) Try.func44 rfl rfl (nb rfl) fun a F => ?_
 refine wp_seq_k fun K4 hK4 => reg ?_
 refine q_eff F rfl rfl (by decide) (e_box F (v := .pointer p2) rfl c0 (m + 1)) ?_
 rintro v w6 a ⟨c5, qa7, rfl, E8, h9, B10⟩ F
 replace B := B10 _ B lm
 replace h3 := h3.ev E8 nq nq
 replace E := E.trans E8 nx
 replace h9 : AT true (m + 1) c5 w6 qa7 [.pointer p2] := h9
 refine qa F fun a F => ?_
 refine nil (hK4 _ _ ?_)
 refine wp_seq_k fun K12 hK12 => reg ?_
 refine qv F (r_makeFunc (vs := [.pointer (some qa7)]) F rfl) fun a F => ?_
 refine qa F fun a F => ?_
 refine nil (hK12 _ _ ?_)
 refine wp_ret ?_
 have h13 : ITR (m + 1) c5 w6 (.func (.func 66) #[] #[.pointer (some qa7)]) (.all a1) := ⟨qa7, p2, rfl, h9, h3⟩
 replace H := si H
 subst H
 refine out1 F rfl rfl ?_
 exact ⟨cf (fun x_ => if x_ = m + 1 then jr14 else if x_ < m then x_ else 0) c5, (.func (.func 66) #[] #[.pointer (some qa7)]), rfl, E.lv B0, cfb, ITR.rc h13 cfk cfk⟩
theorem table_Table_Bytes.calls (k : Nat) {m : Nat} {c0 : Nat → Nat} {w0 : World} {j4 : Nat} {p2 : Option Addr} {a1 : Option Tab} (hm0 : 0 < m) (B0 : CB m c0 w0) (h3 : TB j4 c0 w0 p2 a1) (bj4 : j4 < m) (r : (List Int)) (H : table_Table_Bytes.f k a1 = some r) : Calls Try.prog 48 #[.pointer p2] w0 (fun e w_ => ∃ (c_ : Nat → Nat) (A0_ : Option Addr) (C0_ : Nat), e = .returned (.slice A0_ r.length C0_) ∧ Ev (fun x => False) c0 w0 c_ w_ ∧ CB m c_ w_ ∧ SL false (Kint .u8) 0 0 c_ w_ A0_ C0_ r) := by
 unfold table_Table_Bytes.f at H
 have B := B0.mono (show m ≤ m + 8 by omega)
 have E : Ev (fun x => False ∨ m ≤ x) c0 w0 c0 w0 := Ev.refl
 refine enterM (N := 54) (l := [.pointer p2]) Try.func48 rfl rfl (nb rfl) fun a F => ?_
 refine wp_seq_k fun K5 hK5 => reg ?_
 refine qa F fun a F => ?_
 refine nil (hK5 _ _ ?_)
 refine wp_seq_k fun K6 hK6 => ?_
 refine wp_seq_k fun K7 hK7 => reg ?_
 refine qm F fun a F => ?_
 refine qv F (r_peqlA F Try.underlying26 rfl rfl (TB.isNone h3)) fun a F => ?_
 refine nil (hK7 _ _ ?_)
 by_cases hb8 : (Option.isNone a1) = true
 ·replace H := ip hb8 H
  refine wp_cond_true (fb F hb8) ?_
  refine wp_seq_k fun K9 hK9 => reg ?_
  refine qa F fun a F => ?_
  refine nil (hK9 _ _ ?_)
  refine wp_ret ?_
  refine thenR ?_
  refine outM ?_
  refine endM0 F ?_
  replace H := si H
  subst H
  refine out1 F rfl rfl ?_
  exact ⟨cf (fun x_ => if x_ < m then x_ else 0) c0, none, 0, rfl, E.lv B0, cfb, SL.nil⟩
 replace H := im hb8 H
 refine wp_cond_false (fb F (bfalse hb8)) (wp_skip (hK6 _ _ ?_))
 refine wp_seq_k fun K10 hK10 => reg ?_
 refine qm F fun a F => ?_
 obtain ⟨t11, q12, H⟩ := bind_some H
 refine qc F Try.func57 (table_Table_Size.calls k (m := m + 8) (pl hm0) B h3 (Nat.lt_add_right _ bj4) _ q12) ?_
 rintro e w14 ⟨c13, rfl, E15, B16⟩
 refine ⟨_, rfl, fun a F => ?_⟩
 have B := B16
 replace h3 := h3.ev E15 nq nq
 replace E := E.trans E15 nx
 obtain ⟨t18, q19, H⟩ := bind_some H
 refine qc F Try.func46 (parcel_New.calls (m := m + 8) (pl hm0) B (m + 1) lm (m + 2) lm _ q19) ?_
 rintro e w21 ⟨c20, p24, rfl, E22, B23, h25⟩
 refine ⟨_, rfl, fun a F => ?_⟩
 have B := B23
 replace h3 := h3.ev E22 nq nq
 replace E := E.trans E22 nx
 refine q_eff F rfl rfl (by decide) (e_alloc F zv_97 c20 (m + 3)) ?_
 rintro v w28 a ⟨c27, qa29, rfl, E30, h31, B32⟩ F
 replace B := B32 _ B lm
 replace h3 := h3.ev E30 nq nq
 replace h25 := h25.ev E30 nq nq nq
 replace E := E.trans E30 nx
 replace h31 : AT true (m + 3) c27 w28 qa29 [.pointer none] := h31
 refine q_eff0 F rfl rfl (e_store0 F rfl rfl sz_97 h31 (nb rfl) rfl) ?_
 rintro w34 a ⟨E35, h31, Z36⟩ F
 replace B := B.size Z36
 replace h3 := h3.ev E35 (ne_pm bj4) ne_zm
 replace h25 := h25.ev E35 mm mm ne_zm
 replace E := E.trans E35 lc1
 replace h31 : AT true (m + 3) c27 w34 qa29 [.pointer p24] := h31
 refine nil (hK10 _ _ ?_)
 refine wp_seq_k fun K37 hK37 => ?_
 obtain ⟨ob38, e39, H⟩ := bind_some H
 have z40 := h3
 rw [e39] at z40
 obtain ⟨ad41, p43, rfl, hat42, h44⟩ := TB.some z40
 refine regD (SB No c27 w34) 6 (.q 0 (.e 1 (.e 2 (.e 3 (.e 4 (.q 5 (.e 6 .nil))))))) Try_hm (by decide +kernel) ?_
 intro w46 w1_ w2_ w3_ w4_
 have E47 : Ev No c27 w34 c27 w46 := Ev.same w1_ w2_ w3_ w4_
 replace B := B.same w1_
 have zh31 := h31
 have ER : Ev No c27 w34 c27 w46 := Ev.same w1_ w2_ w3_ w4_
 replace h25 := h25.ev E47 nq nq nq
 replace h31 := h31.ev E47 nq
 replace h44 := h44.ev E47 nq nq
 replace hat42 := hat42.ev E47 nq
 replace E := E.trans E47 nx
 refine dq F (fun wq hS => r_load F rfl ag_97 (AT.cell0 (AT.sb zh31 hS nq) rfl)) ER.sb fun a F => ?_
 refine d_e ?_
 refine o_val F rfl rfl rfl (by decide) (r_move F rfl) fun a F => ?_
 refine ⟨fun _ => ER.sb, ?_⟩
 refine d_e ?_
 refine o_val F rfl rfl rfl (by decide) (r_nil F rfl) fun a F => ?_
 refine ⟨fun _ => ER.sb, ?_⟩
 refine d_e ?_
 refine o_val F rfl rfl rfl (by decide) (r_fieldAddr F rfl ff_82_1) fun a F => ?_
 refine ⟨fun _ => ER.sb, ?_⟩
 refine d_e ?_
 refine o_val F rfl rfl rfl (by decide) (r_load F rfl ag_3 (AT.cell hat42 rfl)) fun a F => ?_
 refine ⟨fun _ => ER.sb, ?_⟩
 refine dq F (fun wq hS => r_convi F Try.underlying55 rfl rfl) ER.sb fun a F => ?_
 refine d_e ?_
 obtain ⟨t48, q49, H⟩ := bind_some H
 refine oc F Try.func54 (parcel_Writer_Num.calls k (m := m + 8) (pl hm0) B h25 ⟨(pl hm0), lm⟩ ⟨(pl hm0), lm, mm⟩ _ q49) ?_
 rintro e w51 ⟨c50, rfl, E52, B53, h54⟩
 refine ⟨_, rfl, fun a F => ?_⟩
 have B := B53
 replace h31 := h31.ev E52 (nor mm mm)
 replace h44 := h44.ev E52 (nor ne_zm ne_zm) (nor ne_zm ne_zm)
 replace hat42 := hat42.ev E52 (nor (ne_pm bj4) (ne_pm bj4))
 replace E := E.trans E52 lc2
 refine ⟨fun q => absurd rfl q, ?_⟩
 refine d_nil ?_
 refine hK37 _ _ ?_
 replace F : Fr a 54 [(0, .pointer (some ad41)), (3, .pointer (some qa29))] := F.sub ⟨rfl, rfl, trivial⟩
 refine wp_seq_k fun K56 hK56 => ?_
 refine regD (SB No c50 w51) 7 (.q 0 (.e 1 (.e 2 (.e 3 (.e 4 (.e 5 (.q 6 (.e 7 .nil)))))))) Try_hm (by decide +kernel) ?_
 intro w57 w1_ w2_ w3_ w4_
 have E58 : Ev No c50 w51 c50 w57 := Ev.same w1_ w2_ w3_ w4_
 replace B := B.same w1_
 have zh31 := h31
 have ER : Ev No c50 w51 c50 w57 := Ev.same w1_ w2_ w3_ w4_
 replace h31 := h31.ev E58 nq
 replace h44 := h44.ev E58 nq nq
 replace hat42 := hat42.ev E58 nq
 replace h54 := h54.ev E58 nq nq nq
 replace E := E.trans E58 nx
 refine dq F (fun wq hS => r_load F rfl ag_97 (AT.cell0 (AT.sb zh31 hS nq) rfl)) ER.sb fun a F => ?_
 refine d_e ?_
 refine o_val F rfl rfl rfl (by decide) (r_move F rfl) fun a F => ?_
 refine ⟨fun _ => ER.sb, ?_⟩
 refine d_e ?_
 refine o_val F rfl rfl rfl (by decide) (r_nil F rfl) fun a F => ?_
 refine ⟨fun _ => ER.sb, ?_⟩
 refine d_e ?_
 refine o_val F rfl rfl rfl (by decide) (r_fieldAddr F rfl ff_82_0) fun a F => ?_
 refine ⟨fun _ => ER.sb, ?_⟩
 refine d_e ?_
 refine o_val F rfl rfl rfl (by decide) (r_load F rfl ag_77 (AT.cell hat42 rfl)) fun a F => ?_
 refine ⟨fun _ => ER.sb, ?_⟩
 refine d_e ?_
 obtain ⟨t59, q60, H⟩ := bind_some H
 refine oc F Try.func45 (tree_Tree_Len.calls (m := m + 8) (pl hm0) B h44 _ q60) ?_
 rintro e w62 ⟨c61, rfl, E63, B64⟩
 refine ⟨_, rfl, fun a F => ?_⟩
 have B := B64
 replace ER := ER.trans E63 nx
 replace h31 := h31.ev E63 nq
 replace h44 := h44.ev E63 nq nq
 replace hat42 := hat42.ev E63 nq
 replace h54 := h54.ev E63 nq nq nq
 replace E := E.trans E63 nx
 refine ⟨fun _ => ER.sb, ?_⟩
 refine dq F (fun wq hS => r_convi F Try.underlying55 rfl rfl) ER.sb fun a F => ?_
 refine d_e ?_
 obtain ⟨t66, q67, H⟩ := bind_some H
 refine oc F Try.func54 (parcel_Writer_Num.calls k (m := m + 8) (pl hm0) B h54 ⟨(pl hm0), lm⟩ ⟨(pl hm0), lm, mm⟩ _ q67) ?_
 rintro e w69 ⟨c68, rfl, E70, B71, h72⟩
 refine ⟨_, rfl, fun a F => ?_⟩
 have B := B71
 replace h31 := h31.ev E70 (nor mm mm)
 replace h44 := h44.ev E70 (nor ne_zm ne_zm) (nor ne_zm ne_zm)
 replace hat42 := hat42.ev E70 (nor (ne_pm bj4) (ne_pm bj4))
 replace E := E.trans E70 lc2
 refine ⟨fun q => absurd rfl q, ?_⟩
 refine d_nil ?_
 refine hK56 _ _ ?_
 replace F : Fr a 54 [(0, .pointer (some ad41)), (3, .pointer (some qa29))] := F.sub ⟨rfl, rfl, trivial⟩
 refine wp_seq_k fun K74 hK74 => ?_
 refine wp_seq_k fun K75 hK75 => reg ?_
 refine qm F fun a F => ?_
 refine qv F (r_nil F rfl) fun a F => ?_
 refine qf F ff_82_0 fun a F => ?_
 refine qv F (r_load F rfl ag_77 (AT.cell hat42 rfl)) fun a F => ?_
 obtain ⟨t76, q77, H⟩ := bind_some H
 refine qc F Try.func44 (tree_Tree_All.calls (m := m + 8) (pl hm0) B h44 (m + 4) lm _ q77) ?_
 rintro e w79 ⟨c78, vi82, rfl, E80, B81, h83⟩
 refine ⟨_, rfl, fun a F => ?_⟩
 have B := B81
 replace h31 := h31.ev E80 nq
 replace h72 := h72.ev E80 nq nq nq
 replace E := E.trans E80 nx
 refine nil (hK75 _ _ ?_)
 refine wp_block ?_
 obtain ⟨x158, HL, HR159⟩ := bind_some H
 refine ITR.range h83 (m := m + 8) (y := m + 5) (z := m + 6) (M := fun x => False ∨ m ≤ x) (g := (fun (s_ : (Option Wri)) (k_ : ByteArray) (v_ : table_cell) => table_Table_Bytes.b1 k s_ k_ v_)) (fun (s_ : (Option Wri)) (c_ : Nat → Nat) (w_ : World) => Ev (fun x => False ∨ m ≤ x) c78 w79 c_ w_ ∧ ∃ (o150 : Option Wri), o150 = s_ ∧ AT true (m + 3) c_ w_ qa29 [.pointer p24] ∧ WR (m + 1) (m + 2) c_ w_ p24 o150) (fun (_ : Unit) _ _ => False) F rfl (by decide) (by decide) (by omega) (by omega) (by omega) (by omega) (by intro q; rcases q with q | q <;> first | exact q.elim | (replace q : False := q; omega) | (replace q : m ≤ 0 := q; omega)) B (fun _ _ _ h_ => h_.1) (fun _ _ _ h_ => h_.elim) (fun s_ c1_ w1_ c2_ w2_ ⟨E_, o150, e_, h31, h149⟩ E2_ => ⟨E_.trans E2_ (fun x q => by show False ∨ m ≤ x; replace q : x = m + 5 := q; omega), o150, e_, AT.ev h31 E2_ mm, WR.ev h149 E2_ mm mm ne_zm⟩) (fun _ _ _ _ _ h_ _ => h_.elim) t66 ⟨Ev.refl, t66, rfl, h31, h72⟩ x158 HL ?_ ?_ ?_
 ·intro bd153 lo154 rec155 s_ s161 v162 c151 w152 A163 C164 rr160 ⟨E, o150, e_, h31, h149⟩ B hb156 hl157 h165 Hg a F
  clear HL H
  subst e_
  have H : table_Table_Bytes.b1 k o150 s161 v162 = some rr160 := Hg
  clear Hg
  unfold table_Table_Bytes.b1 at H
  refine wpIn_seq_k fun K166 hK166 => ?_
  refine regR ?_
  refine qa F fun a F => ?_
  refine nil (hK166 _ _ ?_)
  refine regR ?_
  refine q_eff F rfl rfl (by decide) (e_alloc F zv_80 c151 (m + 7)) ?_
  rintro v w168 a ⟨c167, qa103, rfl, E169, h105, B170⟩ F
  replace B := B170 _ B lm
  replace h31 := h31.ev E169 nq
  replace h149 := h149.ev E169 nq nq nq
  replace h165 := h165.ev E169 nq nq
  replace hb156 := hb156.ev E169 nq
  replace hl157 := hl157.ev E169 nq
  replace E := E.trans E169 nx
  replace h105 : AT true (m + 7) c167 w168 qa103 [.slice none 0 0, .int .i64 0] := h105
  refine q_eff0 F rfl rfl (e_storeN0 (us := [.slice A163 v162.value.length C164, .int .i64 v162.rev]) F rfl rfl sz_80 h105 (nb rfl) (one_all rfl)) ?_
  rintro w171 a ⟨E172, h105, Z173⟩ F
  replace B := B.size Z173
  replace h31 := h31.ev E172 mm
  replace h149 := h149.ev E172 mm mm ne_zm
  replace h165 := h165.ev E172 ne_zm ne_zm
  replace hb156 := hb156.ev E172 mm
  replace hl157 := hl157.ev E172 mm
  replace E := E.trans E172 lc1
  replace h105 : AT true (m + 7) c167 w171 qa103 [.slice A163 v162.value.length C164, .int .i64 v162.rev] := h105
  refine nil ?_
  refine thenN ?_
  refine ⟨c167, hl157, fun w174 E175 hl157 Z176 => ?_⟩
  replace B := B.size Z176
  replace h31 := h31.ev E175 mm
  replace h149 := h149.ev E175 mm mm ne_zm
  replace h165 := h165.ev E175 ne_zm ne_zm
  replace hb156 := hb156.ev E175 mm
  replace h105 := h105.ev E175 mm
  replace E := E.trans E175 lc1
  refine wpIn_block ?_
  refine wpIn_seq_k fun K177 hK177 => ?_
  refine regR ?_
  refine qv F (r_load F rfl ag_97 (AT.cell0 h31 rfl)) fun a F => ?_
  refine qm F fun a F => ?_
  replace H := ifN H
  obtain ⟨g115, H⟩ := H
  refine q_eff F rfl rfl (by decide) (e_strBytes F Try.underlying9 Try.underlying28 Try.underlying5 rfl (by unfold maxLen; omega) c167 0 0) ?_
  rintro v w179 a ⟨c178, A180, C181, rfl, E182, h183, B184⟩ F
  replace B := B184 _ B (pl hm0)
  replace h31 := h31.ev E182 nq
  replace h149 := h149.ev E182 nq nq nq
  replace h165 := h165.ev E182 nq nq
  replace hb156 := hb156.ev E182 nq
  replace hl157 := hl157.ev E182 nq
  replace h105 := h105.ev E182 nq
  replace E := E.trans E182 nx
  obtain ⟨t123, q124, H⟩ := bind_some H
  refine qc F Try.func47 (parcel_Writer_Text.calls k (m := m + 8) (pl hm0) B h149 h183.r ⟨(pl hm0), lm⟩ ⟨(pl hm0), lm, mm⟩ _ q124) ?_
  rintro e w186 ⟨c185, rfl, E187, B188, h189⟩
  refine ⟨_, rfl, fun a F => ?_⟩
  have B := B188
  replace h31 := h31.ev E187 (nor mm mm)
  replace h165 := h165.ev E187 (nor ne_zm ne_zm) (nor ne_zm ne_zm)
  replace hb156 := hb156.ev E187 (nor mm mm)
  replace hl157 := hl157.ev E187 (nor mm mm)
  replace h105 := h105.ev E187 (nor mm mm)
  replace E := E.trans E187 lc2
  refine nil (hK177 _ _ ?_)
  refine wpIn_seq_k fun K191 hK191 => ?_
  refine regR ?_
  refine qv F (r_load F rfl ag_97 (AT.cell0 h31 rfl)) fun a F => ?_
  refine qf F ff_80_0 fun a F => ?_
  refine qv F (r_load F rfl ag_28 (AT.cell h105 rfl)) fun a F => ?_
  obtain ⟨t132, q133, H⟩ := bind_some H
  refine qc F Try.func47 (parcel_Writer_Text.calls k (m := m + 8) (pl hm0) B h189 h165 ⟨(pl hm0), lm⟩ ⟨(pl hm0), lm, mm⟩ _ q133) ?_
  rintro e w193 ⟨c192, rfl, E194, B195, h196⟩
  refine ⟨_, rfl, fun a F => ?_⟩
  have B := B195
  replace h31 := h31.ev E194 (nor mm mm)
  replace hb156 := hb156.ev E194 (nor mm mm)
  replace hl157 := hl157.ev E194 (nor mm mm)
  replace h105 := h105.ev E194 (nor mm mm)
  replace E := E.trans E194 lc2
  refine nil (hK191 _ _ ?_)
  replace F : Fr a 54 [(3, .pointer (some qa29)), (5, .pointer (some qa103))] := F.sub ⟨rfl, rfl, trivial⟩
  refine regR ?_
  refine qv F (r_load F rfl ag_97 (AT.cell0 h31 rfl)) fun a F => ?_
  refine qf F ff_80_1 fun a F => ?_
  refine qv F (r_load F rfl ag_3 (AT.cell h105 rfl)) fun a F => ?_
  refine qv F (r_convi F Try.underlying55 rfl rfl) fun a F => ?_
  obtain ⟨t140, q141, H⟩ := bind_some H
  refine qc F Try.func54 (parcel_Writer_Num.calls k (m := m + 8) (pl hm0) B h196 ⟨(pl hm0), lm⟩ ⟨(pl hm0), lm, mm⟩ _ q141) ?_
  rintro e w199 ⟨c198, rfl, E200, B201, h202⟩
  refine ⟨_, rfl, fun a F => ?_⟩
  have B := B201
  replace h31 := h31.ev E200 (nor mm mm)
  replace hb156 := hb156.ev E200 (nor mm mm)
  replace hl157 := hl157.ev E200 (nor mm mm)
  replace E := E.trans E200 lc2
  refine nil ?_
  have hr_ := si H
  subst hr_
  first | refine REn c198 hl157 ?_ | refine inbN (REn c198 hl157 ?_) | refine inbN (inbN (REn c198 hl157 ?_))
  exact ⟨⟨E, t140, rfl, h31, h202⟩, B, hb156⟩
 ·intro s_ hx211 c207 w208 bd209 ⟨E212, o150, e_, h31, h149⟩ B hb210 a F
  subst e_
  rw [hx211] at HR159
  have H : table_Table_Bytes.j2 o150 = some r := HR159
  unfold table_Table_Bytes.j2 at H
  replace E := E.trans E212 (fun _ q => q)
  refine hK74 _ _ ?_
  refine wp_seq_k fun K213 hK213 => reg ?_
  refine qv F (r_load F rfl ag_97 (AT.cell0 h31 rfl)) fun a F => ?_
  obtain ⟨t214, q215, H⟩ := bind_some H
  refine qc F Try.func50 (parcel_Writer_Done.calls (m := m + 8) (pl hm0) B h149 lm ⟨lm, mm⟩ 0 (pl hm0) _ q215) ?_
  rintro e w217 ⟨c216, A220, C221, rfl, E218, B219, h222⟩
  refine ⟨_, rfl, fun a F => ?_⟩
  have B := B219
  replace hb210 := hb210.ev E218 nq
  replace E := E.trans E218 nx
  refine qm F fun a F => ?_
  refine qv F (r_extract F rfl rfl) fun a F => ?_
  refine qv F (r_extract F rfl rfl) fun a F => ?_
  refine qa F fun a F => ?_
  refine qa F fun a F => ?_
  refine nil (hK213 _ _ ?_)
  refine wp_seq_k fun K224 hK224 => reg ?_
  refine qm F fun a F => ?_
  refine qa F fun a F => ?_
  refine nil (hK224 _ _ ?_)
  replace F : Fr a 54 [(2, .slice A220 t214.1.length C221)] ({ target := .collected bd209, args := #[] } :: []) := F.sub ⟨rfl, trivial⟩
  refine wp_ret ?_
  refine outM ?_
  refine endM F hb210 fun w225 E226 Z227 a F => ?_
  replace B := B.size Z227
  replace h222 := h222.ev E226 ne_zm ne_zm
  replace E := E.trans E226 lc1
  refine endM0 F ?_
  replace H := si H
  subst H
  refine out1 F rfl rfl ?_
  exact ⟨cf (fun x_ => if x_ < m then x_ else 0) c216, A220, C221, rfl, E.lv B0, cfb, SL.rc h222.r cfk cfk⟩
 intro s_ hx_ c_ w_ bd_ h_
 exact h_.elim
theorem shard_Shard_Export.calls (k : Nat) {m : Nat} {c0 : Nat → Nat} {w0 : World} {j4 : Nat} {j5 : Nat} {p2 : Option Addr} {a1 : Option Sha} (hm0 : 0 < m) (B0 : CB m c0 w0) (h3 : SH j4 j5 c0 w0 p2 a1) (bj4 : j4 < m) (bj5 : j5 < m ∧ j5 ≠ j4) (r : (List Int)) (H : shard_Shard_Export.f k a1 = some r) : Calls Try.prog 21 #[.pointer p2] w0 (fun e w_ => ∃ (c_ : Nat → Nat) (A0_ : Option Addr) (C0_ : Nat), e = .returned (.slice A0_ r.length C0_) ∧ Ev (fun x => False) c0 w0 c_ w_ ∧ CB m c_ w_ ∧ SL false (Kint .u8) 0 0 c_ w_ A0_ C0_ r) := by
 unfold shard_Shard_Export.f at H
 have B := B0.mono (show m ≤ m + 3 by omega)
 have E : Ev (fun x => False ∨ m ≤ x) c0 w0 c0 w0 := Ev.refl
 refine enter (N := 27) (l := [.pointer p2]) Try.func21 rfl rfl (nb rfl) fun a F => ?_
 refine wp_seq_k fun K6 hK6 => reg ?_
 refine qa F fun a F => ?_
 refine nil (hK6 _ _ ?_)
 refine wp_seq_k fun K7 hK7 => ?_
 refine wp_seq_k fun K8 hK8 => reg ?_
 refine qm F fun a F => ?_
 refine qv F (r_peqlA F Try.underlying24 rfl rfl (SH.isNone h3)) fun a F => ?_
 refine nil (hK8 _ _ ?_)
 by_cases hb9 : (Option.isNone a1) = true
 ·replace H := ip hb9 H
  refine wp_cond_true (fb F hb9) ?_
  refine wp_seq_k fun K10 hK10 => reg ?_
  refine qa F fun a F => ?_
  refine nil (hK10 _ _ ?_)
  refine wp_ret ?_
  refine thenR ?_
  replace H := si H
  subst H
  refine out1 F rfl rfl ?_
  exact ⟨cf (fun x_ => if x_ < m then x_ else 0) c0, none, 0, rfl, E.lv B0, cfb, SL.nil⟩
 replace H := im hb9 H
 refine wp_cond_false (fb F (bfalse hb9)) (wp_skip (hK7 _ _ ?_))
 refine wp_seq_k fun K11 hK11 => reg ?_
 obtain ⟨t12, q13, H⟩ := bind_some H
 refine qc F Try.func46 (parcel_New.calls (m := m + 3) (pl hm0) B (m + 1) lm (m + 2) lm _ q13) ?_
 rintro e w15 ⟨c14, p18, rfl, E16, B17, h19⟩
 refine ⟨_, rfl, fun a F => ?_⟩
 have B := B17
 replace h3 := h3.ev E16 nq nq nq
 replace E := E.trans E16 nx
 refine qa F fun a F => ?_
 refine nil (hK11 _ _ ?_)
 refine wp_seq_k fun K21 hK21 => reg ?_
 refine qm F fun a F => ?_
 refine qm F fun a F => ?_
 obtain ⟨ob22, e23, H⟩ := bind_some H
 have z24 := h3
 rw [e23] at z24
 obtain ⟨ad25, p27, cs29, rfl, hat26, h28, h30⟩ := SH.some z24
 refine qv F (r_nil F rfl) fun a F => ?_
 refine qf F ff_76_0 fun a F => ?_
 refine qv F (r_load F rfl ag_26 (AT.cell hat26 rfl)) fun a F => ?_
 obtain ⟨t32, q33, H⟩ := bind_some H
 refine qc F Try.func48 (table_Table_Bytes.calls k (m := m + 3) (pl hm0) B h28 (Nat.lt_add_right _ bj5.1) _ q33) ?_
 rintro e w35 ⟨c34, A38, C39, rfl, E36, B37, h40⟩
 refine ⟨_, rfl, fun a F => ?_⟩
 have B := B37
 replace h19 := h19.ev E36 nq nq nq
 replace h30 := h30.ev E36 nq
 replace hat26 := hat26.ev E36 nq
 replace E := E.trans E36 nx
 obtain ⟨t42, q43, H⟩ := bind_some H
 refine qc F Try.func47 (parcel_Writer_Text.calls k (m := m + 3) (pl hm0) B h19 h40 ⟨(pl hm0), lm⟩ ⟨(pl hm0), lm, mm⟩ _ q43) ?_
 rintro e w45 ⟨c44, rfl, E46, B47, h48⟩
 refine ⟨_, rfl, fun a F => ?_⟩
 have B := B47
 replace h30 := h30.ev E46 (nor ne_zm ne_zm)
 replace hat26 := hat26.ev E46 (nor (ne_pm bj4) (ne_pm bj4))
 replace E := E.trans E46 lc2
 refine nil (hK21 _ _ ?_)
 replace F : Fr a 27 [(0, .pointer (some ad25)), (3, .pointer p18)] := F.sub ⟨rfl, rfl, trivial⟩
 refine wp_seq_k fun K50 hK50 => reg ?_
 refine qm F fun a F => ?_
 refine qv F (r_nil F rfl) fun a F => ?_
 refine qf F ff_76_1 fun a F => ?_
 refine qm F fun a F => ?_
 have h51 : SE j4 c44 w45 (some (ad25.add 1)) ob22.seats := SE.mk (AT.seg hat26 rfl (h30.1 : cs29.length = 112)) h30
 obtain ⟨t52, q53, H⟩ := bind_some H
 refine qc F Try.func49 (shard_seats_lay.calls k (m := m + 3) (pl hm0) B h51 h48 ⟨(Nat.lt_add_right _ bj4), (ne_pm bj4), (ne_pm bj4)⟩ ⟨(pl hm0), lm⟩ ⟨(pl hm0), lm, mm⟩ _ q53) ?_
 rintro e w55 ⟨c54, rfl, E56, B57, h58⟩
 refine ⟨_, rfl, fun a F => ?_⟩
 have B := B57
 replace E := E.trans E56 lc2
 refine nil (hK50 _ _ ?_)
 refine wp_seq_k fun K60 hK60 => reg ?_
 refine qm F fun a F => ?_
 obtain ⟨t61, q62, H⟩ := bind_some H
 refine qc F Try.func50 (parcel_Writer_Done.calls (m := m + 3) (pl hm0) B h58 lm ⟨lm, mm⟩ 0 (pl hm0) _ q62) ?_
 rintro e w64 ⟨c63, A67, C68, rfl, E65, B66, h69⟩
 refine ⟨_, rfl, fun a F => ?_⟩
 have B := B66
 replace E := E.trans E65 nx
 refine qm F fun a F => ?_
 refine qv F (r_extract F rfl rfl) fun a F => ?_
 refine qv F (r_extract F rfl rfl) fun a F => ?_
 refine qa F fun a F => ?_
 refine qa F fun a F => ?_
 refine nil (hK60 _ _ ?_)
 replace F : Fr a 27 [(4, .slice A67 t61.1.length C68)] := F.sub ⟨rfl, trivial⟩
 refine wp_seq_k fun K71 hK71 => reg ?_
 refine qm F fun a F => ?_
 refine qa F fun a F => ?_
 refine nil (hK71 _ _ ?_)
 refine wp_ret ?_
 replace H := si H
 subst H
 refine out1 F rfl rfl ?_
 exact ⟨cf (fun x_ => if x_ < m then x_ else 0) c63, A67, C68, rfl, E.lv B0, cfb, SL.rc h69.r cfk cfk⟩
theorem table_Table_Len.calls {m : Nat} {c0 : Nat → Nat} {w0 : World} {j4 : Nat} {p2 : Option Addr} {a1 : Option Tab} (hm0 : 0 < m) (B0 : CB m c0 w0) (h3 : TB j4 c0 w0 p2 a1) (bj4 : j4 < m) (r : Int) (H : table_Table_Len.f a1 = some r) : Calls Try.prog 20 #[.pointer p2] w0 (fun e w_ => ∃ (c_ : Nat → Nat), e = .returned (.int .i64 r) ∧ Ev (fun x => False) c0 w0 c_ w_ ∧ CB m c_ w_) := by
 unfold table_Table_Len.f at H
 have B := B0.mono (show m ≤ m + 1 by omega)
 have E : Ev (fun x => False ∨ m ≤ x) c0 w0 c0 w0 := Ev.refl
 refine enter (N := 10) (l := [.pointer p2]) Try.func20 rfl rfl (nb rfl) fun a F => ?_
 refine wp_seq_k fun K5 hK5 => reg ?_
 refine qa F fun a F => ?_
 refine nil (hK5 _ _ ?_)
 refine wp_seq_k fun K6 hK6 => ?_
 refine wp_seq_k fun K7 hK7 => reg ?_
 refine qm F fun a F => ?_
 refine qv F (r_peqlA F Try.underlying26 rfl rfl (TB.isNone h3)) fun a F => ?_
 refine nil (hK7 _ _ ?_)
 by_cases hb8 : (Option.isNone a1) = true
 ·replace H := ip hb8 H
  refine wp_cond_true (fb F hb8) ?_
  refine wp_seq_k fun K9 hK9 => reg ?_
  refine qa F fun a F => ?_
  refine nil (hK9 _ _ ?_)
  refine wp_ret ?_
  refine thenR ?_
  replace H := si H
  subst H
  refine out1 F rfl rfl ?_
  exact ⟨cf (fun x_ => if x_ < m then x_ else 0) c0, rfl, E.lv B0, cfb⟩
 replace H := im hb8 H
 refine wp_cond_false (fb F (bfalse hb8)) (wp_skip (hK6 _ _ ?_))
 refine wp_seq_k fun K10 hK10 => reg ?_
 refine qm F fun a F => ?_
 obtain ⟨ob11, e12, H⟩ := bind_some H
 have z13 := h3
 rw [e12] at z13
 obtain ⟨ad14, p16, rfl, hat15, h17⟩ := TB.some z13
 refine qv F (r_nil F rfl) fun a F => ?_
 refine qf F ff_82_0 fun a F => ?_
 refine qv F (r_load F rfl ag_77 (AT.cell hat15 rfl)) fun a F => ?_
 obtain ⟨t19, q20, H⟩ := bind_some H
 refine qc F Try.func45 (tree_Tree_Len.calls (m := m + 1) (pl hm0) B h17 _ q20) ?_
 rintro e w22 ⟨c21, rfl, E23, B24⟩
 refine ⟨_, rfl, fun a F => ?_⟩
 have B := B24
 replace E := E.trans E23 nx
 refine qa F fun a F => ?_
 refine nil (hK10 _ _ ?_)
 replace F : Fr a 10 [(2, .int .i64 t19)] := F.sub ⟨rfl, trivial⟩
 refine wp_ret ?_
 replace H := si H
 subst H
 refine out1 F rfl rfl ?_
 exact ⟨cf (fun x_ => if x_ < m then x_ else 0) c21, rfl, E.lv B0, cfb⟩
theorem shard_Shard_Len.calls {m : Nat} {c0 : Nat → Nat} {w0 : World} {j4 : Nat} {j5 : Nat} {p2 : Option Addr} {a1 : Option Sha} (hm0 : 0 < m) (B0 : CB m c0 w0) (h3 : SH j4 j5 c0 w0 p2 a1) (bj4 : j4 < m) (bj5 : j5 < m ∧ j5 ≠ j4) (r : Int) (H : shard_Shard_Len.f a1 = some r) : Calls Try.prog 19 #[.pointer p2] w0 (fun e w_ => ∃ (c_ : Nat → Nat), e = .returned (.int .i64 r) ∧ Ev (fun x => False) c0 w0 c_ w_ ∧ CB m c_ w_) := by
 unfold shard_Shard_Len.f at H
 have B := B0.mono (show m ≤ m + 1 by omega)
 have E : Ev (fun x => False ∨ m ≤ x) c0 w0 c0 w0 := Ev.refl
 refine enter (N := 10) (l := [.pointer p2]) Try.func19 rfl rfl (nb rfl) fun a F => ?_
 refine wp_seq_k fun K6 hK6 => reg ?_
 refine qa F fun a F => ?_
 refine nil (hK6 _ _ ?_)
 refine wp_seq_k fun K7 hK7 => ?_
 refine wp_seq_k fun K8 hK8 => reg ?_
 refine qm F fun a F => ?_
 refine qv F (r_peqlA F Try.underlying24 rfl rfl (SH.isNone h3)) fun a F => ?_
 refine nil (hK8 _ _ ?_)
 by_cases hb9 : (Option.isNone a1) = true
 ·replace H := ip hb9 H
  refine wp_cond_true (fb F hb9) ?_
  refine wp_seq_k fun K10 hK10 => reg ?_
  refine qa F fun a F => ?_
  refine nil (hK10 _ _ ?_)
  refine wp_ret ?_
  refine thenR ?_
  replace H := si H
  subst H
  refine out1 F rfl rfl ?_
  exact ⟨cf (fun x_ => if x_ < m then x_ else 0) c0, rfl, E.lv B0, cfb⟩
 replace H := im hb9 H
 refine wp_cond_false (fb F (bfalse hb9)) (wp_skip (hK7 _ _ ?_))
 refine wp_seq_k fun K11 hK11 => reg ?_
 refine qm F fun a F => ?_
 obtain ⟨ob12, e13, H⟩ := bind_some H
 have z14 := h3
 rw [e13] at z14
 obtain ⟨ad15, p17, cs19, rfl, hat16, h18, h20⟩ := SH.some z14
 refine qv F (r_nil F rfl) fun a F => ?_
 refine qf F ff_76_0 fun a F => ?_
 refine qv F (r_load F rfl ag_26 (AT.cell hat16 rfl)) fun a F => ?_
 obtain ⟨t22, q23, H⟩ := bind_some H
 refine qc F Try.func20 (table_Table_Len.calls (m := m + 1) (pl hm0) B h18 (Nat.lt_add_right _ bj5.1) _ q23) ?_
 rintro e w25 ⟨c24, rfl, E26, B27⟩
 refine ⟨_, rfl, fun a F => ?_⟩
 have B := B27
 replace E := E.trans E26 nx
 refine qa F fun a F => ?_
 refine nil (hK11 _ _ ?_)
 replace F : Fr a 10 [(2, .int .i64 t22)] := F.sub ⟨rfl, trivial⟩
 refine wp_ret ?_
 replace H := si H
 subst H
 refine out1 F rfl rfl ?_
 exact ⟨cf (fun x_ => if x_ < m then x_ else 0) c24, rfl, E.lv B0, cfb⟩
theorem table_Table_Rev.calls {m : Nat} {c0 : Nat → Nat} {w0 : World} {j4 : Nat} {p2 : Option Addr} {a1 : Option Tab} (hm0 : 0 < m) (B0 : CB m c0 w0) (h3 : TB j4 c0 w0 p2 a1) (bj4 : j4 < m) (r : Int) (H : table_Table_Rev.f a1 = some r) : Calls Try.prog 18 #[.pointer p2] w0 (fun e w_ => ∃ (c_ : Nat → Nat), e = .returned (.int .i64 r) ∧ Ev (fun x => False) c0 w0 c_ w_ ∧ CB m c_ w_) := by
 unfold table_Table_Rev.f at H
 have B := B0.mono (show m ≤ m + 1 by omega)
 have E : Ev (fun x => False ∨ m ≤ x) c0 w0 c0 w0 := Ev.refl
 refine enter (N := 9) (l := [.pointer p2]) Try.func18 rfl rfl (nb rfl) fun a F => ?_
 refine wp_seq_k fun K5 hK5 => reg ?_
 refine qa F fun a F => ?_
 refine nil (hK5 _ _ ?_)
 refine wp_seq_k fun K6 hK6 => ?_
 refine wp_seq_k fun K7 hK7 => reg ?_
 refine qm F fun a F => ?_
 refine qv F (r_peqlA F Try.underlying26 rfl rfl (TB.isNone h3)) fun a F => ?_
 refine nil (hK7 _ _ ?_)
 by_cases hb8 : (Option.isNone a1) = true
 ·replace H := ip hb8 H
  refine wp_cond_true (fb F hb8) ?_
  refine wp_seq_k fun K9 hK9 => reg ?_
  refine qa F fun a F => ?_
  refine nil (hK9 _ _ ?_)
  refine wp_ret ?_
  refine thenR ?_
  replace H := si H
  subst H
  refine out1 F rfl rfl ?_
  exact ⟨cf (fun x_ => if x_ < m then x_ else 0) c0, rfl, E.lv B0, cfb⟩
 replace H := im hb8 H
 refine wp_cond_false (fb F (bfalse hb8)) (wp_skip (hK6 _ _ ?_))
 refine wp_seq_k fun K10 hK10 => reg ?_
 refine qm F fun a F => ?_
 obtain ⟨ob11, e12, H⟩ := bind_some H
 have z13 := h3
 rw [e12] at z13
 obtain ⟨ad14, p16, rfl, hat15, h17⟩ := TB.some z13
 refine qv F (r_nil F rfl) fun a F => ?_
 refine qf F ff_82_1 fun a F => ?_
 refine qv F (r_load F rfl ag_3 (AT.cell hat15 rfl)) fun a F => ?_
 refine qa F fun a F => ?_
 refine nil (hK10 _ _ ?_)
 refine wp_ret ?_
 replace H := si H
 subst H
 refine out1 F rfl rfl ?_
 exact ⟨cf (fun x_ => if x_ < m then x_ else 0) c0, rfl, E.lv B0, cfb⟩
theorem shard_Shard_Rev.calls {m : Nat} {c0 : Nat → Nat} {w0 : World} {j4 : Nat} {j5 : Nat} {p2 : Option Addr} {a1 : Option Sha} (hm0 : 0 < m) (B0 : CB m c0 w0) (h3 : SH j4 j5 c0 w0 p2 a1) (bj4 : j4 < m) (bj5 : j5 < m ∧ j5 ≠ j4) (r : Int) (H : shard_Shard_Rev.f a1 = some r) : Calls Try.prog 17 #[.pointer p2] w0 (fun e w_ => ∃ (c_ : Nat → Nat), e = .returned (.int .i64 r) ∧ Ev (fun x => False) c0 w0 c_ w_ ∧ CB m c_ w_) := by
 unfold shard_Shard_Rev.f at H
 have B := B0.mono (show m ≤ m + 1 by omega)
 have E : Ev (fun x => False ∨ m ≤ x) c0 w0 c0 w0 := Ev.refl
 refine enter (N := 10) (l := [.pointer p2]) Try.func17 rfl rfl (nb rfl) fun a F => ?_
 refine wp_seq_k fun K6 hK6 => reg ?_
 refine qa F fun a F => ?_
 refine nil (hK6 _ _ ?_)
 refine wp_seq_k fun K7 hK7 => ?_
 refine wp_seq_k fun K8 hK8 => reg ?_
 refine qm F fun a F => ?_
 refine qv F (r_peqlA F Try.underlying24 rfl rfl (SH.isNone h3)) fun a F => ?_
 refine nil (hK8 _ _ ?_)
 by_cases hb9 : (Option.isNone a1) = true
 ·replace H := ip hb9 H
  refine wp_cond_true (fb F hb9) ?_
  refine wp_seq_k fun K10 hK10 => reg ?_
  refine qa F fun a F => ?_
  refine nil (hK10 _ _ ?_)
  refine wp_ret ?_
  refine thenR ?_
  replace H := si H
  subst H
  refine out1 F rfl rfl ?_
  exact ⟨cf (fun x_ => if x_ < m then x_ else 0) c0, rfl, E.lv B0, cfb⟩
 replace H := im hb9 H
 refine wp_cond_false (fb F (bfalse hb9)) (wp_skip (hK7 _ _ ?_))
 refine wp_seq_k fun K11 hK11 => reg ?_
 refine qm F fun a F => ?_
 obtain ⟨ob12, e13, H⟩ := bind_some H
 have z14 := h3
 rw [e13] at z14
 obtain ⟨ad15, p17, cs19, rfl, hat16, h18, h20⟩ := SH.some z14
 refine qv F (r_nil F rfl) fun a F => ?_
 refine qf F ff_76_0 fun a F => ?_
 refine qv F (r_load F rfl ag_26 (AT.cell hat16 rfl)) fun a F => ?_
 obtain ⟨t22, q23, H⟩ := bind_some H
 refine qc F Try.func18 (table_Table_Rev.calls (m := m + 1) (pl hm0) B h18 (Nat.lt_add_right _ bj5.1) _ q23) ?_
 rintro e w25 ⟨c24, rfl, E26, B27⟩
 refine ⟨_, rfl, fun a F => ?_⟩
 have B := B27
 replace E := E.trans E26 nx
 refine qa F fun a F => ?_
 refine nil (hK11 _ _ ?_)
 replace F : Fr a 10 [(2, .int .i64 t22)] := F.sub ⟨rfl, trivial⟩
 refine wp_ret ?_
 replace H := si H
 subst H
 refine out1 F rfl rfl ?_
 exact ⟨cf (fun x_ => if x_ < m then x_ else 0) c24, rfl, E.lv B0, cfb⟩
theorem haulagelaw14_known.calls (k : Nat) {m : Nat} {c0 : Nat → Nat} {w0 : World} (hm0 : 0 < m) (B0 : CB m c0 w0) (r : Bool) (H : haulagelaw14_known.f k = some r) : Calls Try.prog 6 #[] w0 (fun e w_ => ∃ (c_ : Nat → Nat), e = .returned (.bool r) ∧ Ev (fun x => False) c0 w0 c_ w_ ∧ CB m c_ w_) := by
 unfold haulagelaw14_known.f at H
 have B := B0.mono (show m ≤ m + 8 by omega)
 have E : Ev (fun x => False ∨ m ≤ x) c0 w0 c0 w0 := Ev.refl
 refine enter (N := 122) (l := []) Try.func6 rfl rfl (nb rfl) fun a F => ?_
 refine wp_seq_k fun K1 hK1 => reg ?_
 refine qa F fun a F => ?_
 refine nil (hK1 _ _ ?_)
 refine wp_seq_k fun K2 hK2 => reg ?_
 obtain ⟨t3, q4, H⟩ := bind_some H
 refine qc F Try.func7 (shard_New.calls (m := m + 8) (pl hm0) B (m + 1) lm (m + 2) lm _ q4) ?_
 rintro e w6 ⟨c5, p9, rfl, E7, B8, h10⟩
 refine ⟨_, rfl, fun a F => ?_⟩
 have B := B8
 replace E := E.trans E7 nx
 refine qa F fun a F => ?_
 refine nil (hK2 _ _ ?_)
 refine wp_seq_k fun K12 hK12 => ?_
 refine wp_seq_k fun K13 hK13 => ?_
 have J48 : ∀ (c49 : Nat → Nat) (w50 : World) (a : Act) (b47 : Bool), Fr a 122 [(1, .pointer p9), (25, .bool b47)] → Ev (fun x => False ∨ m ≤ x) c0 w0 c49 w50 → CB (m + 8) c49 w50 → SH (m + 1) (m + 2) c49 w50 p9 t3 → haulagelaw14_known.j1 k t3 b47 = some r → K13 a w50 := by
  intro c49 w50 a b47 F E B h10 H
  unfold haulagelaw14_known.j1 at H
  as_aux_lemma =>
  refine hK13 _ _ ?_
  by_cases hb51 : b47 = true
  ·replace H := ip hb51 H
   refine wp_cond_true (fb F hb51) ?_
   refine wp_seq_k fun K52 hK52 => reg ?_
   refine qa F fun a F => ?_
   refine nil (hK52 _ _ ?_)
   refine wp_ret ?_
   refine thenR ?_
   replace H := si H
   subst H
   refine out1 F rfl rfl ?_
   exact ⟨cf (fun x_ => if x_ < m then x_ else 0) c49, rfl, E.lv B0, cfb⟩
  replace H := im hb51 H
  refine wp_cond_false (fb F (bfalse hb51)) (wp_skip (hK12 _ _ ?_))
  refine wp_seq_k fun K53 hK53 => reg ?_
  refine qm F fun a F => ?_
  obtain ⟨t54, q55, H⟩ := bind_some H
  refine qc F Try.func33 (haulagelaw14_put.calls (m := m + 8) (pl hm0) B _ q55) ?_
  rintro e w57 ⟨c56, A60, C61, A63, C64, rfl, E58, B59, h62, h65⟩
  refine ⟨_, rfl, fun a F => ?_⟩
  have B := B59
  replace h10 := h10.ev E58 nq nq nq
  as_aux_lemma =>
  replace E := E.trans E58 nx
  obtain ⟨t67, q68, H⟩ := bind_some H
  refine qc F Try.func10 (shard_Shard_Do.calls k (m := m + 8) (pl hm0) B h10 h62 h65 ⟨(pl hm0), lm⟩ ⟨(pl hm0), lm, mm⟩ _ q68) ?_
  rintro e w70 ⟨c69, A73, C74, A76, C77, rfl, E71, B72, h75, h78, h79⟩
  refine ⟨_, rfl, fun a F => ?_⟩
  have B := B72
  replace E := E.trans E71 lc2
  refine qm F fun a F => ?_
  refine qv F (r_extract F rfl rfl) fun a F => ?_
  refine qv F (r_extract F rfl rfl) fun a F => ?_
  refine qv F (r_extract F rfl rfl) fun a F => ?_
  refine q_eff F rfl rfl (by decide) (e_alloc F zv_34 c69 (m + 3)) ?_
  rintro v w82 a ⟨c81, qa83, rfl, E84, h85, B86⟩ F
  replace B := B86 _ B lm
  replace h75 := h75.ev E84 nq nq
  replace h78 := h78.ev E84 nq nq
  replace h79 := h79.ev E84 nq nq nq
  replace E := E.trans E84 nx
  replace h85 : AT true (m + 3) c81 w82 qa83 [.bool false, .slice none 0 0, .slice none 0 0, .int .i64 0, .int .i64 0] := h85
  refine q_eff0 F rfl rfl (e_storeN0 (us := [.bool t67.1.Done, .slice A73 t67.1.Key.length C74, .slice A76 t67.1.Value.length C77, .int .i64 t67.1.Rev, .int .i64 t67.1.At]) F rfl rfl sz_34 h85 (nb rfl) (one_all rfl)) ?_
  rintro w88 a ⟨E89, h85, Z90⟩ F
  replace B := B.size Z90
  as_aux_lemma =>
  replace h75 := h75.ev E89 ne_zm ne_zm
  replace h78 := h78.ev E89 ne_zm ne_zm
  replace h79 := h79.ev E89 mm mm ne_zm
  replace E := E.trans E89 lc1
  replace h85 : AT true (m + 3) c81 w88 qa83 [.bool t67.1.Done, .slice A73 t67.1.Key.length C74, .slice A76 t67.1.Value.length C77, .int .i64 t67.1.Rev, .int .i64 t67.1.At] := h85
  refine qa F fun a F => ?_
  refine qa F fun a F => ?_
  refine nil (hK53 _ _ ?_)
  replace F : Fr a 122 [(1, .pointer p9), (2, .pointer (some qa83)), (3, .bool t67.2.1), (4, .int .i64 t67.2.2.1)] := F.sub ⟨rfl, rfl, rfl, rfl, trivial⟩
  refine wp_seq_k fun K91 hK91 => reg ?_
  refine qm F fun a F => ?_
  obtain ⟨t92, q93, H⟩ := bind_some H
  refine qc F Try.func33 (haulagelaw14_put.calls (m := m + 8) (pl hm0) B _ q93) ?_
  rintro e w95 ⟨c94, A98, C99, A101, C102, rfl, E96, B97, h100, h103⟩
  refine ⟨_, rfl, fun a F => ?_⟩
  have B := B97
  replace h75 := h75.ev E96 nq nq
  replace h78 := h78.ev E96 nq nq
  replace h79 := h79.ev E96 nq nq nq
  replace h85 := h85.ev E96 nq
  replace E := E.trans E96 nx
  obtain ⟨t105, q106, H⟩ := bind_some H
  as_aux_lemma =>
  refine qc F Try.func10 (shard_Shard_Do.calls k (m := m + 8) (pl hm0) B h79 h100 h103 ⟨(pl hm0), lm⟩ ⟨(pl hm0), lm, mm⟩ _ q106) ?_
  rintro e w108 ⟨c107, A111, C112, A114, C115, rfl, E109, B110, h113, h116, h117⟩
  refine ⟨_, rfl, fun a F => ?_⟩
  have B := B110
  replace h75 := h75.ev E109 (nor ne_zm ne_zm) (nor ne_zm ne_zm)
  replace h78 := h78.ev E109 (nor ne_zm ne_zm) (nor ne_zm ne_zm)
  replace h85 := h85.ev E109 (nor mm mm)
  replace E := E.trans E109 lc2
  refine qm F fun a F => ?_
  refine qv F (r_extract F rfl rfl) fun a F => ?_
  refine qv F (r_extract F rfl rfl) fun a F => ?_
  refine qv F (r_extract F rfl rfl) fun a F => ?_
  refine q_eff F rfl rfl (by decide) (e_alloc F zv_34 c107 (m + 4)) ?_
  rintro v w120 a ⟨c119, qa121, rfl, E122, h123, B124⟩ F
  replace B := B124 _ B lm
  replace h75 := h75.ev E122 nq nq
  replace h78 := h78.ev E122 nq nq
  replace h85 := h85.ev E122 nq
  replace h113 := h113.ev E122 nq nq
  replace h116 := h116.ev E122 nq nq
  replace h117 := h117.ev E122 nq nq nq
  replace E := E.trans E122 nx
  as_aux_lemma =>
  replace h123 : AT true (m + 4) c119 w120 qa121 [.bool false, .slice none 0 0, .slice none 0 0, .int .i64 0, .int .i64 0] := h123
  refine q_eff0 F rfl rfl (e_storeN0 (us := [.bool t105.1.Done, .slice A111 t105.1.Key.length C112, .slice A114 t105.1.Value.length C115, .int .i64 t105.1.Rev, .int .i64 t105.1.At]) F rfl rfl sz_34 h123 (nb rfl) (one_all rfl)) ?_
  rintro w126 a ⟨E127, h123, Z128⟩ F
  replace B := B.size Z128
  replace h75 := h75.ev E127 ne_zm ne_zm
  replace h78 := h78.ev E127 ne_zm ne_zm
  replace h85 := h85.ev E127 mm
  replace h113 := h113.ev E127 ne_zm ne_zm
  replace h116 := h116.ev E127 ne_zm ne_zm
  replace h117 := h117.ev E127 mm mm ne_zm
  replace E := E.trans E127 lc1
  replace h123 : AT true (m + 4) c119 w126 qa121 [.bool t105.1.Done, .slice A111 t105.1.Key.length C112, .slice A114 t105.1.Value.length C115, .int .i64 t105.1.Rev, .int .i64 t105.1.At] := h123
  refine qa F fun a F => ?_
  refine qa F fun a F => ?_
  refine nil (hK91 _ _ ?_)
  refine wp_seq_k fun K129 hK129 => reg ?_
  refine qm F fun a F => ?_
  obtain ⟨t130, q131, H⟩ := bind_some H
  refine qc F Try.func34 (haulagelaw14_get.calls (m := m + 8) (pl hm0) B 0 (pl hm0) _ q131) ?_
  rintro e w133 ⟨c132, A136, C137, A139, C140, rfl, E134, B135, h138, h141⟩
  refine ⟨_, rfl, fun a F => ?_⟩
  have B := B135
  as_aux_lemma =>
  replace h75 := h75.ev E134 nq nq
  replace h78 := h78.ev E134 nq nq
  replace h85 := h85.ev E134 nq
  replace h113 := h113.ev E134 nq nq
  replace h116 := h116.ev E134 nq nq
  replace h117 := h117.ev E134 nq nq nq
  replace h123 := h123.ev E134 nq
  replace E := E.trans E134 nx
  obtain ⟨t143, q144, H⟩ := bind_some H
  refine qc F Try.func10 (shard_Shard_Do.calls k (m := m + 8) (pl hm0) B h117 h138 h141.r ⟨(pl hm0), lm⟩ ⟨(pl hm0), lm, mm⟩ _ q144) ?_
  rintro e w146 ⟨c145, A149, C150, A152, C153, rfl, E147, B148, h151, h154, h155⟩
  refine ⟨_, rfl, fun a F => ?_⟩
  have B := B148
  replace h75 := h75.ev E147 (nor ne_zm ne_zm) (nor ne_zm ne_zm)
  replace h78 := h78.ev E147 (nor ne_zm ne_zm) (nor ne_zm ne_zm)
  replace h85 := h85.ev E147 (nor mm mm)
  replace h113 := h113.ev E147 (nor ne_zm ne_zm) (nor ne_zm ne_zm)
  replace h116 := h116.ev E147 (nor ne_zm ne_zm) (nor ne_zm ne_zm)
  replace h123 := h123.ev E147 (nor mm mm)
  replace E := E.trans E147 lc2
  refine qm F fun a F => ?_
  refine qv F (r_extract F rfl rfl) fun a F => ?_
  as_aux_lemma =>
  refine qv F (r_extract F rfl rfl) fun a F => ?_
  refine qv F (r_extract F rfl rfl) fun a F => ?_
  refine q_eff F rfl rfl (by decide) (e_alloc F zv_34 c145 (m + 5)) ?_
  rintro v w158 a ⟨c157, qa159, rfl, E160, h161, B162⟩ F
  replace B := B162 _ B lm
  replace h75 := h75.ev E160 nq nq
  replace h78 := h78.ev E160 nq nq
  replace h85 := h85.ev E160 nq
  replace h113 := h113.ev E160 nq nq
  replace h116 := h116.ev E160 nq nq
  replace h123 := h123.ev E160 nq
  replace h151 := h151.ev E160 nq nq
  replace h154 := h154.ev E160 nq nq
  replace h155 := h155.ev E160 nq nq nq
  replace E := E.trans E160 nx
  replace h161 : AT true (m + 5) c157 w158 qa159 [.bool false, .slice none 0 0, .slice none 0 0, .int .i64 0, .int .i64 0] := h161
  refine q_eff0 F rfl rfl (e_storeN0 (us := [.bool t143.1.Done, .slice A149 t143.1.Key.length C150, .slice A152 t143.1.Value.length C153, .int .i64 t143.1.Rev, .int .i64 t143.1.At]) F rfl rfl sz_34 h161 (nb rfl) (one_all rfl)) ?_
  rintro w164 a ⟨E165, h161, Z166⟩ F
  replace B := B.size Z166
  replace h75 := h75.ev E165 ne_zm ne_zm
  replace h78 := h78.ev E165 ne_zm ne_zm
  replace h85 := h85.ev E165 mm
  as_aux_lemma =>
  replace h113 := h113.ev E165 ne_zm ne_zm
  replace h116 := h116.ev E165 ne_zm ne_zm
  replace h123 := h123.ev E165 mm
  replace h151 := h151.ev E165 ne_zm ne_zm
  replace h154 := h154.ev E165 ne_zm ne_zm
  replace h155 := h155.ev E165 mm mm ne_zm
  replace E := E.trans E165 lc1
  replace h161 : AT true (m + 5) c157 w164 qa159 [.bool t143.1.Done, .slice A149 t143.1.Key.length C150, .slice A152 t143.1.Value.length C153, .int .i64 t143.1.Rev, .int .i64 t143.1.At] := h161
  refine qa F fun a F => ?_
  refine qa F fun a F => ?_
  refine nil (hK129 _ _ ?_)
  replace F : Fr a 122 [(1, .pointer p9), (2, .pointer (some qa83)), (3, .bool t67.2.1), (4, .int .i64 t67.2.2.1), (5, .pointer (some qa121)), (6, .bool t105.2.1), (7, .int .i64 t105.2.2.1), (8, .pointer (some qa159)), (9, .bool t143.2.1), (10, .int .i64 t143.2.2.1)] := F.sub ⟨rfl, rfl, rfl, rfl, rfl, rfl, rfl, rfl, rfl, rfl, trivial⟩
  refine wp_seq_k fun K167 hK167 => ?_
  refine wp_seq_k fun K168 hK168 => ?_
  have J206 : ∀ (c207 : Nat → Nat) (w208 : World) (a : Act) (b205 : Bool), Fr a 122 [(1, .pointer p9), (8, .pointer (some qa159)), (85, .bool b205)] → Ev (fun x => False ∨ m ≤ x) c0 w0 c207 w208 → CB (m + 8) c207 w208 → AT true (m + 5) c207 w208 qa159 [.bool t143.1.Done, .slice A149 t143.1.Key.length C150, .slice A152 t143.1.Value.length C153, .int .i64 t143.1.Rev, .int .i64 t143.1.At] → SH (m + 1) (m + 2) c207 w208 p9 t143.2.2.2 → SL false (Kint .u8) 0 0 c207 w208 A149 C150 t143.1.Key → SL false (Kint .u8) 0 0 c207 w208 A152 C153 t143.1.Value → haulagelaw14_known.j2 k t143 b205 = some r → K168 a w208 := by
   intro c207 w208 a b205 F E B h161 h155 h151 h154 H
   unfold haulagelaw14_known.j2 at H
   refine hK168 _ _ ?_
   by_cases hb209 : b205 = true
   ·replace H := ip hb209 H
    refine wp_cond_true (fb F hb209) ?_
    refine wp_seq_k fun K210 hK210 => reg ?_
    refine qa F fun a F => ?_
    as_aux_lemma =>
    refine nil (hK210 _ _ ?_)
    refine wp_ret ?_
    refine thenR ?_
    replace H := si H
    subst H
    refine out1 F rfl rfl ?_
    exact ⟨cf (fun x_ => if x_ < m then x_ else 0) c207, rfl, E.lv B0, cfb⟩
   replace H := im hb209 H
   refine wp_cond_false (fb F (bfalse hb209)) (wp_skip (hK167 _ _ ?_))
   refine wp_seq_k fun K211 hK211 => reg ?_
   refine qf F ff_34_0 fun a F => ?_
   refine qv F (r_load F rfl ag_4 (AT.cell h161 rfl)) fun a F => ?_
   refine qm F fun a F => ?_
   by_cases hb212 : t143.1.Done = true
   ·replace H := ip hb212 H
    refine qy F hb212 ?_
    refine qf F ff_34_1 fun a F => ?_
    refine qy F hb212 ?_
    refine qv F (r_load F rfl ag_28 (AT.cell h161 rfl)) fun a F => ?_
    refine qy F hb212 ?_
    refine q_eff F rfl rfl (by decide) (e_buildSliceF (n := 1) (e := 5) (c := c207) (k := (Kint .u8)) (i := 0) F [(0, .int .u8 97)] [.int .u8 97] ([97] : List Int) (by exact ⟨rfl, rfl, trivial⟩) (fun w => by kernel_rfl) rfl (by decide) rfl ⟨rfl, trivial⟩ (fun q => q) (m + 6)) ?_
    rintro v w215 a ⟨c214, A216, C217, rfl, E218, h219, B220, hf213⟩ F
    replace B := B220 _ B lm
    as_aux_lemma =>
    replace h161 := h161.ev E218 nq
    replace h155 := h155.ev E218 nq nq nq
    replace h151 := h151.ev E218 nq nq
    replace h154 := h154.ev E218 nq nq
    replace E := E.trans E218 nx
    refine qy F hb212 ?_
    refine q_eff F rfl rfl (by decide) (e_convb F Try.underlying28 Try.underlying5 rfl h219 hf213) ?_
    rintro v w221 a ⟨rfl, E222, h219, Z223⟩ F
    replace B := B.size Z223
    replace h161 := h161.ev E222 mm
    replace h155 := h155.ev E222 mm mm ne_zm
    replace h151 := h151.ev E222 ne_zm ne_zm
    replace h154 := h154.ev E222 ne_zm ne_zm
    replace E := E.trans E222 lc1
    obtain ⟨c224, hc224⟩ : ∃ c', c' = fun k => if c214 k = m + 6 then 0 else c214 k := ⟨_, rfl⟩
    replace h161 := AT.rc (c' := c224) (j' := m + 5) h161 (fun k_ hk_ => by rw [hc224]; show (if c214 k_ = m + 6 then 0 else c214 k_) = _; rw [hk_]; ((repeat' split) <;> omega))
    replace h155 := SH.rc (c' := c224) (j' := m + 1) (i' := m + 2) h155 (fun k_ hk_ => by rw [hc224]; show (if c214 k_ = m + 6 then 0 else c214 k_) = _; rw [hk_]; ((repeat' split) <;> omega)) (fun k_ hk_ => by rw [hc224]; show (if c214 k_ = m + 6 then 0 else c214 k_) = _; rw [hk_]; ((repeat' split) <;> omega)) (fun k_ hk_ => by rw [hc224]; show (if c214 k_ = m + 6 then 0 else c214 k_) = _; rw [hk_]; ((repeat' split) <;> omega))
    replace h151 := SL.rc (c' := c224) (j' := 0) (i' := 0) h151 (fun k_ hk_ => by rw [hc224]; show (if c214 k_ = m + 6 then 0 else c214 k_) = _; rw [hk_]; ((repeat' split) <;> omega)) (fun k_ hk_ => by rw [hc224]; show (if c214 k_ = m + 6 then 0 else c214 k_) = _; rw [hk_]; ((repeat' split) <;> omega))
    replace h154 := SL.rc (c' := c224) (j' := 0) (i' := 0) h154 (fun k_ hk_ => by rw [hc224]; show (if c214 k_ = m + 6 then 0 else c214 k_) = _; rw [hk_]; ((repeat' split) <;> omega)) (fun k_ hk_ => by rw [hc224]; show (if c214 k_ = m + 6 then 0 else c214 k_) = _; rw [hk_]; ((repeat' split) <;> omega))
    replace h219 := SL.rc (c' := c224) (j' := 0) (i' := 0) h219.r (fun k_ hk_ => by rw [hc224]; show (if c214 k_ = m + 6 then 0 else c214 k_) = _; rw [hk_]; ((repeat' split) <;> omega)) (fun k_ hk_ => by rw [hc224]; show (if c214 k_ = m + 6 then 0 else c214 k_) = _; rw [hk_]; ((repeat' split) <;> omega))
    have E : Ev (fun x => False ∨ m ≤ x) c0 w0 c224 w221 := by rw [hc224]; exact E.freeze B0 (by omega)
    have B : CB (m + 8) c224 w221 := by rw [hc224]; exact B.freeze (by omega)
    obtain ⟨t225, q226, H⟩ := bind_some H
    as_aux_lemma =>
    refine qy F hb212 ?_
    refine qc F Try.func23 (haulagelaw14_same.calls k (m := m + 8) (pl hm0) B h151 h219 _ q226) ?_
    rintro e w228 ⟨c227, rfl, E229, B230⟩
    refine ⟨_, rfl, fun a F => ?_⟩
    have B := B230
    replace h161 := h161.ev E229 nq
    replace h155 := h155.ev E229 nq nq nq
    replace h154 := h154.ev E229 nq nq
    replace E := E.trans E229 nx
    refine qv F (r_pick_t F rfl hb212 rfl) fun a F => ?_
    refine qm F fun a F => ?_
    by_cases hb232 : t225 = true
    ·replace H := ip hb232 H
     refine qy F hb232 ?_
     refine qf F ff_34_2 fun a F => ?_
     refine qy F hb232 ?_
     refine qv F (r_load F rfl ag_28 (AT.cell h161 rfl)) fun a F => ?_
     refine qy F hb232 ?_
     refine q_eff F rfl rfl (by decide) (e_buildSliceF (n := 1) (e := 5) (c := c227) (k := (Kint .u8)) (i := 0) F [(0, .int .u8 49)] [.int .u8 49] ([49] : List Int) (by exact ⟨rfl, rfl, trivial⟩) (fun w => by kernel_rfl) rfl (by decide) rfl ⟨rfl, trivial⟩ (fun q => q) (m + 7)) ?_
     rintro v w235 a ⟨c234, A236, C237, rfl, E238, h239, B240, hf233⟩ F
     replace B := B240 _ B lm
     replace h161 := h161.ev E238 nq
     replace h155 := h155.ev E238 nq nq nq
     as_aux_lemma =>
     replace h154 := h154.ev E238 nq nq
     replace E := E.trans E238 nx
     refine qy F hb232 ?_
     refine q_eff F rfl rfl (by decide) (e_convb F Try.underlying28 Try.underlying5 rfl h239 hf233) ?_
     rintro v w241 a ⟨rfl, E242, h239, Z243⟩ F
     replace B := B.size Z243
     replace h161 := h161.ev E242 mm
     replace h155 := h155.ev E242 mm mm ne_zm
     replace h154 := h154.ev E242 ne_zm ne_zm
     replace E := E.trans E242 lc1
     obtain ⟨c244, hc244⟩ : ∃ c', c' = fun k => if c234 k = m + 7 then 0 else c234 k := ⟨_, rfl⟩
     replace h161 := AT.rc (c' := c244) (j' := m + 5) h161 (fun k_ hk_ => by rw [hc244]; show (if c234 k_ = m + 7 then 0 else c234 k_) = _; rw [hk_]; ((repeat' split) <;> omega))
     replace h155 := SH.rc (c' := c244) (j' := m + 1) (i' := m + 2) h155 (fun k_ hk_ => by rw [hc244]; show (if c234 k_ = m + 7 then 0 else c234 k_) = _; rw [hk_]; ((repeat' split) <;> omega)) (fun k_ hk_ => by rw [hc244]; show (if c234 k_ = m + 7 then 0 else c234 k_) = _; rw [hk_]; ((repeat' split) <;> omega)) (fun k_ hk_ => by rw [hc244]; show (if c234 k_ = m + 7 then 0 else c234 k_) = _; rw [hk_]; ((repeat' split) <;> omega))
     replace h154 := SL.rc (c' := c244) (j' := 0) (i' := 0) h154 (fun k_ hk_ => by rw [hc244]; show (if c234 k_ = m + 7 then 0 else c234 k_) = _; rw [hk_]; ((repeat' split) <;> omega)) (fun k_ hk_ => by rw [hc244]; show (if c234 k_ = m + 7 then 0 else c234 k_) = _; rw [hk_]; ((repeat' split) <;> omega))
     replace h239 := SL.rc (c' := c244) (j' := 0) (i' := 0) h239.r (fun k_ hk_ => by rw [hc244]; show (if c234 k_ = m + 7 then 0 else c234 k_) = _; rw [hk_]; ((repeat' split) <;> omega)) (fun k_ hk_ => by rw [hc244]; show (if c234 k_ = m + 7 then 0 else c234 k_) = _; rw [hk_]; ((repeat' split) <;> omega))
     have E : Ev (fun x => False ∨ m ≤ x) c0 w0 c244 w241 := by rw [hc244]; exact E.freeze B0 (by omega)
     have B : CB (m + 8) c244 w241 := by rw [hc244]; exact B.freeze (by omega)
     obtain ⟨t245, q246, H⟩ := bind_some H
     refine qy F hb232 ?_
     refine qc F Try.func23 (haulagelaw14_same.calls k (m := m + 8) (pl hm0) B h154 h239 _ q246) ?_
     rintro e w248 ⟨c247, rfl, E249, B250⟩
     refine ⟨_, rfl, fun a F => ?_⟩
     have B := B250
     as_aux_lemma =>
     replace h161 := h161.ev E249 nq
     replace h155 := h155.ev E249 nq nq nq
     replace E := E.trans E249 nx
     refine qv F (r_pick_t F rfl hb232 rfl) fun a F => ?_
     refine qm F fun a F => ?_
     by_cases hb252 : t245 = true
     ·replace H := ip hb252 H
      refine qy F hb252 ?_
      refine qf F ff_34_3 fun a F => ?_
      refine qy F hb252 ?_
      refine qv F (r_load F rfl ag_3 (AT.cell h161 rfl)) fun a F => ?_
      refine qy F hb252 ?_
      refine qv F (r_eql F rfl rfl) fun a F => ?_
      refine qv F (r_pick_t F rfl hb252 rfl) fun a F => ?_
      refine qm F fun a F => ?_
      by_cases hb253 : t143.1.Rev = 1
      ·replace H := ip hb253 H
       refine qy F (dt hb253) ?_
       refine qf F ff_34_4 fun a F => ?_
       refine qy F (dt hb253) ?_
       refine qv F (r_load F rfl ag_3 (AT.cell h161 rfl)) fun a F => ?_
       refine qy F (dt hb253) ?_
       refine qv F (r_eql F rfl rfl) fun a F => ?_
       refine qv F (r_pick_t F rfl (dt hb253) rfl) fun a F => ?_
       as_aux_lemma =>
       refine qm F fun a F => ?_
       by_cases hb254 : t143.1.At = 1
       ·replace H := ip hb254 H
        refine qy F (dt hb254) ?_
        refine qm F fun a F => ?_
        obtain ⟨t255, q256, H⟩ := bind_some H
        refine qy F (dt hb254) ?_
        refine qc F Try.func17 (shard_Shard_Rev.calls (m := m + 8) (pl hm0) B h155 lm ⟨lm, mm⟩ _ q256) ?_
        rintro e w258 ⟨c257, rfl, E259, B260⟩
        refine ⟨_, rfl, fun a F => ?_⟩
        have B := B260
        replace h155 := h155.ev E259 nq nq nq
        replace E := E.trans E259 nx
        refine qy F (dt hb254) ?_
        refine qv F (r_eql F rfl rfl) fun a F => ?_
        refine qv F (r_pick_t F rfl (dt hb254) rfl) fun a F => ?_
        refine qm F fun a F => ?_
        by_cases hb262 : t255 = 1
        ·replace H := ip hb262 H
         refine qy F (dt hb262) ?_
         refine qm F fun a F => ?_
         obtain ⟨t263, q264, H⟩ := bind_some H
         refine qy F (dt hb262) ?_
         refine qc F Try.func19 (shard_Shard_Len.calls (m := m + 8) (pl hm0) B h155 lm ⟨lm, mm⟩ _ q264) ?_
         rintro e w266 ⟨c265, rfl, E267, B268⟩
         as_aux_lemma =>
         refine ⟨_, rfl, fun a F => ?_⟩
         have B := B268
         replace E := E.trans E267 nx
         refine qy F (dt hb262) ?_
         refine qv F (r_eql F rfl rfl) fun a F => ?_
         refine qv F (r_pick_t F rfl (dt hb262) rfl) fun a F => ?_
         refine qa F fun a F => ?_
         refine nil (hK211 _ _ ?_)
         replace F : Fr a 122 [(0, .bool (decide (t263 = 1)))] := F.sub ⟨rfl, trivial⟩
         refine wp_ret ?_
         replace H := si H
         subst H
         refine out1 F rfl rfl ?_
         exact ⟨cf (fun x_ => if x_ < m then x_ else 0) c265, rfl, E.lv B0, cfb⟩
        replace H := im hb262 H
        refine qn F (dz hb262) fun a F => ?_
        refine qn F (dz hb262) fun a F => ?_
        refine qn F (dz hb262) fun a F => ?_
        refine qv F (r_pick_f F rfl (dz hb262) rfl) fun a F => ?_
        refine qa F fun a F => ?_
        refine nil (hK211 _ _ ?_)
        replace F : Fr a 122 [(0, .bool false)] := F.sub ⟨rfl, trivial⟩
        as_aux_lemma =>
        refine wp_ret ?_
        replace H := si H
        subst H
        refine out1 F rfl rfl ?_
        exact ⟨cf (fun x_ => if x_ < m then x_ else 0) c257, rfl, E.lv B0, cfb⟩
       replace H := im hb254 H
       refine qn F (dz hb254) fun a F => ?_
       refine qn F (dz hb254) fun a F => ?_
       refine qn F (dz hb254) fun a F => ?_
       refine qv F (r_pick_f F rfl (dz hb254) rfl) fun a F => ?_
       refine qm F fun a F => ?_
       refine qn F rfl fun a F => ?_
       refine qn F rfl fun a F => ?_
       refine qn F rfl fun a F => ?_
       refine qv F (r_pick_f F rfl rfl rfl) fun a F => ?_
       refine qa F fun a F => ?_
       refine nil (hK211 _ _ ?_)
       replace F : Fr a 122 [(0, .bool false)] := F.sub ⟨rfl, trivial⟩
       refine wp_ret ?_
       replace H := si H
       subst H
       refine out1 F rfl rfl ?_
       exact ⟨cf (fun x_ => if x_ < m then x_ else 0) c247, rfl, E.lv B0, cfb⟩
      as_aux_lemma =>
      replace H := im hb253 H
      refine qn F (dz hb253) fun a F => ?_
      refine qn F (dz hb253) fun a F => ?_
      refine qn F (dz hb253) fun a F => ?_
      refine qv F (r_pick_f F rfl (dz hb253) rfl) fun a F => ?_
      refine qm F fun a F => ?_
      refine qn F rfl fun a F => ?_
      refine qn F rfl fun a F => ?_
      refine qn F rfl fun a F => ?_
      refine qv F (r_pick_f F rfl rfl rfl) fun a F => ?_
      refine qm F fun a F => ?_
      refine qn F rfl fun a F => ?_
      refine qn F rfl fun a F => ?_
      refine qn F rfl fun a F => ?_
      refine qv F (r_pick_f F rfl rfl rfl) fun a F => ?_
      refine qa F fun a F => ?_
      refine nil (hK211 _ _ ?_)
      replace F : Fr a 122 [(0, .bool false)] := F.sub ⟨rfl, trivial⟩
      refine wp_ret ?_
      replace H := si H
      subst H
      refine out1 F rfl rfl ?_
      exact ⟨cf (fun x_ => if x_ < m then x_ else 0) c247, rfl, E.lv B0, cfb⟩
     as_aux_lemma =>
     replace H := im hb252 H
     refine qn F (bfalse hb252) fun a F => ?_
     refine qn F (bfalse hb252) fun a F => ?_
     refine qn F (bfalse hb252) fun a F => ?_
     refine qv F (r_pick_f F rfl (bfalse hb252) rfl) fun a F => ?_
     refine qm F fun a F => ?_
     refine qn F rfl fun a F => ?_
     refine qn F rfl fun a F => ?_
     refine qn F rfl fun a F => ?_
     refine qv F (r_pick_f F rfl rfl rfl) fun a F => ?_
     refine qm F fun a F => ?_
     refine qn F rfl fun a F => ?_
     refine qn F rfl fun a F => ?_
     refine qn F rfl fun a F => ?_
     refine qv F (r_pick_f F rfl rfl rfl) fun a F => ?_
     refine qm F fun a F => ?_
     refine qn F rfl fun a F => ?_
     refine qn F rfl fun a F => ?_
     refine qn F rfl fun a F => ?_
     refine qv F (r_pick_f F rfl rfl rfl) fun a F => ?_
     refine qa F fun a F => ?_
     refine nil (hK211 _ _ ?_)
     replace F : Fr a 122 [(0, .bool false)] := F.sub ⟨rfl, trivial⟩
     as_aux_lemma =>
     refine wp_ret ?_
     replace H := si H
     subst H
     refine out1 F rfl rfl ?_
     exact ⟨cf (fun x_ => if x_ < m then x_ else 0) c247, rfl, E.lv B0, cfb⟩
    replace H := im hb232 H
    refine qn F (bfalse hb232) fun a F => ?_
    refine qn F (bfalse hb232) fun a F => ?_
    refine qn F (bfalse hb232) fun a F => ?_
    refine qn F (bfalse hb232) fun a F => ?_
    refine qn F (bfalse hb232) fun a F => ?_
    refine qv F (r_pick_f F rfl (bfalse hb232) rfl) fun a F => ?_
    refine qm F fun a F => ?_
    refine qn F rfl fun a F => ?_
    refine qn F rfl fun a F => ?_
    refine qn F rfl fun a F => ?_
    refine qv F (r_pick_f F rfl rfl rfl) fun a F => ?_
    refine qm F fun a F => ?_
    refine qn F rfl fun a F => ?_
    refine qn F rfl fun a F => ?_
    refine qn F rfl fun a F => ?_
    refine qv F (r_pick_f F rfl rfl rfl) fun a F => ?_
    as_aux_lemma =>
    refine qm F fun a F => ?_
    refine qn F rfl fun a F => ?_
    refine qn F rfl fun a F => ?_
    refine qn F rfl fun a F => ?_
    refine qv F (r_pick_f F rfl rfl rfl) fun a F => ?_
    refine qm F fun a F => ?_
    refine qn F rfl fun a F => ?_
    refine qn F rfl fun a F => ?_
    refine qn F rfl fun a F => ?_
    refine qv F (r_pick_f F rfl rfl rfl) fun a F => ?_
    refine qa F fun a F => ?_
    refine nil (hK211 _ _ ?_)
    replace F : Fr a 122 [(0, .bool false)] := F.sub ⟨rfl, trivial⟩
    refine wp_ret ?_
    replace H := si H
    subst H
    refine out1 F rfl rfl ?_
    exact ⟨cf (fun x_ => if x_ < m then x_ else 0) c227, rfl, E.lv B0, cfb⟩
   replace H := im hb212 H
   refine qn F (bfalse hb212) fun a F => ?_
   refine qn F (bfalse hb212) fun a F => ?_
   refine qn F (bfalse hb212) fun a F => ?_
   as_aux_lemma =>
   refine qn F (bfalse hb212) fun a F => ?_
   refine qn F (bfalse hb212) fun a F => ?_
   refine qv F (r_pick_f F rfl (bfalse hb212) rfl) fun a F => ?_
   refine qm F fun a F => ?_
   refine qn F rfl fun a F => ?_
   refine qn F rfl fun a F => ?_
   refine qn F rfl fun a F => ?_
   refine qn F rfl fun a F => ?_
   refine qn F rfl fun a F => ?_
   refine qv F (r_pick_f F rfl rfl rfl) fun a F => ?_
   refine qm F fun a F => ?_
   refine qn F rfl fun a F => ?_
   refine qn F rfl fun a F => ?_
   refine qn F rfl fun a F => ?_
   refine qv F (r_pick_f F rfl rfl rfl) fun a F => ?_
   refine qm F fun a F => ?_
   refine qn F rfl fun a F => ?_
   refine qn F rfl fun a F => ?_
   refine qn F rfl fun a F => ?_
   refine qv F (r_pick_f F rfl rfl rfl) fun a F => ?_
   refine qm F fun a F => ?_
   refine qn F rfl fun a F => ?_
   as_aux_lemma =>
   refine qn F rfl fun a F => ?_
   refine qn F rfl fun a F => ?_
   refine qv F (r_pick_f F rfl rfl rfl) fun a F => ?_
   refine qm F fun a F => ?_
   refine qn F rfl fun a F => ?_
   refine qn F rfl fun a F => ?_
   refine qn F rfl fun a F => ?_
   refine qv F (r_pick_f F rfl rfl rfl) fun a F => ?_
   refine qa F fun a F => ?_
   refine nil (hK211 _ _ ?_)
   replace F : Fr a 122 [(0, .bool false)] := F.sub ⟨rfl, trivial⟩
   refine wp_ret ?_
   replace H := si H
   subst H
   refine out1 F rfl rfl ?_
   exact ⟨cf (fun x_ => if x_ < m then x_ else 0) c207, rfl, E.lv B0, cfb⟩
  refine reg ?_
  refine qm F fun a F => ?_
  obtain ⟨t169, q170, H⟩ := bind_some H
  refine qc F Try.func11 (haulagelaw14_num.calls (m := m + 8) (pl hm0) B _ q170) ?_
  rintro e w172 ⟨c171, rfl, E173, B174⟩
  refine ⟨_, rfl, fun a F => ?_⟩
  have B := B174
  as_aux_lemma =>
  replace h75 := h75.ev E173 nq nq
  replace h78 := h78.ev E173 nq nq
  replace h85 := h85.ev E173 nq
  replace h113 := h113.ev E173 nq nq
  replace h116 := h116.ev E173 nq nq
  replace h123 := h123.ev E173 nq
  replace h151 := h151.ev E173 nq nq
  replace h154 := h154.ev E173 nq nq
  replace h155 := h155.ev E173 nq nq nq
  replace h161 := h161.ev E173 nq
  replace E := E.trans E173 nx
  refine qv F (r_neq F rfl rfl) fun a F => ?_
  refine qm F fun a F => ?_
  by_cases hb176 : t169 = 0
  ·replace H := ip hb176 H
   refine qy F (congrArg not (dt hb176)) ?_
   refine qm F fun a F => ?_
   obtain ⟨t177, q178, H⟩ := bind_some H
   refine qy F (congrArg not (dt hb176)) ?_
   refine qc F Try.func11 (haulagelaw14_num.calls (m := m + 8) (pl hm0) B _ q178) ?_
   rintro e w180 ⟨c179, rfl, E181, B182⟩
   refine ⟨_, rfl, fun a F => ?_⟩
   have B := B182
   as_aux_lemma =>
   replace h75 := h75.ev E181 nq nq
   replace h78 := h78.ev E181 nq nq
   replace h85 := h85.ev E181 nq
   replace h113 := h113.ev E181 nq nq
   replace h116 := h116.ev E181 nq nq
   replace h123 := h123.ev E181 nq
   replace h151 := h151.ev E181 nq nq
   replace h154 := h154.ev E181 nq nq
   replace h155 := h155.ev E181 nq nq nq
   replace h161 := h161.ev E181 nq
   replace E := E.trans E181 nx
   refine qy F (congrArg not (dt hb176)) ?_
   refine qv F (r_neq F rfl rfl) fun a F => ?_
   refine qv F (r_pick_f F rfl (congrArg not (dt hb176)) rfl) fun a F => ?_
   refine qm F fun a F => ?_
   by_cases hb184 : t177 = 0
   ·replace H := ip hb184 H
    refine qy F (congrArg not (dt hb184)) ?_
    refine qm F fun a F => ?_
    obtain ⟨t185, q186, H⟩ := bind_some H
    refine qy F (congrArg not (dt hb184)) ?_
    refine qc F Try.func11 (haulagelaw14_num.calls (m := m + 8) (pl hm0) B _ q186) ?_
    rintro e w188 ⟨c187, rfl, E189, B190⟩
    as_aux_lemma =>
    refine ⟨_, rfl, fun a F => ?_⟩
    have B := B190
    replace h75 := h75.ev E189 nq nq
    replace h78 := h78.ev E189 nq nq
    replace h85 := h85.ev E189 nq
    replace h113 := h113.ev E189 nq nq
    replace h116 := h116.ev E189 nq nq
    replace h123 := h123.ev E189 nq
    replace h151 := h151.ev E189 nq nq
    replace h154 := h154.ev E189 nq nq
    replace h155 := h155.ev E189 nq nq nq
    replace h161 := h161.ev E189 nq
    replace E := E.trans E189 nx
    refine qy F (congrArg not (dt hb184)) ?_
    refine qv F (r_neq F rfl rfl) fun a F => ?_
    refine qv F (r_pick_f F rfl (congrArg not (dt hb184)) rfl) fun a F => ?_
    refine qm F fun a F => ?_
    by_cases hb192 : t185 = 0
    ·replace H := ip hb192 H
     refine qy F (congrArg not (dt hb192)) ?_
     refine qm F fun a F => ?_
     refine qy F (congrArg not (dt hb192)) ?_
     refine qv F (r_not F rfl) fun a F => ?_
     as_aux_lemma =>
     refine qv F (r_pick_f F rfl (congrArg not (dt hb192)) rfl) fun a F => ?_
     refine qm F fun a F => ?_
     by_cases hb193 : t67.2.1 = true
     ·replace H := ip hb193 H
      refine qy F (congrArg not hb193) ?_
      refine qm F fun a F => ?_
      refine qv F (r_pick_f F rfl (congrArg not hb193) rfl) fun a F => ?_
      refine qm F fun a F => ?_
      by_cases hb194 : t105.2.1 = true
      ·replace H := ip hb194 H
       refine qn F hb194 fun a F => ?_
       refine qv F (r_pick_t F rfl hb194 rfl) fun a F => ?_
       refine qm F fun a F => ?_
       refine qn F rfl fun a F => ?_
       refine qn F rfl fun a F => ?_
       refine qn F rfl fun a F => ?_
       refine qv F (r_pick_t F rfl rfl rfl) fun a F => ?_
       refine qm F fun a F => ?_
       refine qn F rfl fun a F => ?_
       refine qn F rfl fun a F => ?_
       refine qn F rfl fun a F => ?_
       refine qv F (r_pick_t F rfl rfl rfl) fun a F => ?_
       refine qm F fun a F => ?_
       refine qn F rfl fun a F => ?_
       as_aux_lemma =>
       refine qn F rfl fun a F => ?_
       refine qn F rfl fun a F => ?_
       refine qn F rfl fun a F => ?_
       refine qv F (r_pick_t F rfl rfl rfl) fun a F => ?_
       refine nil ?_
       exact J206 c187 w188 a true (F.sub ⟨rfl, rfl, rfl, trivial⟩) E B h161 h155 h151 h154 H
      replace H := im hb194 H
      refine qy F (bfalse hb194) ?_
      refine qm F fun a F => ?_
      refine qv F (r_pick_f F rfl (bfalse hb194) rfl) fun a F => ?_
      refine qm F fun a F => ?_
      by_cases hb195 : t143.2.1 = true
      ·replace H := ip hb195 H
       refine qn F hb195 fun a F => ?_
       refine qn F hb195 fun a F => ?_
       refine qn F hb195 fun a F => ?_
       refine qv F (r_pick_t F rfl hb195 rfl) fun a F => ?_
       refine qm F fun a F => ?_
       refine qn F rfl fun a F => ?_
       refine qn F rfl fun a F => ?_
       refine qn F rfl fun a F => ?_
       refine qv F (r_pick_t F rfl rfl rfl) fun a F => ?_
       refine qm F fun a F => ?_
       as_aux_lemma =>
       refine qn F rfl fun a F => ?_
       refine qn F rfl fun a F => ?_
       refine qn F rfl fun a F => ?_
       refine qn F rfl fun a F => ?_
       refine qv F (r_pick_t F rfl rfl rfl) fun a F => ?_
       refine nil ?_
       exact J206 c187 w188 a true (F.sub ⟨rfl, rfl, rfl, trivial⟩) E B h161 h155 h151 h154 H
      replace H := im hb195 H
      refine qy F (bfalse hb195) ?_
      refine qf F ff_34_0 fun a F => ?_
      refine qy F (bfalse hb195) ?_
      refine qv F (r_load F rfl ag_4 (AT.cell h85 rfl)) fun a F => ?_
      refine qy F (bfalse hb195) ?_
      refine qv F (r_not F rfl) fun a F => ?_
      refine qv F (r_pick_f F rfl (bfalse hb195) rfl) fun a F => ?_
      refine qm F fun a F => ?_
      by_cases hb196 : t67.1.Done = true
      ·replace H := ip hb196 H
       refine qy F (congrArg not hb196) ?_
       refine qf F ff_34_4 fun a F => ?_
       refine qy F (congrArg not hb196) ?_
       refine qv F (r_load F rfl ag_3 (AT.cell h85 rfl)) fun a F => ?_
       refine qy F (congrArg not hb196) ?_
       as_aux_lemma =>
       refine qv F (r_neq F rfl rfl) fun a F => ?_
       refine qv F (r_pick_f F rfl (congrArg not hb196) rfl) fun a F => ?_
       refine qm F fun a F => ?_
       by_cases hb197 : t67.1.At = 1
       ·replace H := ip hb197 H
        refine qy F (congrArg not (dt hb197)) ?_
        refine qv F (r_loads (cs := [.bool t67.1.Done, .slice A73 t67.1.Key.length C74, .slice A76 t67.1.Value.length C77, .int .i64 t67.1.Rev, .int .i64 t67.1.At]) F rfl ag_34 sz_34 h85) fun a F => ?_
        refine qy F (congrArg not (dt hb197)) ?_
        refine qv F (r_loads (cs := [.bool t105.1.Done, .slice A111 t105.1.Key.length C112, .slice A114 t105.1.Value.length C115, .int .i64 t105.1.Rev, .int .i64 t105.1.At]) F rfl ag_34 sz_34 h123) fun a F => ?_
        obtain ⟨t198, q199, H⟩ := bind_some H
        refine qy F (congrArg not (dt hb197)) ?_
        refine qc F Try.func13 (haulagelaw14_sameAnswer.calls k (m := m + 8) (pl hm0) B h75 h78 h113 h116 _ q199) ?_
        rintro e w201 ⟨c200, rfl, E202, B203⟩
        refine ⟨_, rfl, fun a F => ?_⟩
        have B := B203
        replace h151 := h151.ev E202 nq nq
        replace h154 := h154.ev E202 nq nq
        replace h155 := h155.ev E202 nq nq nq
        replace h161 := h161.ev E202 nq
        replace E := E.trans E202 nx
        refine qy F (congrArg not (dt hb197)) ?_
        refine qv F (r_not F rfl) fun a F => ?_
        refine qv F (r_pick_f F rfl (congrArg not (dt hb197)) rfl) fun a F => ?_
        as_aux_lemma =>
        refine nil ?_
        exact J206 c200 w201 a (!t198) (F.sub ⟨rfl, rfl, rfl, trivial⟩) E B h161 h155 h151 h154 H
       replace H := im hb197 H
       refine qn F (congrArg not (dz hb197)) fun a F => ?_
       refine qn F (congrArg not (dz hb197)) fun a F => ?_
       refine qn F (congrArg not (dz hb197)) fun a F => ?_
       refine qn F (congrArg not (dz hb197)) fun a F => ?_
       refine qv F (r_pick_t F rfl (congrArg not (dz hb197)) rfl) fun a F => ?_
       refine nil ?_
       exact J206 c187 w188 a true (F.sub ⟨rfl, rfl, rfl, trivial⟩) E B h161 h155 h151 h154 H
      replace H := im hb196 H
      refine qn F (congrArg not (bfalse hb196)) fun a F => ?_
      refine qn F (congrArg not (bfalse hb196)) fun a F => ?_
      refine qn F (congrArg not (bfalse hb196)) fun a F => ?_
      refine qv F (r_pick_t F rfl (congrArg not (bfalse hb196)) rfl) fun a F => ?_
      refine qm F fun a F => ?_
      refine qn F rfl fun a F => ?_
      refine qn F rfl fun a F => ?_
      refine qn F rfl fun a F => ?_
      refine qn F rfl fun a F => ?_
      refine qv F (r_pick_t F rfl rfl rfl) fun a F => ?_
      refine nil ?_
      exact J206 c187 w188 a true (F.sub ⟨rfl, rfl, rfl, trivial⟩) E B h161 h155 h151 h154 H
     as_aux_lemma =>
     replace H := im hb193 H
     refine qn F (congrArg not (bfalse hb193)) fun a F => ?_
     refine qv F (r_pick_t F rfl (congrArg not (bfalse hb193)) rfl) fun a F => ?_
     refine qm F fun a F => ?_
     refine qn F rfl fun a F => ?_
     refine qv F (r_pick_t F rfl rfl rfl) fun a F => ?_
     refine qm F fun a F => ?_
     refine qn F rfl fun a F => ?_
     refine qn F rfl fun a F => ?_
     refine qn F rfl fun a F => ?_
     refine qv F (r_pick_t F rfl rfl rfl) fun a F => ?_
     refine qm F fun a F => ?_
     refine qn F rfl fun a F => ?_
     refine qn F rfl fun a F => ?_
     refine qn F rfl fun a F => ?_
     refine qv F (r_pick_t F rfl rfl rfl) fun a F => ?_
     refine qm F fun a F => ?_
     refine qn F rfl fun a F => ?_
     refine qn F rfl fun a F => ?_
     refine qn F rfl fun a F => ?_
     refine qn F rfl fun a F => ?_
     refine qv F (r_pick_t F rfl rfl rfl) fun a F => ?_
     as_aux_lemma =>
     refine nil ?_
     exact J206 c187 w188 a true (F.sub ⟨rfl, rfl, rfl, trivial⟩) E B h161 h155 h151 h154 H
    replace H := im hb192 H
    refine qn F (congrArg not (dz hb192)) fun a F => ?_
    refine qn F (congrArg not (dz hb192)) fun a F => ?_
    refine qv F (r_pick_t F rfl (congrArg not (dz hb192)) rfl) fun a F => ?_
    refine qm F fun a F => ?_
    refine qn F rfl fun a F => ?_
    refine qv F (r_pick_t F rfl rfl rfl) fun a F => ?_
    refine qm F fun a F => ?_
    refine qn F rfl fun a F => ?_
    refine qv F (r_pick_t F rfl rfl rfl) fun a F => ?_
    refine qm F fun a F => ?_
    refine qn F rfl fun a F => ?_
    refine qn F rfl fun a F => ?_
    refine qn F rfl fun a F => ?_
    refine qv F (r_pick_t F rfl rfl rfl) fun a F => ?_
    refine qm F fun a F => ?_
    refine qn F rfl fun a F => ?_
    refine qn F rfl fun a F => ?_
    refine qn F rfl fun a F => ?_
    refine qv F (r_pick_t F rfl rfl rfl) fun a F => ?_
    as_aux_lemma =>
    refine qm F fun a F => ?_
    refine qn F rfl fun a F => ?_
    refine qn F rfl fun a F => ?_
    refine qn F rfl fun a F => ?_
    refine qn F rfl fun a F => ?_
    refine qv F (r_pick_t F rfl rfl rfl) fun a F => ?_
    refine nil ?_
    exact J206 c187 w188 a true (F.sub ⟨rfl, rfl, rfl, trivial⟩) E B h161 h155 h151 h154 H
   replace H := im hb184 H
   refine qn F (congrArg not (dz hb184)) fun a F => ?_
   refine qn F (congrArg not (dz hb184)) fun a F => ?_
   refine qn F (congrArg not (dz hb184)) fun a F => ?_
   refine qv F (r_pick_t F rfl (congrArg not (dz hb184)) rfl) fun a F => ?_
   refine qm F fun a F => ?_
   refine qn F rfl fun a F => ?_
   refine qn F rfl fun a F => ?_
   refine qv F (r_pick_t F rfl rfl rfl) fun a F => ?_
   refine qm F fun a F => ?_
   refine qn F rfl fun a F => ?_
   refine qv F (r_pick_t F rfl rfl rfl) fun a F => ?_
   refine qm F fun a F => ?_
   refine qn F rfl fun a F => ?_
   as_aux_lemma =>
   refine qv F (r_pick_t F rfl rfl rfl) fun a F => ?_
   refine qm F fun a F => ?_
   refine qn F rfl fun a F => ?_
   refine qn F rfl fun a F => ?_
   refine qn F rfl fun a F => ?_
   refine qv F (r_pick_t F rfl rfl rfl) fun a F => ?_
   refine qm F fun a F => ?_
   refine qn F rfl fun a F => ?_
   refine qn F rfl fun a F => ?_
   refine qn F rfl fun a F => ?_
   refine qv F (r_pick_t F rfl rfl rfl) fun a F => ?_
   refine qm F fun a F => ?_
   refine qn F rfl fun a F => ?_
   refine qn F rfl fun a F => ?_
   refine qn F rfl fun a F => ?_
   refine qn F rfl fun a F => ?_
   refine qv F (r_pick_t F rfl rfl rfl) fun a F => ?_
   refine nil ?_
   exact J206 c179 w180 a true (F.sub ⟨rfl, rfl, rfl, trivial⟩) E B h161 h155 h151 h154 H
  replace H := im hb176 H
  refine qn F (congrArg not (dz hb176)) fun a F => ?_
  refine qn F (congrArg not (dz hb176)) fun a F => ?_
  as_aux_lemma =>
  refine qn F (congrArg not (dz hb176)) fun a F => ?_
  refine qv F (r_pick_t F rfl (congrArg not (dz hb176)) rfl) fun a F => ?_
  refine qm F fun a F => ?_
  refine qn F rfl fun a F => ?_
  refine qn F rfl fun a F => ?_
  refine qn F rfl fun a F => ?_
  refine qv F (r_pick_t F rfl rfl rfl) fun a F => ?_
  refine qm F fun a F => ?_
  refine qn F rfl fun a F => ?_
  refine qn F rfl fun a F => ?_
  refine qv F (r_pick_t F rfl rfl rfl) fun a F => ?_
  refine qm F fun a F => ?_
  refine qn F rfl fun a F => ?_
  refine qv F (r_pick_t F rfl rfl rfl) fun a F => ?_
  refine qm F fun a F => ?_
  refine qn F rfl fun a F => ?_
  refine qv F (r_pick_t F rfl rfl rfl) fun a F => ?_
  refine qm F fun a F => ?_
  refine qn F rfl fun a F => ?_
  refine qn F rfl fun a F => ?_
  refine qn F rfl fun a F => ?_
  refine qv F (r_pick_t F rfl rfl rfl) fun a F => ?_
  as_aux_lemma =>
  refine qm F fun a F => ?_
  refine qn F rfl fun a F => ?_
  refine qn F rfl fun a F => ?_
  refine qn F rfl fun a F => ?_
  refine qv F (r_pick_t F rfl rfl rfl) fun a F => ?_
  refine qm F fun a F => ?_
  refine qn F rfl fun a F => ?_
  refine qn F rfl fun a F => ?_
  refine qn F rfl fun a F => ?_
  refine qn F rfl fun a F => ?_
  refine qv F (r_pick_t F rfl rfl rfl) fun a F => ?_
  refine nil ?_
  exact J206 c171 w172 a true (F.sub ⟨rfl, rfl, rfl, trivial⟩) E B h161 h155 h151 h154 H
 refine reg ?_
 refine qm F fun a F => ?_
 refine qv F (r_peqlA F Try.underlying24 rfl rfl (SH.isNone h10)) fun a F => ?_
 refine qm F fun a F => ?_
 by_cases hb14 : (Option.isNone t3) = true
 ·replace H := ip hb14 H
  refine qn F hb14 fun a F => ?_
  refine qn F hb14 fun a F => ?_
  refine qn F hb14 fun a F => ?_
  refine qn F hb14 fun a F => ?_
  as_aux_lemma =>
  refine qn F hb14 fun a F => ?_
  refine qv F (r_pick_t F rfl hb14 rfl) fun a F => ?_
  refine qm F fun a F => ?_
  refine qn F rfl fun a F => ?_
  refine qn F rfl fun a F => ?_
  refine qn F rfl fun a F => ?_
  refine qv F (r_pick_t F rfl rfl rfl) fun a F => ?_
  refine nil ?_
  exact J48 c5 w6 a true (F.sub ⟨rfl, rfl, trivial⟩) E B h10 H
 replace H := im hb14 H
 refine qy F (bfalse hb14) ?_
 refine qm F fun a F => ?_
 obtain ⟨t15, q16, H⟩ := bind_some H
 refine qy F (bfalse hb14) ?_
 refine qc F Try.func21 (shard_Shard_Export.calls k (m := m + 8) (pl hm0) B h10 lm ⟨lm, mm⟩ _ q16) ?_
 rintro e w18 ⟨c17, A21, C22, rfl, E19, B20, h23⟩
 refine ⟨_, rfl, fun a F => ?_⟩
 have B := B20
 replace h10 := h10.ev E19 nq nq nq
 replace E := E.trans E19 nx
 refine qy F (bfalse hb14) ?_
 refine q_eff F rfl rfl (by decide) (e_buildSlice (n := 4) (e := 5) (c := c17) (k := (Kint .u8)) (i := 0) F [(0, .int .u8 2), (1, .int .u8 0), (2, .int .u8 0), (3, .int .u8 0)] [.int .u8 2, .int .u8 0, .int .u8 0, .int .u8 0] ([2, 0, 0, 0] : List Int) (by exact ⟨rfl, rfl, rfl, rfl, rfl, rfl, rfl, rfl, trivial⟩) (fun w => by kernel_rfl) rfl (by decide) rfl ⟨rfl, rfl, rfl, rfl, trivial⟩ (fun q => q) 0) ?_
 rintro v w26 a ⟨c25, A27, C28, rfl, E29, h30, B31⟩ F
 as_aux_lemma =>
 replace B := B31 _ B (pl hm0)
 replace h10 := h10.ev E29 nq nq nq
 replace h23 := h23.ev E29 nq nq
 replace E := E.trans E29 nx
 obtain ⟨t32, q33, H⟩ := bind_some H
 refine qy F (bfalse hb14) ?_
 refine qc F Try.func23 (haulagelaw14_same.calls k (m := m + 8) (pl hm0) B h23 h30.r _ q33) ?_
 rintro e w35 ⟨c34, rfl, E36, B37⟩
 refine ⟨_, rfl, fun a F => ?_⟩
 have B := B37
 replace h10 := h10.ev E36 nq nq nq
 replace E := E.trans E36 nx
 refine qy F (bfalse hb14) ?_
 refine qv F (r_not F rfl) fun a F => ?_
 refine qv F (r_pick_f F rfl (bfalse hb14) rfl) fun a F => ?_
 refine qm F fun a F => ?_
 by_cases hb39 : t32 = true
 ·replace H := ip hb39 H
  refine qy F (congrArg not hb39) ?_
  refine qm F fun a F => ?_
  obtain ⟨t40, q41, H⟩ := bind_some H
  refine qy F (congrArg not hb39) ?_
  refine qc F Try.func32 (shard_Shard_Size.calls k (m := m + 8) (pl hm0) B h10 lm ⟨lm, mm⟩ _ q41) ?_
  rintro e w43 ⟨c42, rfl, E44, B45⟩
  as_aux_lemma =>
  refine ⟨_, rfl, fun a F => ?_⟩
  have B := B45
  replace h10 := h10.ev E44 nq nq nq
  replace E := E.trans E44 nx
  refine qy F (congrArg not hb39) ?_
  refine qv F (r_neq F rfl rfl) fun a F => ?_
  refine qv F (r_pick_f F rfl (congrArg not hb39) rfl) fun a F => ?_
  refine nil ?_
  exact J48 c42 w43 a (!decide (t40 = 4)) (F.sub ⟨rfl, rfl, trivial⟩) E B h10 H
 replace H := im hb39 H
 refine qn F (congrArg not (bfalse hb39)) fun a F => ?_
 refine qn F (congrArg not (bfalse hb39)) fun a F => ?_
 refine qn F (congrArg not (bfalse hb39)) fun a F => ?_
 refine qv F (r_pick_t F rfl (congrArg not (bfalse hb39)) rfl) fun a F => ?_
 refine nil ?_
 exact J48 c34 w35 a true (F.sub ⟨rfl, rfl, trivial⟩) E B h10 H
theorem seal_FNV.calls (k : Nat) {m : Nat} {c0 : Nat → Nat} {w0 : World} {j5 : Nat} {j6 : Nat} {A2 : Option Addr} {C3 : Nat} {a1 : List (List Int)} (hm0 : 0 < m) (B0 : CB m c0 w0) (h4 : SL false (Kslice (Kint .u8)) j5 j6 c0 w0 A2 C3 a1) (bj5 : j5 < m) (bj6 : j6 < m) (r : Int) (H : seal_FNV.f k a1 = some r) : Calls Try.prog 55 #[.slice A2 a1.length C3] w0 (fun e w_ => ∃ (c_ : Nat → Nat), e = .returned (.int .u64 r) ∧ Ev (fun x => False) c0 w0 c_ w_ ∧ CB m c_ w_) := by
 unfold seal_FNV.f at H
 have B := B0.mono (show m ≤ m + 1 by omega)
 have E : Ev (fun x => False ∨ m ≤ x) c0 w0 c0 w0 := Ev.refl
 refine enter (N := 28) (l := [.slice A2 a1.length C3]) Try.func55 rfl rfl (nb rfl) fun a F => ?_
 refine wp_seq_k fun K7 hK7 => reg ?_
 refine qa F fun a F => ?_
 refine nil (hK7 _ _ ?_)
 refine wp_seq_k fun K8 hK8 => reg ?_
 refine qa F fun a F => ?_
 refine nil (hK8 _ _ ?_)
 refine wp_seq_k fun K9 hK9 => ?_
 refine wp_seq_k fun K10 hK10 => reg ?_
 refine qm F fun a F => ?_
 refine qv F (r_lensl F Try.underlying60 rfl) fun a F => ?_
 refine qm F fun a F => ?_
 refine nil (hK10 _ _ ?_)
 refine wp_block ?_
 obtain ⟨x22, HL, HR21⟩ := bind_some H
 have J74 : ∀ (c75 : Nat → Nat) (w76 : World) (a : Act) (i73 : Int), Fr a 28 [(3, .int .u64 i73)] → Ev (fun x => False ∨ m ≤ x) c0 w0 c75 w76 → CB (m + 1) c75 w76 → seal_FNV.j4 i73 = some r → K9 a w76 := by
  intro c75 w76 a i73 F E B  H
  unfold seal_FNV.j4 at H
  refine hK9 _ _ ?_
  refine wp_seq_k fun K77 hK77 => reg ?_
  refine qm F fun a F => ?_
  refine qa F fun a F => ?_
  refine nil (hK77 _ _ ?_)
  refine wp_ret ?_
  replace H := si H
  subst H
  refine out1 F rfl rfl ?_
  exact ⟨cf (fun x_ => if x_ < m then x_ else 0) c75, rfl, E.lv B0, cfb⟩
 refine loop_fuel (I := fun n a w => ∃ (i11 : Int) (i12 : Int) (c : Nat → Nat), Fr a 28 [(3, .int .u64 i11), (8, .slice A2 a1.length C3), (9, .int .i64 (a1.length : Int)), (10, .int .i64 i12)] ∧ Ev (fun x => False ∨ m ≤ x) c0 w0 c w ∧ CB (m + 1) c w ∧ SL false (Kslice (Kint .u8)) j5 j6 c w A2 C3 a1 ∧ loop (fun (s_ : Int × Int) => seal_FNV.b3 k a1 s_.1 s_.2) n (i11, i12) = some x22) (k := k) ⟨14695981039346656037, 0, c0, F.sub ⟨rfl, rfl, rfl, rfl, trivial⟩, E, B, h4, HL⟩ ?_
 clear HL H E F B
 intro n19 X15 hX15 a w14 ⟨i11, i12, c13, F, E, B, h4, HL⟩
 obtain ⟨n20, ctl18, rfl, HB, HN16, HD17⟩ := loop_some HL
 have H : seal_FNV.b3 k a1 i11 i12 = some ctl18 := HB
 clear HB HL
 unfold seal_FNV.b3 at H
 refine wp_seq_k fun K23 hK23 => reg ?_
 refine qv F (r_lss F rfl rfl) fun a F => ?_
 refine nil (hK23 _ _ ?_)
 refine wp_seq_k fun K24 hK24 => ?_
 by_cases hb25 : i12 < (a1.length : Int)
 ·replace H := ip hb25 H
  refine wp_cond_true (fb F (dt hb25)) (wp_skip (hK24 _ _ ?_))
  refine wp_seq_k fun K26 hK26 => ?_
  refine wp_block ?_
  refine wp_seq_k fun K27 hK27 => reg ?_
  replace H := ifN H
  obtain ⟨g28, H⟩ := H
  obtain ⟨ad29, cs30, e31, h32, r33⟩ := SL.at h4 i12 g28.1 g28.2
  obtain ⟨A34, C35, rfl, h36⟩ := r33
  replace h36 := SL.fl (i' := 0) h36 (fun q => q)
  obtain ⟨qa37, qqa37⟩ : ∃ q, q = (ad29.add (i12.toNat * 1)) := ⟨_, rfl⟩
  have h32 : AT false j5 c13 w14 qa37 [.slice A34 (rd a1 i12).length C35] := by rw [qqa37]; exact h32
  refine qv F (r_indexAddr' F Try.underlying60 sz_28 rfl rfl g28.1 g28.2 e31 qqa37) fun a F => ?_
  refine qv F (r_load F rfl ag_28 (AT.cell0 h32 rfl)) fun a F => ?_
  refine qa F fun a F => ?_
  refine nil (hK27 _ _ ?_)
  refine wp_seq_k fun K39 hK39 => reg ?_
  refine qm F fun a F => ?_
  refine qv F (r_lensl F Try.underlying28 rfl) fun a F => ?_
  refine qm F fun a F => ?_
  refine nil (hK39 _ _ ?_)
  refine wp_block ?_
  obtain ⟨x51, HL, HR50⟩ := bind_some H
  have J68 : ∀ (c69 : Nat → Nat) (w70 : World) (a : Act) (i67 : Int), Fr a 28 [(3, .int .u64 i67), (8, .slice A2 a1.length C3), (9, .int .i64 (a1.length : Int)), (10, .int .i64 i12)] → Ev (fun x => False ∨ m ≤ x) c0 w0 c69 w70 → CB (m + 1) c69 w70 → SL false (Kslice (Kint .u8)) j5 j6 c69 w70 A2 C3 a1 → seal_FNV.j2 i12 i67 = some ctl18 → K26 a w70 := by
   intro c69 w70 a i67 F E B h4 H
   unfold seal_FNV.j2 at H
   refine hK26 _ _ ?_
   refine reg ?_
   refine qv F (r_add F rfl rfl) fun a F => ?_
   refine qm F fun a F => ?_
   refine nil ?_
   replace H := HN16 _ (si H).symm
   exact hX15 _ _ _ (Nat.lt_succ_self _) ⟨i67, (IntKind.i64.wrap (i12 + 1)), c69, F.sub ⟨rfl, rfl, rfl, rfl, trivial⟩, E, B, h4, H⟩
  refine loop_fuel (I := fun n a w => ∃ (i40 : Int) (i41 : Int) (c : Nat → Nat), Fr a 28 [(3, .int .u64 i40), (8, .slice A2 a1.length C3), (9, .int .i64 (a1.length : Int)), (10, .int .i64 i12), (14, .slice A34 (rd a1 i12).length C35), (15, .int .i64 ((rd a1 i12).length : Int)), (16, .int .i64 i41)] ∧ Ev (fun x => False ∨ m ≤ x) c0 w0 c w ∧ CB (m + 1) c w ∧ SL false (Kslice (Kint .u8)) j5 j6 c w A2 C3 a1 ∧ SL false (Kint .u8) j6 0 c w A34 C35 (rd a1 i12) ∧ loop (fun (s_ : Int × Int) => seal_FNV.b1 a1 i12 s_.1 s_.2) n (i40, i41) = some x51) (k := k) ⟨i11, 0, c13, F.sub ⟨rfl, rfl, rfl, rfl, rfl, rfl, rfl, trivial⟩, E, B, h4, h36, HL⟩ ?_
  clear HL H E F B
  intro n48 X44 hX44 a w43 ⟨i40, i41, c42, F, E, B, h4, h36, HL⟩
  obtain ⟨n49, ctl47, rfl, HB, HN45, HD46⟩ := loop_some HL
  have H : seal_FNV.b1 a1 i12 i40 i41 = some ctl47 := HB
  clear HB HL
  unfold seal_FNV.b1 at H
  refine wp_seq_k fun K52 hK52 => reg ?_
  refine qv F (r_lss F rfl rfl) fun a F => ?_
  refine nil (hK52 _ _ ?_)
  refine wp_seq_k fun K53 hK53 => ?_
  by_cases hb54 : i41 < ((rd a1 i12).length : Int)
  ·replace H := ip hb54 H
   refine wp_cond_true (fb F (dt hb54)) (wp_skip (hK53 _ _ ?_))
   refine wp_seq_k fun K55 hK55 => ?_
   refine wp_block ?_
   refine wp_seq_k fun K56 hK56 => reg ?_
   replace H := ifN H
   obtain ⟨g57, H⟩ := H
   obtain ⟨ad58, cs59, e60, h61, r62⟩ := SL.at h36 i41 g57.1 g57.2
   obtain rfl : cs59 = [.int .u8 (rd (rd a1 i12) i41)] := r62
   obtain ⟨qa63, qqa63⟩ : ∃ q, q = (ad58.add (i41.toNat * 1)) := ⟨_, rfl⟩
   have h61 : AT false j6 c42 w43 qa63 [.int .u8 (rd (rd a1 i12) i41)] := by rw [qqa63]; exact h61
   refine qv F (r_indexAddr' F Try.underlying28 sz_5 rfl rfl g57.1 g57.2 e60 qqa63) fun a F => ?_
   refine qv F (r_load F rfl ag_5 (AT.cell0 h61 rfl)) fun a F => ?_
   refine qa F fun a F => ?_
   refine nil (hK56 _ _ ?_)
   refine reg ?_
   refine qm F fun a F => ?_
   refine qm F fun a F => ?_
   refine qv F (r_convi F Try.underlying55 rfl rfl) fun a F => ?_
   refine qv F (r_xor F rfl rfl) fun a F => ?_
   refine qv F (r_mul F rfl rfl) fun a F => ?_
   refine qa F fun a F => ?_
   refine nil (hK55 _ _ ?_)
   replace F : Fr a 28 [(3, .int .u64 (IntKind.u64.wrap ((bxor .u64 i40 (IntKind.u64.wrap (rd (rd a1 i12) i41))) * 1099511628211))), (8, .slice A2 a1.length C3), (9, .int .i64 (a1.length : Int)), (10, .int .i64 i12), (14, .slice A34 (rd a1 i12).length C35), (15, .int .i64 ((rd a1 i12).length : Int)), (16, .int .i64 i41)] := F.sub ⟨rfl, rfl, rfl, rfl, rfl, rfl, rfl, trivial⟩
   refine reg ?_
   refine qv F (r_add F rfl rfl) fun a F => ?_
   refine qm F fun a F => ?_
   refine nil ?_
   replace H := HN45 _ (si H).symm
   exact hX44 _ _ _ (Nat.lt_succ_self _) ⟨(IntKind.u64.wrap ((bxor .u64 i40 (IntKind.u64.wrap (rd (rd a1 i12) i41))) * 1099511628211)), (IntKind.i64.wrap (i41 + 1)), c42, F.sub ⟨rfl, rfl, rfl, rfl, rfl, rfl, rfl, trivial⟩, E, B, h4, h36, H⟩
  replace H := im hb54 H
  refine wp_cond_false (fb F (dz hb54)) ?_
  refine wp_exit ?_
  refine thenE ?_
  refine thenE ?_
  refine inbE ?_
  have hx_ := HD46 _ (si H).symm
  have H := HR50
  rw [← hx_] at H
  exact J68 c42 w43 a i40 (F.sub ⟨rfl, rfl, rfl, rfl, trivial⟩) E B h4 H
 replace H := im hb25 H
 refine wp_cond_false (fb F (dz hb25)) ?_
 refine wp_exit ?_
 refine thenE ?_
 refine thenE ?_
 refine inbE ?_
 have hx_ := HD17 _ (si H).symm
 have H := HR21
 rw [← hx_] at H
 exact J74 c13 w14 a i11 (F.sub ⟨rfl, trivial⟩) E B  H
theorem merkle_bucket.calls (k : Nat) {m : Nat} {c0 : Nat → Nat} {w0 : World} {A2 : Option Addr} {C3 : Nat} {a1 : List Int} (hm0 : 0 < m) (B0 : CB m c0 w0) (h4 : SL false (Kint .u8) 0 0 c0 w0 A2 C3 a1) (r : Int) (H : merkle_bucket.f k a1 = some r) : Calls Try.prog 73 #[.slice A2 a1.length C3] w0 (fun e w_ => ∃ (c_ : Nat → Nat), e = .returned (.int .i64 r) ∧ Ev (fun x => False) c0 w0 c_ w_ ∧ CB m c_ w_) := by
 unfold merkle_bucket.f at H
 have B := B0.mono (show m ≤ m + 1 by omega)
 have E : Ev (fun x => False ∨ m ≤ x) c0 w0 c0 w0 := Ev.refl
 refine enter (N := 8) (l := [.slice A2 a1.length C3]) Try.func73 rfl rfl (nb rfl) fun a F => ?_
 refine wp_seq_k fun K5 hK5 => reg ?_
 refine qa F fun a F => ?_
 refine nil (hK5 _ _ ?_)
 refine wp_seq_k fun K6 hK6 => reg ?_
 refine qm F fun a F => ?_
 refine q_eff F rfl rfl (by decide) (e_buildSlice (n := 1) (e := 28) (c := c0) (k := (Kslice (Kint .u8))) (i := 0) F [(0, .slice A2 a1.length C3)] [.slice A2 a1.length C3] ([a1] : List (List Int)) (by exact ⟨rfl, rfl, trivial⟩) (fun w => by kernel_rfl) rfl (by decide) rfl ⟨⟨A2, C3, rfl, (SL.fl h4 (fun q => q))⟩, trivial⟩ (fun q => q) 0) ?_
 rintro v w8 a ⟨c7, A9, C10, rfl, E11, h12, B13⟩ F
 replace B := B13 _ B (pl hm0)
 replace E := E.trans E11 nx
 obtain ⟨t14, q15, H⟩ := bind_some H
 refine qc F Try.func55 (seal_FNV.calls k (m := m + 1) (pl hm0) B h12.r (pl hm0) (pl hm0) _ q15) ?_
 rintro e w17 ⟨c16, rfl, E18, B19⟩
 refine ⟨_, rfl, fun a F => ?_⟩
 have B := B19
 replace E := E.trans E18 nx
 refine qv F (r_convi F Try.underlying5 rfl rfl) fun a F => ?_
 refine qv F (r_convi F Try.underlying3 rfl rfl) fun a F => ?_
 refine qa F fun a F => ?_
 refine nil (hK6 _ _ ?_)
 refine wp_ret ?_
 replace H := si H
 subst H
 refine out1 F rfl rfl ?_
 exact ⟨cf (fun x_ => if x_ < m then x_ else 0) c16, rfl, E.lv B0, cfb⟩
theorem merkle_cut.calls (k : Nat) {m : Nat} {c0 : Nat → Nat} {w0 : World} {j4 : Nat} {j5 : Nat} {p2 : Option Addr} {a1 : Option Wri} {a6 : Int} (hm0 : 0 < m) (B0 : CB m c0 w0) (h3 : WR j4 j5 c0 w0 p2 a1) (bj4 : j4 < m) (bj5 : j5 < m ∧ j5 ≠ j4) (r : Int) (H : merkle_cut.f k a1 a6 = some r) : Calls Try.prog 94 #[.pointer p2, .int .i64 a6] w0 (fun e w_ => ∃ (c_ : Nat → Nat), e = .returned (.int .u64 r) ∧ Ev (fun x => False) c0 w0 c_ w_ ∧ CB m c_ w_) := by
 unfold merkle_cut.f at H
 have B := B0.mono (show m ≤ m + 1 by omega)
 have E : Ev (fun x => False ∨ m ≤ x) c0 w0 c0 w0 := Ev.refl
 refine enter (N := 21) (l := [.pointer p2, .int .i64 a6]) Try.func94 rfl rfl (nb rfl) fun a F => ?_
 refine wp_seq_k fun K7 hK7 => reg ?_
 refine qa F fun a F => ?_
 refine nil (hK7 _ _ ?_)
 refine wp_seq_k fun K8 hK8 => reg ?_
 refine qm F fun a F => ?_
 obtain ⟨t9, q10, H⟩ := bind_some H
 refine qc F Try.func50 (parcel_Writer_Done.calls (m := m + 1) (pl hm0) B h3 (Nat.lt_add_right _ bj4) ⟨(Nat.lt_add_right _ bj5.1), bj5.2⟩ 0 (pl hm0) _ q10) ?_
 rintro e w12 ⟨c11, A15, C16, rfl, E13, B14, h17⟩
 refine ⟨_, rfl, fun a F => ?_⟩
 have B := B14
 replace E := E.trans E13 nx
 refine qm F fun a F => ?_
 refine qv F (r_extract F rfl rfl) fun a F => ?_
 refine qv F (r_extract F rfl rfl) fun a F => ?_
 refine qa F fun a F => ?_
 refine qa F fun a F => ?_
 refine nil (hK8 _ _ ?_)
 replace F : Fr a 21 [(1, .int .i64 a6), (5, .slice A15 t9.1.length C16)] := F.sub ⟨rfl, rfl, trivial⟩
 refine wp_seq_k fun K19 hK19 => reg ?_
 refine qm F fun a F => ?_
 refine q_eff F rfl rfl (by decide) (e_buildSlice (n := 1) (e := 28) (c := c11) (k := (Kslice (Kint .u8))) (i := 0) F [(0, .slice A15 t9.1.length C16)] [.slice A15 t9.1.length C16] ([t9.1] : List (List Int)) (by exact ⟨rfl, rfl, trivial⟩) (fun w => by kernel_rfl) rfl (by decide) rfl ⟨⟨A15, C16, rfl, (SL.fl h17.r (fun q => q))⟩, trivial⟩ (fun q => q) 0) ?_
 rintro v w21 a ⟨c20, A22, C23, rfl, E24, h25, B26⟩ F
 replace B := B26 _ B (pl hm0)
 replace E := E.trans E24 nx
 obtain ⟨t27, q28, H⟩ := bind_some H
 refine qc F Try.func55 (seal_FNV.calls k (m := m + 1) (pl hm0) B h25.r (pl hm0) (pl hm0) _ q28) ?_
 rintro e w30 ⟨c29, rfl, E31, B32⟩
 refine ⟨_, rfl, fun a F => ?_⟩
 have B := B32
 replace E := E.trans E31 nx
 refine qm F fun a F => ?_
 refine qv F (r_sub F rfl rfl) fun a F => ?_
 replace H := ifN H
 obtain ⟨g34, H⟩ := H
 refine qv F (r_shl F rfl rfl g34) fun a F => ?_
 refine qm F fun a F => ?_
 refine qv F (r_sub F rfl rfl) fun a F => ?_
 replace H := ifN H
 obtain ⟨g35, H⟩ := H
 refine qv F (r_shr F rfl rfl g35) fun a F => ?_
 refine qa F fun a F => ?_
 refine nil (hK19 _ _ ?_)
 replace F : Fr a 21 [(4, .int .u64 (shr .u64 (shl .u64 t27 (IntKind.i64.wrap (64 - a6))) (IntKind.i64.wrap (64 - a6))))] := F.sub ⟨rfl, trivial⟩
 refine wp_ret ?_
 replace H := si H
 subst H
 refine out1 F rfl rfl ?_
 exact ⟨cf (fun x_ => if x_ < m then x_ else 0) c29, rfl, E.lv B0, cfb⟩
theorem parcel_Writer_Int.calls (k : Nat) {m : Nat} {c0 : Nat → Nat} {w0 : World} {j4 : Nat} {j5 : Nat} {p2 : Option Addr} {a1 : Option Wri} {a6 : Int} (hm0 : 0 < m) (B0 : CB m c0 w0) (h3 : WR j4 j5 c0 w0 p2 a1) (bj4 : 0 < j4 ∧ j4 < m) (bj5 : 0 < j5 ∧ j5 < m ∧ j5 ≠ j4) (r : (Option Wri)) (H : parcel_Writer_Int.f k a1 a6 = some r) : Calls Try.prog 101 #[.pointer p2, .int .i64 a6] w0 (fun e w_ => ∃ (c_ : Nat → Nat), e = .returned (.tuple #[]) ∧ Ev (fun x => (x = j4 ∨ x = j5)) c0 w0 c_ w_ ∧ CB m c_ w_ ∧ WR j4 j5 c_ w_ p2 r) := by
 unfold parcel_Writer_Int.f at H
 have B := B0.mono (show m ≤ m + 1 by omega)
 have E : Ev (fun x => (x = j4 ∨ x = j5) ∨ m ≤ x) c0 w0 c0 w0 := Ev.refl
 refine enter (N := 13) (l := [.pointer p2, .int .i64 a6]) Try.func101 rfl rfl (nb rfl) fun a F => ?_
 refine reg ?_
 refine qm F fun a F => ?_
 refine qm F fun a F => ?_
 refine qv F (r_convi F Try.underlying55 rfl rfl) fun a F => ?_
 refine qv F (r_shl F rfl rfl (by decide)) fun a F => ?_
 refine qm F fun a F => ?_
 refine qv F (r_shr F rfl rfl (by decide)) fun a F => ?_
 refine qv F (r_convi F Try.underlying55 rfl rfl) fun a F => ?_
 refine qv F (r_xor F rfl rfl) fun a F => ?_
 obtain ⟨t7, q8, H⟩ := bind_some H
 refine qc F Try.func54 (parcel_Writer_Num.calls k (m := m + 1) (pl hm0) B h3 ⟨bj4.1, (Nat.lt_add_right _ bj4.2)⟩ ⟨bj5.1, (Nat.lt_add_right _ bj5.2.1), bj5.2.2⟩ _ q8) ?_
 rintro e w10 ⟨c9, rfl, E11, B12, h13⟩
 refine ⟨_, rfl, fun a F => ?_⟩
 have B := B12
 replace E := E.trans E11 (fun x (q : x = j4 ∨ x = j5) => q.elim (fun q => Or.inl (Or.inl q)) (fun q => Or.inl (Or.inr (q))))
 refine nil ?_
 replace H := si H
 subst H
 first | refine out0n F rfl ?_ | refine inbN (out0n F rfl ?_) | refine inbN (inbN (out0n F rfl ?_)) | refine inbN (inbN (inbN (out0n F rfl ?_)))
 exact ⟨cf (fun x_ => if x_ < m then x_ else 0) c9, rfl, E.lv B0, cfb, WR.rc h13 cfk cfk cfk⟩
theorem merkle_ofRow.calls (k : Nat) {m : Nat} {c0 : Nat → Nat} {w0 : World} {A2 : Option Addr} {C3 : Nat} {A5 : Option Addr} {C6 : Nat} {a1 : api_Row} {a8 : Int} (hm0 : 0 < m) (B0 : CB m c0 w0) (h4 : SL false (Kint .u8) 0 0 c0 w0 A2 C3 a1.Key) (h7 : SL false (Kint .u8) 0 0 c0 w0 A5 C6 a1.Value) (r : Int) (H : merkle_ofRow.f k a1 a8 = some r) : Calls Try.prog 93 #[.agg #[.slice A2 a1.Key.length C3, .slice A5 a1.Value.length C6, .int .i64 a1.Rev], .int .i64 a8] w0 (fun e w_ => ∃ (c_ : Nat → Nat), e = .returned (.int .u64 r) ∧ Ev (fun x => False) c0 w0 c_ w_ ∧ CB m c_ w_) := by
 unfold merkle_ofRow.f at H
 have B := B0.mono (show m ≤ m + 4 by omega)
 have E : Ev (fun x => False ∨ m ≤ x) c0 w0 c0 w0 := Ev.refl
 refine enter (N := 32) (l := [.agg #[.slice A2 a1.Key.length C3, .slice A5 a1.Value.length C6, .int .i64 a1.Rev], .int .i64 a8]) Try.func93 rfl rfl (nb rfl) fun a F => ?_
 refine wp_seq_k fun K9 hK9 => reg ?_
 refine q_eff F rfl rfl (by decide) (e_box F (v := .agg #[.slice A2 a1.Key.length C3, .slice A5 a1.Value.length C6, .int .i64 a1.Rev]) rfl c0 (m + 1)) ?_
 rintro v w11 a ⟨c10, qa12, rfl, E13, h14, B15⟩ F
 replace B := B15 _ B lm
 replace h4 := h4.ev E13 nq nq
 replace h7 := h7.ev E13 nq nq
 replace E := E.trans E13 nx
 replace h14 : AT true (m + 1) c10 w11 qa12 [.slice A2 a1.Key.length C3, .slice A5 a1.Value.length C6, .int .i64 a1.Rev] := h14
 refine qa F fun a F => ?_
 refine nil (hK9 _ _ ?_)
 refine wp_seq_k fun K17 hK17 => reg ?_
 refine qf F ff_93_0 fun a F => ?_
 refine qv F (r_load F rfl ag_28 (AT.cell h14 rfl)) fun a F => ?_
 refine qv F (r_lensl F Try.underlying28 rfl) fun a F => ?_
 refine qf F ff_93_1 fun a F => ?_
 refine qv F (r_load F rfl ag_28 (AT.cell h14 rfl)) fun a F => ?_
 refine qv F (r_lensl F Try.underlying28 rfl) fun a F => ?_
 refine qv F (r_add F rfl rfl) fun a F => ?_
 refine qv F (r_add F rfl rfl) fun a F => ?_
 obtain ⟨t18, q19, H⟩ := bind_some H
 refine qc F Try.func46 (parcel_New.calls (m := m + 4) (pl hm0) B (m + 2) lm (m + 3) lm _ q19) ?_
 rintro e w21 ⟨c20, p24, rfl, E22, B23, h25⟩
 refine ⟨_, rfl, fun a F => ?_⟩
 have B := B23
 replace h4 := h4.ev E22 nq nq
 replace h7 := h7.ev E22 nq nq
 replace h14 := h14.ev E22 nq
 replace E := E.trans E22 nx
 refine qa F fun a F => ?_
 refine nil (hK17 _ _ ?_)
 replace F : Fr a 32 [(1, .int .i64 a8), (2, .pointer (some qa12)), (5, .pointer p24)] := F.sub ⟨rfl, rfl, rfl, trivial⟩
 refine wp_seq_k fun K27 hK27 => reg ?_
 refine qm F fun a F => ?_
 obtain ⟨t28, q29, H⟩ := bind_some H
 refine qc F Try.func71 (parcel_Writer_Byte.calls (m := m + 4) (pl hm0) B h25 ⟨(pl hm0), lm⟩ ⟨(pl hm0), lm, mm⟩ _ q29) ?_
 rintro e w31 ⟨c30, rfl, E32, B33, h34⟩
 refine ⟨_, rfl, fun a F => ?_⟩
 have B := B33
 replace h4 := h4.ev E32 (nor ne_zm ne_zm) (nor ne_zm ne_zm)
 replace h7 := h7.ev E32 (nor ne_zm ne_zm) (nor ne_zm ne_zm)
 replace h14 := h14.ev E32 (nor mm mm)
 replace E := E.trans E32 lc2
 refine nil (hK27 _ _ ?_)
 refine wp_seq_k fun K36 hK36 => reg ?_
 refine qm F fun a F => ?_
 refine qf F ff_93_0 fun a F => ?_
 refine qv F (r_load F rfl ag_28 (AT.cell h14 rfl)) fun a F => ?_
 obtain ⟨t37, q38, H⟩ := bind_some H
 refine qc F Try.func47 (parcel_Writer_Text.calls k (m := m + 4) (pl hm0) B h34 h4 ⟨(pl hm0), lm⟩ ⟨(pl hm0), lm, mm⟩ _ q38) ?_
 rintro e w40 ⟨c39, rfl, E41, B42, h43⟩
 refine ⟨_, rfl, fun a F => ?_⟩
 have B := B42
 replace h7 := h7.ev E41 (nor ne_zm ne_zm) (nor ne_zm ne_zm)
 replace h14 := h14.ev E41 (nor mm mm)
 replace E := E.trans E41 lc2
 refine nil (hK36 _ _ ?_)
 refine wp_seq_k fun K45 hK45 => reg ?_
 refine qm F fun a F => ?_
 refine qf F ff_93_1 fun a F => ?_
 refine qv F (r_load F rfl ag_28 (AT.cell h14 rfl)) fun a F => ?_
 obtain ⟨t46, q47, H⟩ := bind_some H
 refine qc F Try.func47 (parcel_Writer_Text.calls k (m := m + 4) (pl hm0) B h43 h7 ⟨(pl hm0), lm⟩ ⟨(pl hm0), lm, mm⟩ _ q47) ?_
 rintro e w49 ⟨c48, rfl, E50, B51, h52⟩
 refine ⟨_, rfl, fun a F => ?_⟩
 have B := B51
 replace h14 := h14.ev E50 (nor mm mm)
 replace E := E.trans E50 lc2
 refine nil (hK45 _ _ ?_)
 replace F : Fr a 32 [(1, .int .i64 a8), (2, .pointer (some qa12)), (5, .pointer p24)] := F.sub ⟨rfl, rfl, rfl, trivial⟩
 refine wp_seq_k fun K54 hK54 => reg ?_
 refine qm F fun a F => ?_
 refine qf F ff_93_2 fun a F => ?_
 refine qv F (r_load F rfl ag_3 (AT.cell h14 rfl)) fun a F => ?_
 obtain ⟨t55, q56, H⟩ := bind_some H
 refine qc F Try.func101 (parcel_Writer_Int.calls k (m := m + 4) (pl hm0) B h52 ⟨(pl hm0), lm⟩ ⟨(pl hm0), lm, mm⟩ _ q56) ?_
 rintro e w58 ⟨c57, rfl, E59, B60, h61⟩
 refine ⟨_, rfl, fun a F => ?_⟩
 have B := B60
 replace E := E.trans E59 lc2
 refine nil (hK54 _ _ ?_)
 refine wp_seq_k fun K63 hK63 => reg ?_
 refine qm F fun a F => ?_
 refine qm F fun a F => ?_
 obtain ⟨t64, q65, H⟩ := bind_some H
 refine qc F Try.func94 (merkle_cut.calls k (m := m + 4) (pl hm0) B h61 lm ⟨lm, mm⟩ _ q65) ?_
 rintro e w67 ⟨c66, rfl, E68, B69⟩
 refine ⟨_, rfl, fun a F => ?_⟩
 have B := B69
 replace E := E.trans E68 nx
 refine qa F fun a F => ?_
 refine nil (hK63 _ _ ?_)
 replace F : Fr a 32 [(4, .int .u64 t64)] := F.sub ⟨rfl, trivial⟩
 refine wp_ret ?_
 replace H := si H
 subst H
 refine out1 F rfl rfl ?_
 exact ⟨cf (fun x_ => if x_ < m then x_ else 0) c66, rfl, E.lv B0, cfb⟩
theorem parcel_downuint16.calls (k : Nat) {m : Nat} {c0 : Nat → Nat} {w0 : World} {j5 : Nat} {A2 : Option Addr} {C3 : Nat} {a1 : List Int} {a6 : Int} (hm0 : 0 < m) (B0 : CB m c0 w0) (h4 : SL true (Kint .u8) j5 0 c0 w0 A2 C3 a1) (bj5 : 0 < j5 ∧ j5 < m) (r : (List Int)) (H : parcel_downuint16.f k a1 a6 = some r) : Calls Try.prog 79 #[.slice A2 a1.length C3, .int .u16 a6] w0 (fun e w_ => ∃ (c_ : Nat → Nat), e = .returned (.tuple #[]) ∧ Ev (fun x => (x = j5)) c0 w0 c_ w_ ∧ CB m c_ w_ ∧ SL true (Kint .u8) j5 0 c_ w_ A2 C3 r ∧ r.length = a1.length) := by
 unfold parcel_downuint16.f at H
 have B := B0.mono (show m ≤ m + 1 by omega)
 have E : Ev (fun x => (x = j5) ∨ m ≤ x) c0 w0 c0 w0 := Ev.refl
 refine enter (N := 19) (l := [.slice A2 a1.length C3, .int .u16 a6]) Try.func79 rfl rfl (nb rfl) fun a F => ?_
 refine wp_seq_k fun K7 hK7 => reg ?_
 refine qm F fun a F => ?_
 refine qv F (r_lensl F Try.underlying28 rfl) fun a F => ?_
 refine qm F fun a F => ?_
 refine nil (hK7 _ _ ?_)
 refine wp_block ?_
 obtain ⟨x54, HL, HR53⟩ := bind_some H
 have J81 : ∀ (c82 : Nat → Nat) (w83 : World) (a : Act) (l80 : List Int), Fr a 19 [] → Ev (fun x => (x = j5) ∨ m ≤ x) c0 w0 c82 w83 → CB (m + 1) c82 w83 → SL true (Kint .u8) j5 0 c82 w83 A2 C3 l80 → parcel_downuint16.j2 a1 l80 = some r → (bodyPost Try.prog Try.f79 (fun e w_ => ∃ (c_ : Nat → Nat), e = .returned (.tuple #[]) ∧ Ev (fun x => (x = j5)) c0 w0 c_ w_ ∧ CB m c_ w_ ∧ SL true (Kint .u8) j5 0 c_ w_ A2 C3 r ∧ r.length = a1.length) .normal) a w83 := by
  intro c82 w83 a l80 F E B h79 H
  unfold parcel_downuint16.j2 at H
  replace H := ifN H
  obtain ⟨hl84, H⟩ := H
  replace H := si H
  subst H
  first | refine out0n F rfl ?_ | refine inbN (out0n F rfl ?_) | refine inbN (inbN (out0n F rfl ?_)) | refine inbN (inbN (inbN (out0n F rfl ?_)))
  exact ⟨cf (fun x_ => if x_ < m then x_ else 0) c82, rfl, E.lv B0, cfb, SL.rc h79 cfk cfk, hl84⟩
 refine loop_fuel (I := fun n a w => ∃ (l42 : List Int) (i43 : Int) (i44 : Int) (c : Nat → Nat), Fr a 19 [(0, .slice A2 l42.length C3), (1, .int .u16 i43), (6, .int .i64 (a1.length : Int)), (7, .int .i64 i44)] ∧ Ev (fun x => (x = j5) ∨ m ≤ x) c0 w0 c w ∧ CB (m + 1) c w ∧ SL true (Kint .u8) j5 0 c w A2 C3 l42 ∧ loop (fun (s_ : (List Int) × Int × Int) => parcel_downuint16.b1 a1 s_.1 s_.2.1 s_.2.2) n (l42, i43, i44) = some x54) (k := k) ⟨a1, a6, 0, c0, F.sub ⟨rfl, rfl, rfl, rfl, trivial⟩, E, B, h4, HL⟩ ?_
 clear HL H E F B
 intro n51 X47 hX47 a w46 ⟨l42, i43, i44, c45, F, E, B, h41, HL⟩
 obtain ⟨n52, ctl50, rfl, HB, HN48, HD49⟩ := loop_some HL
 have H : parcel_downuint16.b1 a1 l42 i43 i44 = some ctl50 := HB
 clear HB HL
 unfold parcel_downuint16.b1 at H
 refine wp_seq_k fun K55 hK55 => reg ?_
 refine qv F (r_lss F rfl rfl) fun a F => ?_
 refine nil (hK55 _ _ ?_)
 refine wp_seq_k fun K56 hK56 => ?_
 by_cases hb57 : i44 < (a1.length : Int)
 ·replace H := ip hb57 H
  refine wp_cond_true (fb F (dt hb57)) (wp_skip (hK56 _ _ ?_))
  refine wp_seq_k fun K58 hK58 => ?_
  refine wp_block ?_
  refine wp_seq_k fun K59 hK59 => reg ?_
  refine qm F fun a F => ?_
  refine qa F fun a F => ?_
  refine nil (hK59 _ _ ?_)
  refine wp_seq_k fun K60 hK60 => reg ?_
  refine qm F fun a F => ?_
  refine qm F fun a F => ?_
  refine qm F fun a F => ?_
  refine qv F (r_convi F Try.underlying5 rfl rfl) fun a F => ?_
  replace H := ifN H
  obtain ⟨g61, H⟩ := H
  obtain ⟨ad62, cs63, e64, h65, r66⟩ := SL.at h41 i44 g61.1 g61.2
  obtain rfl : cs63 = [.int .u8 (rd l42 i44)] := r66
  obtain ⟨qa67, qqa67⟩ : ∃ q, q = (ad62.add (i44.toNat * 1)) := ⟨_, rfl⟩
  have h65 : AT true j5 c45 w46 qa67 [.int .u8 (rd l42 i44)] := by rw [qqa67]; exact h65
  refine qv F (r_indexAddr' F Try.underlying28 sz_5 rfl rfl g61.1 g61.2 e64 qqa67) fun a F => ?_
  refine q_eff0 F rfl rfl (e_storeel0 (k := (Kint .u8)) F rfl rfl sz_5 h41 g61.1 g61.2 e64 qqa67 h65 rfl (nb rfl) rfl (IntKind.u8.wrap i43) rfl (ne_z bj5.1)) ?_
  rintro w69 a ⟨E70, h41, Z71⟩ F
  replace B := B.size Z71
  replace E := E.trans E70 (fun x (q : x = j5) => Or.inl (q))
  have hl72 : l42.length = (l42.set i44.toNat (IntKind.u8.wrap i43)).length := by simp
  replace F := F.sub (L' := [(0, .slice A2 (l42.set i44.toNat (IntKind.u8.wrap i43)).length C3), (1, .int .u16 i43), (4, .int .i64 i44), (6, .int .i64 (a1.length : Int)), (7, .int .i64 i44), (8, .bool (decide (i44 < (a1.length : Int)))), (9, .int .i64 i44), (10, .slice A2 (l42.set i44.toNat (IntKind.u8.wrap i43)).length C3), (11, .int .i64 i44), (12, .int .u16 i43), (13, .int .u8 (IntKind.u8.wrap i43))]) ⟨(by rw [← hl72]; rfl), rfl, rfl, rfl, rfl, rfl, rfl, (by rw [← hl72]; rfl), rfl, rfl, rfl, trivial⟩
  refine nil (hK60 _ _ ?_)
  refine reg ?_
  refine qm F fun a F => ?_
  refine qv F (r_shr F rfl rfl (by decide)) fun a F => ?_
  refine qv F (r_shr F rfl rfl (by decide)) fun a F => ?_
  refine qa F fun a F => ?_
  refine nil (hK58 _ _ ?_)
  replace F : Fr a 19 [(0, .slice A2 (l42.set i44.toNat (IntKind.u8.wrap i43)).length C3), (1, .int .u16 (shr .u16 (shr .u16 i43 4) 4)), (6, .int .i64 (a1.length : Int)), (7, .int .i64 i44)] := F.sub ⟨rfl, rfl, rfl, rfl, trivial⟩
  refine reg ?_
  refine qv F (r_add F rfl rfl) fun a F => ?_
  refine qm F fun a F => ?_
  refine nil ?_
  replace H := HN48 _ (si H).symm
  exact hX47 _ _ _ (Nat.lt_succ_self _) ⟨(l42.set i44.toNat (IntKind.u8.wrap i43)), (shr .u16 (shr .u16 i43 4) 4), (IntKind.i64.wrap (i44 + 1)), c45, F.sub ⟨rfl, rfl, rfl, rfl, trivial⟩, E, B, h41, H⟩
 replace H := im hb57 H
 refine wp_cond_false (fb F (dz hb57)) ?_
 refine wp_exit ?_
 refine thenE ?_
 refine thenE ?_
 refine inbE ?_
 have hx_ := HD49 _ (si H).symm
 have H := HR53
 rw [← hx_] at H
 exact J81 c45 w46 a l42 (F.sub trivial) E B h41 H
theorem parcel_downuint32.calls (k : Nat) {m : Nat} {c0 : Nat → Nat} {w0 : World} {j5 : Nat} {A2 : Option Addr} {C3 : Nat} {a1 : List Int} {a6 : Int} (hm0 : 0 < m) (B0 : CB m c0 w0) (h4 : SL true (Kint .u8) j5 0 c0 w0 A2 C3 a1) (bj5 : 0 < j5 ∧ j5 < m) (r : (List Int)) (H : parcel_downuint32.f k a1 a6 = some r) : Calls Try.prog 80 #[.slice A2 a1.length C3, .int .u32 a6] w0 (fun e w_ => ∃ (c_ : Nat → Nat), e = .returned (.tuple #[]) ∧ Ev (fun x => (x = j5)) c0 w0 c_ w_ ∧ CB m c_ w_ ∧ SL true (Kint .u8) j5 0 c_ w_ A2 C3 r ∧ r.length = a1.length) := by
 unfold parcel_downuint32.f at H
 have B := B0.mono (show m ≤ m + 1 by omega)
 have E : Ev (fun x => (x = j5) ∨ m ≤ x) c0 w0 c0 w0 := Ev.refl
 refine enter (N := 19) (l := [.slice A2 a1.length C3, .int .u32 a6]) Try.func80 rfl rfl (nb rfl) fun a F => ?_
 refine wp_seq_k fun K7 hK7 => reg ?_
 refine qm F fun a F => ?_
 refine qv F (r_lensl F Try.underlying28 rfl) fun a F => ?_
 refine qm F fun a F => ?_
 refine nil (hK7 _ _ ?_)
 refine wp_block ?_
 obtain ⟨x54, HL, HR53⟩ := bind_some H
 have J81 : ∀ (c82 : Nat → Nat) (w83 : World) (a : Act) (l80 : List Int), Fr a 19 [] → Ev (fun x => (x = j5) ∨ m ≤ x) c0 w0 c82 w83 → CB (m + 1) c82 w83 → SL true (Kint .u8) j5 0 c82 w83 A2 C3 l80 → parcel_downuint32.j2 a1 l80 = some r → (bodyPost Try.prog Try.f80 (fun e w_ => ∃ (c_ : Nat → Nat), e = .returned (.tuple #[]) ∧ Ev (fun x => (x = j5)) c0 w0 c_ w_ ∧ CB m c_ w_ ∧ SL true (Kint .u8) j5 0 c_ w_ A2 C3 r ∧ r.length = a1.length) .normal) a w83 := by
  intro c82 w83 a l80 F E B h79 H
  unfold parcel_downuint32.j2 at H
  replace H := ifN H
  obtain ⟨hl84, H⟩ := H
  replace H := si H
  subst H
  first | refine out0n F rfl ?_ | refine inbN (out0n F rfl ?_) | refine inbN (inbN (out0n F rfl ?_)) | refine inbN (inbN (inbN (out0n F rfl ?_)))
  exact ⟨cf (fun x_ => if x_ < m then x_ else 0) c82, rfl, E.lv B0, cfb, SL.rc h79 cfk cfk, hl84⟩
 refine loop_fuel (I := fun n a w => ∃ (l42 : List Int) (i43 : Int) (i44 : Int) (c : Nat → Nat), Fr a 19 [(0, .slice A2 l42.length C3), (1, .int .u32 i43), (6, .int .i64 (a1.length : Int)), (7, .int .i64 i44)] ∧ Ev (fun x => (x = j5) ∨ m ≤ x) c0 w0 c w ∧ CB (m + 1) c w ∧ SL true (Kint .u8) j5 0 c w A2 C3 l42 ∧ loop (fun (s_ : (List Int) × Int × Int) => parcel_downuint32.b1 a1 s_.1 s_.2.1 s_.2.2) n (l42, i43, i44) = some x54) (k := k) ⟨a1, a6, 0, c0, F.sub ⟨rfl, rfl, rfl, rfl, trivial⟩, E, B, h4, HL⟩ ?_
 clear HL H E F B
 intro n51 X47 hX47 a w46 ⟨l42, i43, i44, c45, F, E, B, h41, HL⟩
 obtain ⟨n52, ctl50, rfl, HB, HN48, HD49⟩ := loop_some HL
 have H : parcel_downuint32.b1 a1 l42 i43 i44 = some ctl50 := HB
 clear HB HL
 unfold parcel_downuint32.b1 at H
 refine wp_seq_k fun K55 hK55 => reg ?_
 refine qv F (r_lss F rfl rfl) fun a F => ?_
 refine nil (hK55 _ _ ?_)
 refine wp_seq_k fun K56 hK56 => ?_
 by_cases hb57 : i44 < (a1.length : Int)
 ·replace H := ip hb57 H
  refine wp_cond_true (fb F (dt hb57)) (wp_skip (hK56 _ _ ?_))
  refine wp_seq_k fun K58 hK58 => ?_
  refine wp_block ?_
  refine wp_seq_k fun K59 hK59 => reg ?_
  refine qm F fun a F => ?_
  refine qa F fun a F => ?_
  refine nil (hK59 _ _ ?_)
  refine wp_seq_k fun K60 hK60 => reg ?_
  refine qm F fun a F => ?_
  refine qm F fun a F => ?_
  refine qm F fun a F => ?_
  refine qv F (r_convi F Try.underlying5 rfl rfl) fun a F => ?_
  replace H := ifN H
  obtain ⟨g61, H⟩ := H
  obtain ⟨ad62, cs63, e64, h65, r66⟩ := SL.at h41 i44 g61.1 g61.2
  obtain rfl : cs63 = [.int .u8 (rd l42 i44)] := r66
  obtain ⟨qa67, qqa67⟩ : ∃ q, q = (ad62.add (i44.toNat * 1)) := ⟨_, rfl⟩
  have h65 : AT true j5 c45 w46 qa67 [.int .u8 (rd l42 i44)] := by rw [qqa67]; exact h65
  refine qv F (r_indexAddr' F Try.underlying28 sz_5 rfl rfl g61.1 g61.2 e64 qqa67) fun a F => ?_
  refine q_eff0 F rfl rfl (e_storeel0 (k := (Kint .u8)) F rfl rfl sz_5 h41 g61.1 g61.2 e64 qqa67 h65 rfl (nb rfl) rfl (IntKind.u8.wrap i43) rfl (ne_z bj5.1)) ?_
  rintro w69 a ⟨E70, h41, Z71⟩ F
  replace B := B.size Z71
  replace E := E.trans E70 (fun x (q : x = j5) => Or.inl (q))
  have hl72 : l42.length = (l42.set i44.toNat (IntKind.u8.wrap i43)).length := by simp
  replace F := F.sub (L' := [(0, .slice A2 (l42.set i44.toNat (IntKind.u8.wrap i43)).length C3), (1, .int .u32 i43), (4, .int .i64 i44), (6, .int .i64 (a1.length : Int)), (7, .int .i64 i44), (8, .bool (decide (i44 < (a1.length : Int)))), (9, .int .i64 i44), (10, .slice A2 (l42.set i44.toNat (IntKind.u8.wrap i43)).length C3), (11, .int .i64 i44), (12, .int .u32 i43), (13, .int .u8 (IntKind.u8.wrap i43))]) ⟨(by rw [← hl72]; rfl), rfl, rfl, rfl, rfl, rfl, rfl, (by rw [← hl72]; rfl), rfl, rfl, rfl, trivial⟩
  refine nil (hK60 _ _ ?_)
  refine reg ?_
  refine qm F fun a F => ?_
  refine qv F (r_shr F rfl rfl (by decide)) fun a F => ?_
  refine qv F (r_shr F rfl rfl (by decide)) fun a F => ?_
  refine qa F fun a F => ?_
  refine nil (hK58 _ _ ?_)
  replace F : Fr a 19 [(0, .slice A2 (l42.set i44.toNat (IntKind.u8.wrap i43)).length C3), (1, .int .u32 (shr .u32 (shr .u32 i43 4) 4)), (6, .int .i64 (a1.length : Int)), (7, .int .i64 i44)] := F.sub ⟨rfl, rfl, rfl, rfl, trivial⟩
  refine reg ?_
  refine qv F (r_add F rfl rfl) fun a F => ?_
  refine qm F fun a F => ?_
  refine nil ?_
  replace H := HN48 _ (si H).symm
  exact hX47 _ _ _ (Nat.lt_succ_self _) ⟨(l42.set i44.toNat (IntKind.u8.wrap i43)), (shr .u32 (shr .u32 i43 4) 4), (IntKind.i64.wrap (i44 + 1)), c45, F.sub ⟨rfl, rfl, rfl, rfl, trivial⟩, E, B, h41, H⟩
 replace H := im hb57 H
 refine wp_cond_false (fb F (dz hb57)) ?_
 refine wp_exit ?_
 refine thenE ?_
 refine thenE ?_
 refine inbE ?_
 have hx_ := HD49 _ (si H).symm
 have H := HR53
 rw [← hx_] at H
 exact J81 c45 w46 a l42 (F.sub trivial) E B h41 H
theorem parcel_downuint64.calls (k : Nat) {m : Nat} {c0 : Nat → Nat} {w0 : World} {j5 : Nat} {A2 : Option Addr} {C3 : Nat} {a1 : List Int} {a6 : Int} (hm0 : 0 < m) (B0 : CB m c0 w0) (h4 : SL true (Kint .u8) j5 0 c0 w0 A2 C3 a1) (bj5 : 0 < j5 ∧ j5 < m) (r : (List Int)) (H : parcel_downuint64.f k a1 a6 = some r) : Calls Try.prog 81 #[.slice A2 a1.length C3, .int .u64 a6] w0 (fun e w_ => ∃ (c_ : Nat → Nat), e = .returned (.tuple #[]) ∧ Ev (fun x => (x = j5)) c0 w0 c_ w_ ∧ CB m c_ w_ ∧ SL true (Kint .u8) j5 0 c_ w_ A2 C3 r ∧ r.length = a1.length) := by
 unfold parcel_downuint64.f at H
 have B := B0.mono (show m ≤ m + 1 by omega)
 have E : Ev (fun x => (x = j5) ∨ m ≤ x) c0 w0 c0 w0 := Ev.refl
 refine enter (N := 19) (l := [.slice A2 a1.length C3, .int .u64 a6]) Try.func81 rfl rfl (nb rfl) fun a F => ?_
 refine wp_seq_k fun K7 hK7 => reg ?_
 refine qm F fun a F => ?_
 refine qv F (r_lensl F Try.underlying28 rfl) fun a F => ?_
 refine qm F fun a F => ?_
 refine nil (hK7 _ _ ?_)
 refine wp_block ?_
 obtain ⟨x54, HL, HR53⟩ := bind_some H
 have J81 : ∀ (c82 : Nat → Nat) (w83 : World) (a : Act) (l80 : List Int), Fr a 19 [] → Ev (fun x => (x = j5) ∨ m ≤ x) c0 w0 c82 w83 → CB (m + 1) c82 w83 → SL true (Kint .u8) j5 0 c82 w83 A2 C3 l80 → parcel_downuint64.j2 a1 l80 = some r → (bodyPost Try.prog Try.f81 (fun e w_ => ∃ (c_ : Nat → Nat), e = .returned (.tuple #[]) ∧ Ev (fun x => (x = j5)) c0 w0 c_ w_ ∧ CB m c_ w_ ∧ SL true (Kint .u8) j5 0 c_ w_ A2 C3 r ∧ r.length = a1.length) .normal) a w83 := by
  intro c82 w83 a l80 F E B h79 H
  unfold parcel_downuint64.j2 at H
  replace H := ifN H
  obtain ⟨hl84, H⟩ := H
  replace H := si H
  subst H
  first | refine out0n F rfl ?_ | refine inbN (out0n F rfl ?_) | refine inbN (inbN (out0n F rfl ?_)) | refine inbN (inbN (inbN (out0n F rfl ?_)))
  exact ⟨cf (fun x_ => if x_ < m then x_ else 0) c82, rfl, E.lv B0, cfb, SL.rc h79 cfk cfk, hl84⟩
 refine loop_fuel (I := fun n a w => ∃ (l42 : List Int) (i43 : Int) (i44 : Int) (c : Nat → Nat), Fr a 19 [(0, .slice A2 l42.length C3), (1, .int .u64 i43), (6, .int .i64 (a1.length : Int)), (7, .int .i64 i44)] ∧ Ev (fun x => (x = j5) ∨ m ≤ x) c0 w0 c w ∧ CB (m + 1) c w ∧ SL true (Kint .u8) j5 0 c w A2 C3 l42 ∧ loop (fun (s_ : (List Int) × Int × Int) => parcel_downuint64.b1 a1 s_.1 s_.2.1 s_.2.2) n (l42, i43, i44) = some x54) (k := k) ⟨a1, a6, 0, c0, F.sub ⟨rfl, rfl, rfl, rfl, trivial⟩, E, B, h4, HL⟩ ?_
 clear HL H E F B
 intro n51 X47 hX47 a w46 ⟨l42, i43, i44, c45, F, E, B, h41, HL⟩
 obtain ⟨n52, ctl50, rfl, HB, HN48, HD49⟩ := loop_some HL
 have H : parcel_downuint64.b1 a1 l42 i43 i44 = some ctl50 := HB
 clear HB HL
 unfold parcel_downuint64.b1 at H
 refine wp_seq_k fun K55 hK55 => reg ?_
 refine qv F (r_lss F rfl rfl) fun a F => ?_
 refine nil (hK55 _ _ ?_)
 refine wp_seq_k fun K56 hK56 => ?_
 by_cases hb57 : i44 < (a1.length : Int)
 ·replace H := ip hb57 H
  refine wp_cond_true (fb F (dt hb57)) (wp_skip (hK56 _ _ ?_))
  refine wp_seq_k fun K58 hK58 => ?_
  refine wp_block ?_
  refine wp_seq_k fun K59 hK59 => reg ?_
  refine qm F fun a F => ?_
  refine qa F fun a F => ?_
  refine nil (hK59 _ _ ?_)
  refine wp_seq_k fun K60 hK60 => reg ?_
  refine qm F fun a F => ?_
  refine qm F fun a F => ?_
  refine qm F fun a F => ?_
  refine qv F (r_convi F Try.underlying5 rfl rfl) fun a F => ?_
  replace H := ifN H
  obtain ⟨g61, H⟩ := H
  obtain ⟨ad62, cs63, e64, h65, r66⟩ := SL.at h41 i44 g61.1 g61.2
  obtain rfl : cs63 = [.int .u8 (rd l42 i44)] := r66
  obtain ⟨qa67, qqa67⟩ : ∃ q, q = (ad62.add (i44.toNat * 1)) := ⟨_, rfl⟩
  have h65 : AT true j5 c45 w46 qa67 [.int .u8 (rd l42 i44)] := by rw [qqa67]; exact h65
  refine qv F (r_indexAddr' F Try.underlying28 sz_5 rfl rfl g61.1 g61.2 e64 qqa67) fun a F => ?_
  refine q_eff0 F rfl rfl (e_storeel0 (k := (Kint .u8)) F rfl rfl sz_5 h41 g61.1 g61.2 e64 qqa67 h65 rfl (nb rfl) rfl (IntKind.u8.wrap i43) rfl (ne_z bj5.1)) ?_
  rintro w69 a ⟨E70, h41, Z71⟩ F
  replace B := B.size Z71
  replace E := E.trans E70 (fun x (q : x = j5) => Or.inl (q))
  have hl72 : l42.length = (l42.set i44.toNat (IntKind.u8.wrap i43)).length := by simp
  replace F := F.sub (L' := [(0, .slice A2 (l42.set i44.toNat (IntKind.u8.wrap i43)).length C3), (1, .int .u64 i43), (4, .int .i64 i44), (6, .int .i64 (a1.length : Int)), (7, .int .i64 i44), (8, .bool (decide (i44 < (a1.length : Int)))), (9, .int .i64 i44), (10, .slice A2 (l42.set i44.toNat (IntKind.u8.wrap i43)).length C3), (11, .int .i64 i44), (12, .int .u64 i43), (13, .int .u8 (IntKind.u8.wrap i43))]) ⟨(by rw [← hl72]; rfl), rfl, rfl, rfl, rfl, rfl, rfl, (by rw [← hl72]; rfl), rfl, rfl, rfl, trivial⟩
  refine nil (hK60 _ _ ?_)
  refine reg ?_
  refine qm F fun a F => ?_
  refine qv F (r_shr F rfl rfl (by decide)) fun a F => ?_
  refine qv F (r_shr F rfl rfl (by decide)) fun a F => ?_
  refine qa F fun a F => ?_
  refine nil (hK58 _ _ ?_)
  replace F : Fr a 19 [(0, .slice A2 (l42.set i44.toNat (IntKind.u8.wrap i43)).length C3), (1, .int .u64 (shr .u64 (shr .u64 i43 4) 4)), (6, .int .i64 (a1.length : Int)), (7, .int .i64 i44)] := F.sub ⟨rfl, rfl, rfl, rfl, trivial⟩
  refine reg ?_
  refine qv F (r_add F rfl rfl) fun a F => ?_
  refine qm F fun a F => ?_
  refine nil ?_
  replace H := HN48 _ (si H).symm
  exact hX47 _ _ _ (Nat.lt_succ_self _) ⟨(l42.set i44.toNat (IntKind.u8.wrap i43)), (shr .u64 (shr .u64 i43 4) 4), (IntKind.i64.wrap (i44 + 1)), c45, F.sub ⟨rfl, rfl, rfl, rfl, trivial⟩, E, B, h41, H⟩
 replace H := im hb57 H
 refine wp_cond_false (fb F (dz hb57)) ?_
 refine wp_exit ?_
 refine thenE ?_
 refine thenE ?_
 refine inbE ?_
 have hx_ := HD49 _ (si H).symm
 have H := HR53
 rw [← hx_] at H
 exact J81 c45 w46 a l42 (F.sub trivial) E B h41 H
theorem parcel_downuint8.calls (k : Nat) {m : Nat} {c0 : Nat → Nat} {w0 : World} {j5 : Nat} {A2 : Option Addr} {C3 : Nat} {a1 : List Int} {a6 : Int} (hm0 : 0 < m) (B0 : CB m c0 w0) (h4 : SL true (Kint .u8) j5 0 c0 w0 A2 C3 a1) (bj5 : 0 < j5 ∧ j5 < m) (r : (List Int)) (H : parcel_downuint8.f k a1 a6 = some r) : Calls Try.prog 78 #[.slice A2 a1.length C3, .int .u8 a6] w0 (fun e w_ => ∃ (c_ : Nat → Nat), e = .returned (.tuple #[]) ∧ Ev (fun x => (x = j5)) c0 w0 c_ w_ ∧ CB m c_ w_ ∧ SL true (Kint .u8) j5 0 c_ w_ A2 C3 r ∧ r.length = a1.length) := by
 unfold parcel_downuint8.f at H
 have B := B0.mono (show m ≤ m + 1 by omega)
 have E : Ev (fun x => (x = j5) ∨ m ≤ x) c0 w0 c0 w0 := Ev.refl
 refine enter (N := 18) (l := [.slice A2 a1.length C3, .int .u8 a6]) Try.func78 rfl rfl (nb rfl) fun a F => ?_
 refine wp_seq_k fun K7 hK7 => reg ?_
 refine qm F fun a F => ?_
 refine qv F (r_lensl F Try.underlying28 rfl) fun a F => ?_
 refine qm F fun a F => ?_
 refine nil (hK7 _ _ ?_)
 refine wp_block ?_
 obtain ⟨x54, HL, HR53⟩ := bind_some H
 have J81 : ∀ (c82 : Nat → Nat) (w83 : World) (a : Act) (l80 : List Int), Fr a 18 [] → Ev (fun x => (x = j5) ∨ m ≤ x) c0 w0 c82 w83 → CB (m + 1) c82 w83 → SL true (Kint .u8) j5 0 c82 w83 A2 C3 l80 → parcel_downuint8.j2 a1 l80 = some r → (bodyPost Try.prog Try.f78 (fun e w_ => ∃ (c_ : Nat → Nat), e = .returned (.tuple #[]) ∧ Ev (fun x => (x = j5)) c0 w0 c_ w_ ∧ CB m c_ w_ ∧ SL true (Kint .u8) j5 0 c_ w_ A2 C3 r ∧ r.length = a1.length) .normal) a w83 := by
  intro c82 w83 a l80 F E B h79 H
  unfold parcel_downuint8.j2 at H
  replace H := ifN H
  obtain ⟨hl84, H⟩ := H
  replace H := si H
  subst H
  first | refine out0n F rfl ?_ | refine inbN (out0n F rfl ?_) | refine inbN (inbN (out0n F rfl ?_)) | refine inbN (inbN (inbN (out0n F rfl ?_)))
  exact ⟨cf (fun x_ => if x_ < m then x_ else 0) c82, rfl, E.lv B0, cfb, SL.rc h79 cfk cfk, hl84⟩
 refine loop_fuel (I := fun n a w => ∃ (l42 : List Int) (i43 : Int) (i44 : Int) (c : Nat → Nat), Fr a 18 [(0, .slice A2 l42.length C3), (1, .int .u8 i43), (6, .int .i64 (a1.length : Int)), (7, .int .i64 i44)] ∧ Ev (fun x => (x = j5) ∨ m ≤ x) c0 w0 c w ∧ CB (m + 1) c w ∧ SL true (Kint .u8) j5 0 c w A2 C3 l42 ∧ loop (fun (s_ : (List Int) × Int × Int) => parcel_downuint8.b1 a1 s_.1 s_.2.1 s_.2.2) n (l42, i43, i44) = some x54) (k := k) ⟨a1, a6, 0, c0, F.sub ⟨rfl, rfl, rfl, rfl, trivial⟩, E, B, h4, HL⟩ ?_
 clear HL H E F B
 intro n51 X47 hX47 a w46 ⟨l42, i43, i44, c45, F, E, B, h41, HL⟩
 obtain ⟨n52, ctl50, rfl, HB, HN48, HD49⟩ := loop_some HL
 have H : parcel_downuint8.b1 a1 l42 i43 i44 = some ctl50 := HB
 clear HB HL
 unfold parcel_downuint8.b1 at H
 refine wp_seq_k fun K55 hK55 => reg ?_
 refine qv F (r_lss F rfl rfl) fun a F => ?_
 refine nil (hK55 _ _ ?_)
 refine wp_seq_k fun K56 hK56 => ?_
 by_cases hb57 : i44 < (a1.length : Int)
 ·replace H := ip hb57 H
  refine wp_cond_true (fb F (dt hb57)) (wp_skip (hK56 _ _ ?_))
  refine wp_seq_k fun K58 hK58 => ?_
  refine wp_block ?_
  refine wp_seq_k fun K59 hK59 => reg ?_
  refine qm F fun a F => ?_
  refine qa F fun a F => ?_
  refine nil (hK59 _ _ ?_)
  refine wp_seq_k fun K60 hK60 => reg ?_
  refine qm F fun a F => ?_
  refine qm F fun a F => ?_
  refine qm F fun a F => ?_
  replace H := ifN H
  obtain ⟨g61, H⟩ := H
  obtain ⟨ad62, cs63, e64, h65, r66⟩ := SL.at h41 i44 g61.1 g61.2
  obtain rfl : cs63 = [.int .u8 (rd l42 i44)] := r66
  obtain ⟨qa67, qqa67⟩ : ∃ q, q = (ad62.add (i44.toNat * 1)) := ⟨_, rfl⟩
  have h65 : AT true j5 c45 w46 qa67 [.int .u8 (rd l42 i44)] := by rw [qqa67]; exact h65
  refine qv F (r_indexAddr' F Try.underlying28 sz_5 rfl rfl g61.1 g61.2 e64 qqa67) fun a F => ?_
  refine q_eff0 F rfl rfl (e_storeel0 (k := (Kint .u8)) F rfl rfl sz_5 h41 g61.1 g61.2 e64 qqa67 h65 rfl (nb rfl) rfl i43 rfl (ne_z bj5.1)) ?_
  rintro w69 a ⟨E70, h41, Z71⟩ F
  replace B := B.size Z71
  replace E := E.trans E70 (fun x (q : x = j5) => Or.inl (q))
  have hl72 : l42.length = (l42.set i44.toNat i43).length := by simp
  replace F := F.sub (L' := [(0, .slice A2 (l42.set i44.toNat i43).length C3), (1, .int .u8 i43), (4, .int .i64 i44), (6, .int .i64 (a1.length : Int)), (7, .int .i64 i44), (8, .bool (decide (i44 < (a1.length : Int)))), (9, .int .i64 i44), (10, .slice A2 (l42.set i44.toNat i43).length C3), (11, .int .i64 i44), (12, .int .u8 i43)]) ⟨(by rw [← hl72]; rfl), rfl, rfl, rfl, rfl, rfl, rfl, (by rw [← hl72]; rfl), rfl, rfl, trivial⟩
  refine nil (hK60 _ _ ?_)
  refine reg ?_
  refine qm F fun a F => ?_
  refine qv F (r_shr F rfl rfl (by decide)) fun a F => ?_
  refine qv F (r_shr F rfl rfl (by decide)) fun a F => ?_
  refine qa F fun a F => ?_
  refine nil (hK58 _ _ ?_)
  replace F : Fr a 18 [(0, .slice A2 (l42.set i44.toNat i43).length C3), (1, .int .u8 (shr .u8 (shr .u8 i43 4) 4)), (6, .int .i64 (a1.length : Int)), (7, .int .i64 i44)] := F.sub ⟨rfl, rfl, rfl, rfl, trivial⟩
  refine reg ?_
  refine qv F (r_add F rfl rfl) fun a F => ?_
  refine qm F fun a F => ?_
  refine nil ?_
  replace H := HN48 _ (si H).symm
  exact hX47 _ _ _ (Nat.lt_succ_self _) ⟨(l42.set i44.toNat i43), (shr .u8 (shr .u8 i43 4) 4), (IntKind.i64.wrap (i44 + 1)), c45, F.sub ⟨rfl, rfl, rfl, rfl, trivial⟩, E, B, h41, H⟩
 replace H := im hb57 H
 refine wp_cond_false (fb F (dz hb57)) ?_
 refine wp_exit ?_
 refine thenE ?_
 refine thenE ?_
 refine inbE ?_
 have hx_ := HD49 _ (si H).symm
 have H := HR53
 rw [← hx_] at H
 exact J81 c45 w46 a l42 (F.sub trivial) E B h41 H
theorem parcel_Writer_Fixed.calls (k : Nat) {m : Nat} {c0 : Nat → Nat} {w0 : World} {j4 : Nat} {j5 : Nat} {p2 : Option Addr} {a1 : Option Wri} {a6 : Int} {a7 : Int} (hm0 : 0 < m) (B0 : CB m c0 w0) (h3 : WR j4 j5 c0 w0 p2 a1) (bj4 : 0 < j4 ∧ j4 < m) (bj5 : 0 < j5 ∧ j5 < m ∧ j5 ≠ j4) (r : (Option Wri)) (H : parcel_Writer_Fixed.f k a1 a6 a7 = some r) : Calls Try.prog 52 #[.pointer p2, .int .u64 a6, .int .i64 a7] w0 (fun e w_ => ∃ (c_ : Nat → Nat), e = .returned (.tuple #[]) ∧ Ev (fun x => (x = j4 ∨ x = j5)) c0 w0 c_ w_ ∧ CB m c_ w_ ∧ WR j4 j5 c_ w_ p2 r) := by
 unfold parcel_Writer_Fixed.f at H
 have B := B0.mono (show m ≤ m + 2 by omega)
 have E : Ev (fun x => (x = j4 ∨ x = j5) ∨ m ≤ x) c0 w0 c0 w0 := Ev.refl
 refine enter (N := 44) (l := [.pointer p2, .int .u64 a6, .int .i64 a7]) Try.func52 rfl rfl (nb rfl) fun a F => ?_
 refine wp_seq_k fun K8 hK8 => ?_
 refine wp_seq_k fun K9 hK9 => ?_
 have J12 : ∀ (c13 : Nat → Nat) (w14 : World) (a : Act) (b11 : Bool), Fr a 44 [(0, .pointer p2), (1, .int .u64 a6), (2, .int .i64 a7), (12, .bool b11)] → Ev (fun x => (x = j4 ∨ x = j5) ∨ m ≤ x) c0 w0 c13 w14 → CB (m + 2) c13 w14 → WR j4 j5 c13 w14 p2 a1 → parcel_Writer_Fixed.j1 k a1 a6 a7 b11 = some r → K9 a w14 := by
  intro c13 w14 a b11 F E B h3 H
  unfold parcel_Writer_Fixed.j1 at H
  refine hK9 _ _ ?_
  by_cases hb15 : b11 = true
  ·replace H := ip hb15 H
   refine wp_cond_true (fb F hb15) ?_
   refine wp_seq_k fun K16 hK16 => reg ?_
   refine qm F fun a F => ?_
   obtain ⟨t17, q18, H⟩ := bind_some H
   refine qc F Try.func77 (parcel_Writer_refuse.calls (m := m + 2) (pl hm0) B h3 ⟨bj4.1, (Nat.lt_add_right _ bj4.2)⟩ ⟨bj5.1, (Nat.lt_add_right _ bj5.2.1), bj5.2.2⟩ _ q18) ?_
   rintro e w20 ⟨c19, rfl, E21, B22, h23⟩
   refine ⟨_, rfl, fun a F => ?_⟩
   have B := B22
   replace E := E.trans E21 (fun x (q : x = j4 ∨ x = j5) => q.elim (fun q => Or.inl (Or.inl q)) (fun q => Or.inl (Or.inr (q))))
   refine nil (hK16 _ _ ?_)
   refine wp_ret ?_
   refine thenR ?_
   replace H := si H
   subst H
   refine out0 F rfl ?_
   exact ⟨cf (fun x_ => if x_ < m then x_ else 0) c19, rfl, E.lv B0, cfb, WR.rc h23 cfk cfk cfk⟩
  replace H := im hb15 H
  refine wp_cond_false (fb F (bfalse hb15)) (wp_skip (hK8 _ _ ?_))
  refine wp_seq_k fun K25 hK25 => reg ?_
  refine qm F fun a F => ?_
  replace H := ifN H
  obtain ⟨g26, H⟩ := H
  refine q_eff F rfl rfl (by decide) (e_make (k := (Kint .u8)) (x0 := 0) F et_28 rfl rfl (fun _ _ _ => rfl) (by decide) g26 c13 (m + 1) 0) ?_
  rintro v w28 a ⟨c27, A29, C30, rfl, E31, h32, B33⟩ F
  replace B := B33 _ B lm
  replace h3 := h3.ev E31 nq nq nq
  replace E := E.trans E31 nx
  refine qa F fun a F => ?_
  refine nil (hK25 _ _ ?_)
  refine wp_seq_k fun K34 hK34 => ?_
  refine wp_block ?_
  refine wp_seq_k fun K35 hK35 => reg ?_
  refine qm F fun a F => ?_
  refine qv F (r_eql F rfl rfl) fun a F => ?_
  refine qa F fun a F => ?_
  refine nil (hK35 _ _ ?_)
  by_cases hb36 : a7 = 1
  ·replace H := ip hb36 H
   refine wp_cond_true (fb F (dt hb36)) ?_
   refine reg ?_
   refine qm F fun a F => ?_
   refine qm F fun a F => ?_
   refine qv F (r_convi F Try.underlying5 rfl rfl) fun a F => ?_
   obtain ⟨t37, q38, H⟩ := bind_some H
   refine qc F Try.func78 (parcel_downuint8.calls k (m := m + 2) (pl hm0) B h32 ⟨(pl hm0), lm⟩ _ q38) ?_
   rintro e w40 ⟨c39, rfl, E41, B42, h43, hl44⟩
   refine ⟨_, rfl, fun a F => ?_⟩
   have B := B42
   replace h3 := h3.ev E41 (ne_pm bj4.2) (ne_pm bj5.2.1) ne_zm
   replace E := E.trans E41 lc1
   replace hl44 := hl44.symm
   replace F := F.sub (L' := [(0, .pointer p2), (1, .int .u64 a6), (2, .int .i64 a7), (6, .slice A29 t37.length C30), (12, .bool b11), (15, .int .i64 a7), (16, .slice A29 t37.length C30), (20, .bool (decide (a7 = 1))), (21, .int .i64 a7), (22, .bool (decide (a7 = 1))), (23, .slice A29 t37.length C30), (24, .int .u64 a6), (25, .int .u8 (IntKind.u8.wrap a6))]) ⟨rfl, rfl, rfl, (by rw [← hl44]; rfl), rfl, rfl, (by rw [← hl44]; rfl), rfl, rfl, rfl, (by rw [← hl44]; rfl), rfl, rfl, trivial⟩
   refine nil (hK34 _ _ ?_)
   replace F : Fr a 44 [(0, .pointer p2), (6, .slice A29 t37.length C30)] := F.sub ⟨rfl, rfl, trivial⟩
   refine reg ?_
   refine qm F fun a F => ?_
   refine qm F fun a F => ?_
   obtain ⟨c77, hc77⟩ : ∃ c', c' = fun k => if c39 k = m + 1 then 0 else c39 k := ⟨_, rfl⟩
   replace h3 := WR.rc (c' := c77) (j' := j4) (i' := j5) h3 (fun k_ hk_ => by rw [hc77]; show (if c39 k_ = m + 1 then 0 else c39 k_) = _; rw [hk_]; ((repeat' split) <;> omega)) (fun k_ hk_ => by rw [hc77]; show (if c39 k_ = m + 1 then 0 else c39 k_) = _; rw [hk_]; ((repeat' split) <;> omega)) (fun k_ hk_ => by rw [hc77]; show (if c39 k_ = m + 1 then 0 else c39 k_) = _; rw [hk_]; ((repeat' split) <;> omega))
   replace h43 := SL.rc (c' := c77) (j' := 0) (i' := 0) h43.r (fun k_ hk_ => by rw [hc77]; show (if c39 k_ = m + 1 then 0 else c39 k_) = _; rw [hk_]; ((repeat' split) <;> omega)) (fun k_ hk_ => by rw [hc77]; show (if c39 k_ = m + 1 then 0 else c39 k_) = _; rw [hk_]; ((repeat' split) <;> omega))
   have E : Ev (fun x => (x = j4 ∨ x = j5) ∨ m ≤ x) c0 w0 c77 w40 := by rw [hc77]; exact E.freeze B0 (by omega)
   have B : CB (m + 2) c77 w40 := by rw [hc77]; exact B.freeze (by omega)
   obtain ⟨t78, q79, H⟩ := bind_some H
   refine qc F Try.func68 (parcel_Writer_lay.calls (m := m + 2) (pl hm0) B h3 h43 ⟨bj4.1, (Nat.lt_add_right _ bj4.2)⟩ ⟨bj5.1, (Nat.lt_add_right _ bj5.2.1), bj5.2.2⟩ _ q79) ?_
   rintro e w81 ⟨c80, rfl, E82, B83, h84⟩
   refine ⟨_, rfl, fun a F => ?_⟩
   have B := B83
   replace E := E.trans E82 (fun x (q : x = j4 ∨ x = j5) => q.elim (fun q => Or.inl (Or.inl q)) (fun q => Or.inl (Or.inr (q))))
   refine nil ?_
   replace H := si H
   subst H
   first | refine out0n F rfl ?_ | refine inbN (out0n F rfl ?_) | refine inbN (inbN (out0n F rfl ?_)) | refine inbN (inbN (inbN (out0n F rfl ?_)))
   exact ⟨cf (fun x_ => if x_ < m then x_ else 0) c80, rfl, E.lv B0, cfb, WR.rc h84 cfk cfk cfk⟩
  replace H := im hb36 H
  refine wp_cond_false (fb F (dz hb36)) ?_
  refine wp_seq_k fun K46 hK46 => reg ?_
  refine qm F fun a F => ?_
  refine qv F (r_eql F rfl rfl) fun a F => ?_
  refine qa F fun a F => ?_
  refine nil (hK46 _ _ ?_)
  replace F : Fr a 44 [(0, .pointer p2), (1, .int .u64 a6), (2, .int .i64 a7), (6, .slice A29 (List.replicate a7.toNat (0 : Int)).length C30), (27, .bool (decide (a7 = 2)))] := F.sub ⟨rfl, rfl, rfl, rfl, rfl, trivial⟩
  by_cases hb47 : a7 = 2
  ·replace H := ip hb47 H
   refine wp_cond_true (fb F (dt hb47)) ?_
   refine reg ?_
   refine qm F fun a F => ?_
   refine qm F fun a F => ?_
   refine qv F (r_convi F Try.underlying139 rfl rfl) fun a F => ?_
   obtain ⟨t48, q49, H⟩ := bind_some H
   refine qc F Try.func79 (parcel_downuint16.calls k (m := m + 2) (pl hm0) B h32 ⟨(pl hm0), lm⟩ _ q49) ?_
   rintro e w51 ⟨c50, rfl, E52, B53, h54, hl55⟩
   refine ⟨_, rfl, fun a F => ?_⟩
   have B := B53
   replace h3 := h3.ev E52 (ne_pm bj4.2) (ne_pm bj5.2.1) ne_zm
   replace E := E.trans E52 lc1
   replace hl55 := hl55.symm
   replace F := F.sub (L' := [(0, .pointer p2), (1, .int .u64 a6), (2, .int .i64 a7), (6, .slice A29 t48.length C30), (27, .bool (decide (a7 = 2))), (30, .slice A29 t48.length C30), (31, .int .u64 a6), (32, .int .u16 (IntKind.u16.wrap a6))]) ⟨rfl, rfl, rfl, (by rw [← hl55]; rfl), rfl, (by rw [← hl55]; rfl), rfl, rfl, trivial⟩
   refine nil (hK34 _ _ ?_)
   refine reg ?_
   refine qm F fun a F => ?_
   refine qm F fun a F => ?_
   obtain ⟨c86, hc86⟩ : ∃ c', c' = fun k => if c50 k = m + 1 then 0 else c50 k := ⟨_, rfl⟩
   replace h3 := WR.rc (c' := c86) (j' := j4) (i' := j5) h3 (fun k_ hk_ => by rw [hc86]; show (if c50 k_ = m + 1 then 0 else c50 k_) = _; rw [hk_]; ((repeat' split) <;> omega)) (fun k_ hk_ => by rw [hc86]; show (if c50 k_ = m + 1 then 0 else c50 k_) = _; rw [hk_]; ((repeat' split) <;> omega)) (fun k_ hk_ => by rw [hc86]; show (if c50 k_ = m + 1 then 0 else c50 k_) = _; rw [hk_]; ((repeat' split) <;> omega))
   replace h54 := SL.rc (c' := c86) (j' := 0) (i' := 0) h54.r (fun k_ hk_ => by rw [hc86]; show (if c50 k_ = m + 1 then 0 else c50 k_) = _; rw [hk_]; ((repeat' split) <;> omega)) (fun k_ hk_ => by rw [hc86]; show (if c50 k_ = m + 1 then 0 else c50 k_) = _; rw [hk_]; ((repeat' split) <;> omega))
   have E : Ev (fun x => (x = j4 ∨ x = j5) ∨ m ≤ x) c0 w0 c86 w51 := by rw [hc86]; exact E.freeze B0 (by omega)
   have B : CB (m + 2) c86 w51 := by rw [hc86]; exact B.freeze (by omega)
   obtain ⟨t78, q79, H⟩ := bind_some H
   refine qc F Try.func68 (parcel_Writer_lay.calls (m := m + 2) (pl hm0) B h3 h54 ⟨bj4.1, (Nat.lt_add_right _ bj4.2)⟩ ⟨bj5.1, (Nat.lt_add_right _ bj5.2.1), bj5.2.2⟩ _ q79) ?_
   rintro e w88 ⟨c87, rfl, E89, B90, h91⟩
   refine ⟨_, rfl, fun a F => ?_⟩
   have B := B90
   replace E := E.trans E89 (fun x (q : x = j4 ∨ x = j5) => q.elim (fun q => Or.inl (Or.inl q)) (fun q => Or.inl (Or.inr (q))))
   refine nil ?_
   replace H := si H
   subst H
   first | refine out0n F rfl ?_ | refine inbN (out0n F rfl ?_) | refine inbN (inbN (out0n F rfl ?_)) | refine inbN (inbN (inbN (out0n F rfl ?_)))
   exact ⟨cf (fun x_ => if x_ < m then x_ else 0) c87, rfl, E.lv B0, cfb, WR.rc h91 cfk cfk cfk⟩
  replace H := im hb47 H
  refine wp_cond_false (fb F (dz hb47)) ?_
  refine wp_seq_k fun K57 hK57 => reg ?_
  refine qm F fun a F => ?_
  refine qv F (r_leq F rfl rfl) fun a F => ?_
  refine qa F fun a F => ?_
  refine nil (hK57 _ _ ?_)
  by_cases hb58 : a7 ≤ 4
  ·replace H := ip hb58 H
   refine wp_cond_true (fb F (dt hb58)) ?_
   refine reg ?_
   refine qm F fun a F => ?_
   refine qm F fun a F => ?_
   refine qv F (r_convi F Try.underlying141 rfl rfl) fun a F => ?_
   obtain ⟨t59, q60, H⟩ := bind_some H
   refine qc F Try.func80 (parcel_downuint32.calls k (m := m + 2) (pl hm0) B h32 ⟨(pl hm0), lm⟩ _ q60) ?_
   rintro e w62 ⟨c61, rfl, E63, B64, h65, hl66⟩
   refine ⟨_, rfl, fun a F => ?_⟩
   have B := B64
   replace h3 := h3.ev E63 (ne_pm bj4.2) (ne_pm bj5.2.1) ne_zm
   replace E := E.trans E63 lc1
   replace hl66 := hl66.symm
   replace F := F.sub (L' := [(0, .pointer p2), (1, .int .u64 a6), (2, .int .i64 a7), (6, .slice A29 t59.length C30), (27, .bool (decide (a7 = 2))), (34, .bool (decide (a7 ≤ 4))), (35, .int .i64 a7), (36, .bool (decide (a7 ≤ 4))), (37, .slice A29 t59.length C30), (38, .int .u64 a6), (39, .int .u32 (IntKind.u32.wrap a6))]) ⟨rfl, rfl, rfl, (by rw [← hl66]; rfl), rfl, rfl, rfl, rfl, (by rw [← hl66]; rfl), rfl, rfl, trivial⟩
   refine nil (hK34 _ _ ?_)
   replace F : Fr a 44 [(0, .pointer p2), (6, .slice A29 t59.length C30)] := F.sub ⟨rfl, rfl, trivial⟩
   refine reg ?_
   refine qm F fun a F => ?_
   refine qm F fun a F => ?_
   obtain ⟨c93, hc93⟩ : ∃ c', c' = fun k => if c61 k = m + 1 then 0 else c61 k := ⟨_, rfl⟩
   replace h3 := WR.rc (c' := c93) (j' := j4) (i' := j5) h3 (fun k_ hk_ => by rw [hc93]; show (if c61 k_ = m + 1 then 0 else c61 k_) = _; rw [hk_]; ((repeat' split) <;> omega)) (fun k_ hk_ => by rw [hc93]; show (if c61 k_ = m + 1 then 0 else c61 k_) = _; rw [hk_]; ((repeat' split) <;> omega)) (fun k_ hk_ => by rw [hc93]; show (if c61 k_ = m + 1 then 0 else c61 k_) = _; rw [hk_]; ((repeat' split) <;> omega))
   replace h65 := SL.rc (c' := c93) (j' := 0) (i' := 0) h65.r (fun k_ hk_ => by rw [hc93]; show (if c61 k_ = m + 1 then 0 else c61 k_) = _; rw [hk_]; ((repeat' split) <;> omega)) (fun k_ hk_ => by rw [hc93]; show (if c61 k_ = m + 1 then 0 else c61 k_) = _; rw [hk_]; ((repeat' split) <;> omega))
   have E : Ev (fun x => (x = j4 ∨ x = j5) ∨ m ≤ x) c0 w0 c93 w62 := by rw [hc93]; exact E.freeze B0 (by omega)
   have B : CB (m + 2) c93 w62 := by rw [hc93]; exact B.freeze (by omega)
   obtain ⟨t78, q79, H⟩ := bind_some H
   refine qc F Try.func68 (parcel_Writer_lay.calls (m := m + 2) (pl hm0) B h3 h65 ⟨bj4.1, (Nat.lt_add_right _ bj4.2)⟩ ⟨bj5.1, (Nat.lt_add_right _ bj5.2.1), bj5.2.2⟩ _ q79) ?_
   rintro e w95 ⟨c94, rfl, E96, B97, h98⟩
   refine ⟨_, rfl, fun a F => ?_⟩
   have B := B97
   replace E := E.trans E96 (fun x (q : x = j4 ∨ x = j5) => q.elim (fun q => Or.inl (Or.inl q)) (fun q => Or.inl (Or.inr (q))))
   refine nil ?_
   replace H := si H
   subst H
   first | refine out0n F rfl ?_ | refine inbN (out0n F rfl ?_) | refine inbN (inbN (out0n F rfl ?_)) | refine inbN (inbN (inbN (out0n F rfl ?_)))
   exact ⟨cf (fun x_ => if x_ < m then x_ else 0) c94, rfl, E.lv B0, cfb, WR.rc h98 cfk cfk cfk⟩
  replace H := im hb58 H
  refine wp_cond_false (fb F (dz hb58)) ?_
  refine reg ?_
  refine qm F fun a F => ?_
  refine qm F fun a F => ?_
  obtain ⟨t68, q69, H⟩ := bind_some H
  refine qc F Try.func81 (parcel_downuint64.calls k (m := m + 2) (pl hm0) B h32 ⟨(pl hm0), lm⟩ _ q69) ?_
  rintro e w71 ⟨c70, rfl, E72, B73, h74, hl75⟩
  refine ⟨_, rfl, fun a F => ?_⟩
  have B := B73
  replace h3 := h3.ev E72 (ne_pm bj4.2) (ne_pm bj5.2.1) ne_zm
  replace E := E.trans E72 lc1
  replace hl75 := hl75.symm
  replace F := F.sub (L' := [(0, .pointer p2), (1, .int .u64 a6), (2, .int .i64 a7), (6, .slice A29 t68.length C30), (17, .slice A29 t68.length C30), (18, .int .u64 a6), (27, .bool (decide (a7 = 2))), (34, .bool (decide (a7 ≤ 4))), (35, .int .i64 a7), (36, .bool (decide (a7 ≤ 4)))]) ⟨rfl, rfl, rfl, (by rw [← hl75]; rfl), (by rw [← hl75]; rfl), rfl, rfl, rfl, rfl, rfl, trivial⟩
  refine nil (hK34 _ _ ?_)
  replace F : Fr a 44 [(0, .pointer p2), (6, .slice A29 t68.length C30)] := F.sub ⟨rfl, rfl, trivial⟩
  refine reg ?_
  refine qm F fun a F => ?_
  refine qm F fun a F => ?_
  obtain ⟨c100, hc100⟩ : ∃ c', c' = fun k => if c70 k = m + 1 then 0 else c70 k := ⟨_, rfl⟩
  replace h3 := WR.rc (c' := c100) (j' := j4) (i' := j5) h3 (fun k_ hk_ => by rw [hc100]; show (if c70 k_ = m + 1 then 0 else c70 k_) = _; rw [hk_]; ((repeat' split) <;> omega)) (fun k_ hk_ => by rw [hc100]; show (if c70 k_ = m + 1 then 0 else c70 k_) = _; rw [hk_]; ((repeat' split) <;> omega)) (fun k_ hk_ => by rw [hc100]; show (if c70 k_ = m + 1 then 0 else c70 k_) = _; rw [hk_]; ((repeat' split) <;> omega))
  replace h74 := SL.rc (c' := c100) (j' := 0) (i' := 0) h74.r (fun k_ hk_ => by rw [hc100]; show (if c70 k_ = m + 1 then 0 else c70 k_) = _; rw [hk_]; ((repeat' split) <;> omega)) (fun k_ hk_ => by rw [hc100]; show (if c70 k_ = m + 1 then 0 else c70 k_) = _; rw [hk_]; ((repeat' split) <;> omega))
  have E : Ev (fun x => (x = j4 ∨ x = j5) ∨ m ≤ x) c0 w0 c100 w71 := by rw [hc100]; exact E.freeze B0 (by omega)
  have B : CB (m + 2) c100 w71 := by rw [hc100]; exact B.freeze (by omega)
  obtain ⟨t78, q79, H⟩ := bind_some H
  refine qc F Try.func68 (parcel_Writer_lay.calls (m := m + 2) (pl hm0) B h3 h74 ⟨bj4.1, (Nat.lt_add_right _ bj4.2)⟩ ⟨bj5.1, (Nat.lt_add_right _ bj5.2.1), bj5.2.2⟩ _ q79) ?_
  rintro e w102 ⟨c101, rfl, E103, B104, h105⟩
  refine ⟨_, rfl, fun a F => ?_⟩
  have B := B104
  replace E := E.trans E103 (fun x (q : x = j4 ∨ x = j5) => q.elim (fun q => Or.inl (Or.inl q)) (fun q => Or.inl (Or.inr (q))))
  refine nil ?_
  replace H := si H
  subst H
  first | refine out0n F rfl ?_ | refine inbN (out0n F rfl ?_) | refine inbN (inbN (out0n F rfl ?_)) | refine inbN (inbN (inbN (out0n F rfl ?_)))
  exact ⟨cf (fun x_ => if x_ < m then x_ else 0) c101, rfl, E.lv B0, cfb, WR.rc h105 cfk cfk cfk⟩
 refine reg ?_
 refine qm F fun a F => ?_
 refine qv F (r_lss F rfl rfl) fun a F => ?_
 refine qm F fun a F => ?_
 by_cases hb10 : a7 < 1
 ·replace H := ip hb10 H
  refine qn F (dt hb10) fun a F => ?_
  refine qn F (dt hb10) fun a F => ?_
  refine qv F (r_pick_t F rfl (dt hb10) rfl) fun a F => ?_
  refine nil ?_
  exact J12 c0 w0 a true (F.sub ⟨rfl, rfl, rfl, rfl, trivial⟩) E B h3 H
 replace H := im hb10 H
 refine qy F (dz hb10) ?_
 refine qm F fun a F => ?_
 refine qy F (dz hb10) ?_
 refine qv F (r_gtr F rfl rfl) fun a F => ?_
 refine qv F (r_pick_f F rfl (dz hb10) rfl) fun a F => ?_
 refine nil ?_
 exact J12 c0 w0 a (decide (8 < a7)) (F.sub ⟨rfl, rfl, rfl, rfl, trivial⟩) E B h3 H
theorem merkle_ofBucket.calls (k : Nat) {m : Nat} {c0 : Nat → Nat} {w0 : World} {j5 : Nat} {A2 : Option Addr} {C3 : Nat} {a1 : List api_Row} {a6 : Int} (hm0 : 0 < m) (B0 : CB m c0 w0) (h4 : SL false K_api_Row j5 0 c0 w0 A2 C3 a1) (bj5 : j5 < m) (r : Int) (H : merkle_ofBucket.f k a1 a6 = some r) : Calls Try.prog 75 #[.slice A2 a1.length C3, .int .i64 a6] w0 (fun e w_ => ∃ (c_ : Nat → Nat), e = .returned (.int .u64 r) ∧ Ev (fun x => False) c0 w0 c_ w_ ∧ CB m c_ w_) := by
 unfold merkle_ofBucket.f at H
 have B := B0.mono (show m ≤ m + 4 by omega)
 have E : Ev (fun x => False ∨ m ≤ x) c0 w0 c0 w0 := Ev.refl
 refine enter (N := 30) (l := [.slice A2 a1.length C3, .int .i64 a6]) Try.func75 rfl rfl (nb rfl) fun a F => ?_
 refine wp_seq_k fun K7 hK7 => reg ?_
 refine qa F fun a F => ?_
 refine nil (hK7 _ _ ?_)
 refine wp_seq_k fun K8 hK8 => reg ?_
 refine qm F fun a F => ?_
 refine qv F (r_lensl F Try.underlying47 rfl) fun a F => ?_
 refine qv F (r_mul F rfl rfl) fun a F => ?_
 refine qv F (r_add F rfl rfl) fun a F => ?_
 obtain ⟨t9, q10, H⟩ := bind_some H
 refine qc F Try.func46 (parcel_New.calls (m := m + 4) (pl hm0) B (m + 1) lm (m + 2) lm _ q10) ?_
 rintro e w12 ⟨c11, p15, rfl, E13, B14, h16⟩
 refine ⟨_, rfl, fun a F => ?_⟩
 have B := B14
 replace h4 := h4.ev E13 nq nq
 replace E := E.trans E13 nx
 refine qa F fun a F => ?_
 refine nil (hK8 _ _ ?_)
 refine wp_seq_k fun K18 hK18 => reg ?_
 refine qm F fun a F => ?_
 obtain ⟨t19, q20, H⟩ := bind_some H
 refine qc F Try.func71 (parcel_Writer_Byte.calls (m := m + 4) (pl hm0) B h16 ⟨(pl hm0), lm⟩ ⟨(pl hm0), lm, mm⟩ _ q20) ?_
 rintro e w22 ⟨c21, rfl, E23, B24, h25⟩
 refine ⟨_, rfl, fun a F => ?_⟩
 have B := B24
 replace h4 := h4.ev E23 (nor (ne_pm bj5) (ne_pm bj5)) (nor ne_zm ne_zm)
 replace E := E.trans E23 lc2
 refine nil (hK18 _ _ ?_)
 replace F : Fr a 30 [(0, .slice A2 a1.length C3), (1, .int .i64 a6), (5, .pointer p15)] := F.sub ⟨rfl, rfl, rfl, trivial⟩
 refine wp_seq_k fun K27 hK27 => ?_
 refine wp_seq_k fun K28 hK28 => reg ?_
 refine qm F fun a F => ?_
 refine qv F (r_lensl F Try.underlying47 rfl) fun a F => ?_
 refine qm F fun a F => ?_
 refine nil (hK28 _ _ ?_)
 refine wp_block ?_
 obtain ⟨x97, HL, HR96⟩ := bind_some H
 have J141 : ∀ (c142 : Nat → Nat) (w143 : World) (a : Act) (o140 : Option Wri), Fr a 30 [(1, .int .i64 a6), (5, .pointer p15)] → Ev (fun x => False ∨ m ≤ x) c0 w0 c142 w143 → CB (m + 4) c142 w143 → WR (m + 1) (m + 2) c142 w143 p15 o140 → merkle_ofBucket.j2 k a6 o140 = some r → K27 a w143 := by
  intro c142 w143 a o140 F E B h139 H
  unfold merkle_ofBucket.j2 at H
  refine hK27 _ _ ?_
  refine wp_seq_k fun K144 hK144 => reg ?_
  refine qm F fun a F => ?_
  refine qm F fun a F => ?_
  obtain ⟨t145, q146, H⟩ := bind_some H
  refine qc F Try.func94 (merkle_cut.calls k (m := m + 4) (pl hm0) B h139 lm ⟨lm, mm⟩ _ q146) ?_
  rintro e w148 ⟨c147, rfl, E149, B150⟩
  refine ⟨_, rfl, fun a F => ?_⟩
  have B := B150
  replace E := E.trans E149 nx
  refine qa F fun a F => ?_
  refine nil (hK144 _ _ ?_)
  refine wp_ret ?_
  replace H := si H
  subst H
  refine out1 F rfl rfl ?_
  exact ⟨cf (fun x_ => if x_ < m then x_ else 0) c147, rfl, E.lv B0, cfb⟩
 refine loop_fuel (I := fun n a w => ∃ (o86 : Option Wri) (i87 : Int) (c : Nat → Nat), Fr a 30 [(1, .int .i64 a6), (5, .pointer p15), (15, .slice A2 a1.length C3), (16, .int .i64 (a1.length : Int)), (17, .int .i64 i87)] ∧ Ev (fun x => False ∨ m ≤ x) c0 w0 c w ∧ CB (m + 4) c w ∧ SL false K_api_Row j5 0 c w A2 C3 a1 ∧ WR (m + 1) (m + 2) c w p15 o86 ∧ loop (fun (s_ : (Option Wri) × Int) => merkle_ofBucket.b1 k a1 a6 s_.1 s_.2) n (o86, i87) = some x97) (k := k) ⟨t19, 0, c21, F.sub ⟨rfl, rfl, rfl, rfl, rfl, trivial⟩, E, B, h4, h25, HL⟩ ?_
 clear HL H E F B
 intro n94 X90 hX90 a w89 ⟨o86, i87, c88, F, E, B, h4, h85, HL⟩
 obtain ⟨n95, ctl93, rfl, HB, HN91, HD92⟩ := loop_some HL
 have H : merkle_ofBucket.b1 k a1 a6 o86 i87 = some ctl93 := HB
 clear HB HL
 unfold merkle_ofBucket.b1 at H
 refine wp_seq_k fun K98 hK98 => reg ?_
 refine qv F (r_lss F rfl rfl) fun a F => ?_
 refine nil (hK98 _ _ ?_)
 refine wp_seq_k fun K99 hK99 => ?_
 by_cases hb100 : i87 < (a1.length : Int)
 ·replace H := ip hb100 H
  refine wp_cond_true (fb F (dt hb100)) (wp_skip (hK99 _ _ ?_))
  refine wp_seq_k fun K101 hK101 => ?_
  refine wp_block ?_
  refine wp_seq_k fun K102 hK102 => reg ?_
  replace H := ifN H
  obtain ⟨g103, H⟩ := H
  obtain ⟨ad104, cs105, e106, h107, r108⟩ := SL.at h4 i87 g103.1 g103.2
  obtain ⟨A109, C110, A112, C113, rfl, h111, h114⟩ := r108
  replace h111 := SL.fl (i' := 0) h111 (fun q => q)
  replace h114 := SL.fl (i' := 0) h114 (fun q => q)
  obtain ⟨qa115, qqa115⟩ : ∃ q, q = (ad104.add (i87.toNat * 3)) := ⟨_, rfl⟩
  have h107 : AT false j5 c88 w89 qa115 [.slice A109 ((rd a1 i87).Key).length C110, .slice A112 ((rd a1 i87).Value).length C113, .int .i64 ((rd a1 i87).Rev)] := by rw [qqa115]; exact h107
  refine qv F (r_indexAddr' F Try.underlying47 sz_93 rfl rfl g103.1 g103.2 e106 qqa115) fun a F => ?_
  refine qv F (r_loads (cs := [.slice A109 ((rd a1 i87).Key).length C110, .slice A112 ((rd a1 i87).Value).length C113, .int .i64 ((rd a1 i87).Rev)]) F rfl ag_93 sz_93 h107) fun a F => ?_
  refine q_eff F rfl rfl (by decide) (e_alloc F zv_93 c88 (m + 3)) ?_
  rintro v w118 a ⟨c117, qa61, rfl, E119, h63, B120⟩ F
  replace B := B120 _ B lm
  replace h4 := h4.ev E119 nq nq
  replace h85 := h85.ev E119 nq nq nq
  replace h111 := h111.ev E119 nq nq
  replace h114 := h114.ev E119 nq nq
  replace E := E.trans E119 nx
  replace h63 : AT true (m + 3) c117 w118 qa61 [.slice none 0 0, .slice none 0 0, .int .i64 0] := h63
  refine q_eff0 F rfl rfl (e_storeN0 (us := [.slice A109 ((rd a1 i87).Key).length C110, .slice A112 ((rd a1 i87).Value).length C113, .int .i64 ((rd a1 i87).Rev)]) F rfl rfl sz_93 h63 (nb rfl) (one_all rfl)) ?_
  rintro w121 a ⟨E122, h63, Z123⟩ F
  replace B := B.size Z123
  replace h4 := h4.ev E122 (ne_pm bj5) ne_zm
  replace h85 := h85.ev E122 mm mm ne_zm
  replace h111 := h111.ev E122 ne_zm ne_zm
  replace h114 := h114.ev E122 ne_zm ne_zm
  replace E := E.trans E122 lc1
  replace h63 : AT true (m + 3) c117 w121 qa61 [.slice A109 ((rd a1 i87).Key).length C110, .slice A112 ((rd a1 i87).Value).length C113, .int .i64 ((rd a1 i87).Rev)] := h63
  refine nil (hK102 _ _ ?_)
  refine reg ?_
  refine qm F fun a F => ?_
  refine qv F (r_loads (cs := [.slice A109 ((rd a1 i87).Key).length C110, .slice A112 ((rd a1 i87).Value).length C113, .int .i64 ((rd a1 i87).Rev)]) F rfl ag_93 sz_93 h63) fun a F => ?_
  refine qm F fun a F => ?_
  obtain ⟨t69, q70, H⟩ := bind_some H
  refine qc F Try.func93 (merkle_ofRow.calls k (m := m + 4) (pl hm0) B h111 h114 _ q70) ?_
  rintro e w125 ⟨c124, rfl, E126, B127⟩
  refine ⟨_, rfl, fun a F => ?_⟩
  have B := B127
  replace h4 := h4.ev E126 nq nq
  replace h85 := h85.ev E126 nq nq nq
  replace E := E.trans E126 nx
  obtain ⟨t76, q77, H⟩ := bind_some H
  refine qc F Try.func52 (parcel_Writer_Fixed.calls k (m := m + 4) (pl hm0) B h85 ⟨(pl hm0), lm⟩ ⟨(pl hm0), lm, mm⟩ _ q77) ?_
  rintro e w130 ⟨c129, rfl, E131, B132, h133⟩
  refine ⟨_, rfl, fun a F => ?_⟩
  have B := B132
  replace h4 := h4.ev E131 (nor (ne_pm bj5) (ne_pm bj5)) (nor ne_zm ne_zm)
  replace E := E.trans E131 lc2
  refine nil (hK101 _ _ ?_)
  replace F : Fr a 30 [(1, .int .i64 a6), (5, .pointer p15), (15, .slice A2 a1.length C3), (16, .int .i64 (a1.length : Int)), (17, .int .i64 i87)] := F.sub ⟨rfl, rfl, rfl, rfl, rfl, trivial⟩
  refine reg ?_
  refine qv F (r_add F rfl rfl) fun a F => ?_
  refine qm F fun a F => ?_
  refine nil ?_
  replace H := HN91 _ (si H).symm
  exact hX90 _ _ _ (Nat.lt_succ_self _) ⟨t76, (IntKind.i64.wrap (i87 + 1)), c129, F.sub ⟨rfl, rfl, rfl, rfl, rfl, trivial⟩, E, B, h4, h133, H⟩
 replace H := im hb100 H
 refine wp_cond_false (fb F (dz hb100)) ?_
 refine wp_exit ?_
 refine thenE ?_
 refine thenE ?_
 refine inbE ?_
 have hx_ := HD92 _ (si H).symm
 have H := HR96
 rw [← hx_] at H
 exact J141 c88 w89 a o86 (F.sub ⟨rfl, rfl, trivial⟩) E B h85 H
theorem merkle_ofPair.calls (k : Nat) {m : Nat} {c0 : Nat → Nat} {w0 : World} {a1 : Int} {a2 : Int} {a3 : Int} (hm0 : 0 < m) (B0 : CB m c0 w0) (r : Int) (H : merkle_ofPair.f k a1 a2 a3 = some r) : Calls Try.prog 76 #[.int .u64 a1, .int .u64 a2, .int .i64 a3] w0 (fun e w_ => ∃ (c_ : Nat → Nat), e = .returned (.int .u64 r) ∧ Ev (fun x => False) c0 w0 c_ w_ ∧ CB m c_ w_) := by
 unfold merkle_ofPair.f at H
 have B := B0.mono (show m ≤ m + 3 by omega)
 have E : Ev (fun x => False ∨ m ≤ x) c0 w0 c0 w0 := Ev.refl
 refine enter (N := 20) (l := [.int .u64 a1, .int .u64 a2, .int .i64 a3]) Try.func76 rfl rfl (nb rfl) fun a F => ?_
 refine wp_seq_k fun K4 hK4 => reg ?_
 refine qa F fun a F => ?_
 refine nil (hK4 _ _ ?_)
 refine wp_seq_k fun K5 hK5 => reg ?_
 obtain ⟨t6, q7, H⟩ := bind_some H
 refine qc F Try.func46 (parcel_New.calls (m := m + 3) (pl hm0) B (m + 1) lm (m + 2) lm _ q7) ?_
 rintro e w9 ⟨c8, p12, rfl, E10, B11, h13⟩
 refine ⟨_, rfl, fun a F => ?_⟩
 have B := B11
 replace E := E.trans E10 nx
 refine qa F fun a F => ?_
 refine nil (hK5 _ _ ?_)
 refine wp_seq_k fun K15 hK15 => reg ?_
 refine qm F fun a F => ?_
 obtain ⟨t16, q17, H⟩ := bind_some H
 refine qc F Try.func71 (parcel_Writer_Byte.calls (m := m + 3) (pl hm0) B h13 ⟨(pl hm0), lm⟩ ⟨(pl hm0), lm, mm⟩ _ q17) ?_
 rintro e w19 ⟨c18, rfl, E20, B21, h22⟩
 refine ⟨_, rfl, fun a F => ?_⟩
 have B := B21
 replace E := E.trans E20 lc2
 refine nil (hK15 _ _ ?_)
 refine wp_seq_k fun K24 hK24 => reg ?_
 refine qm F fun a F => ?_
 refine qm F fun a F => ?_
 obtain ⟨t25, q26, H⟩ := bind_some H
 refine qc F Try.func52 (parcel_Writer_Fixed.calls k (m := m + 3) (pl hm0) B h22 ⟨(pl hm0), lm⟩ ⟨(pl hm0), lm, mm⟩ _ q26) ?_
 rintro e w28 ⟨c27, rfl, E29, B30, h31⟩
 refine ⟨_, rfl, fun a F => ?_⟩
 have B := B30
 replace E := E.trans E29 lc2
 refine nil (hK24 _ _ ?_)
 replace F : Fr a 20 [(1, .int .u64 a2), (2, .int .i64 a3), (7, .pointer p12)] := F.sub ⟨rfl, rfl, rfl, trivial⟩
 refine wp_seq_k fun K33 hK33 => reg ?_
 refine qm F fun a F => ?_
 refine qm F fun a F => ?_
 obtain ⟨t34, q35, H⟩ := bind_some H
 refine qc F Try.func52 (parcel_Writer_Fixed.calls k (m := m + 3) (pl hm0) B h31 ⟨(pl hm0), lm⟩ ⟨(pl hm0), lm, mm⟩ _ q35) ?_
 rintro e w37 ⟨c36, rfl, E38, B39, h40⟩
 refine ⟨_, rfl, fun a F => ?_⟩
 have B := B39
 replace E := E.trans E38 lc2
 refine nil (hK33 _ _ ?_)
 refine wp_seq_k fun K42 hK42 => reg ?_
 refine qm F fun a F => ?_
 refine qm F fun a F => ?_
 obtain ⟨t43, q44, H⟩ := bind_some H
 refine qc F Try.func94 (merkle_cut.calls k (m := m + 3) (pl hm0) B h40 lm ⟨lm, mm⟩ _ q44) ?_
 rintro e w46 ⟨c45, rfl, E47, B48⟩
 refine ⟨_, rfl, fun a F => ?_⟩
 have B := B48
 replace E := E.trans E47 nx
 refine qa F fun a F => ?_
 refine nil (hK42 _ _ ?_)
 replace F : Fr a 20 [(6, .int .u64 t43)] := F.sub ⟨rfl, trivial⟩
 refine wp_ret ?_
 replace H := si H
 subst H
 refine out1 F rfl rfl ?_
 exact ⟨cf (fun x_ => if x_ < m then x_ else 0) c45, rfl, E.lv B0, cfb⟩
theorem merkle_own.calls {m : Nat} {c0 : Nat → Nat} {w0 : World} {A2 : Option Addr} {C3 : Nat} {A5 : Option Addr} {C6 : Nat} {a1 : api_Row} (hm0 : 0 < m) (B0 : CB m c0 w0) (h4 : SL false (Kint .u8) 0 0 c0 w0 A2 C3 a1.Key) (h7 : SL false (Kint .u8) 0 0 c0 w0 A5 C6 a1.Value) (r : api_Row) (H : merkle_own.f a1 = some r) : Calls Try.prog 74 #[.agg #[.slice A2 a1.Key.length C3, .slice A5 a1.Value.length C6, .int .i64 a1.Rev]] w0 (fun e w_ => ∃ (c_ : Nat → Nat) (A0_ : Option Addr) (C0_ : Nat) (A2_ : Option Addr) (C2_ : Nat), e = .returned (.agg #[.slice A0_ r.Key.length C0_, .slice A2_ r.Value.length C2_, .int .i64 r.Rev]) ∧ Ev (fun x => False) c0 w0 c_ w_ ∧ CB m c_ w_ ∧ SL false (Kint .u8) 0 0 c_ w_ A0_ C0_ r.Key ∧ SL false (Kint .u8) 0 0 c_ w_ A2_ C2_ r.Value) := by
 unfold merkle_own.f at H
 have B := B0.mono (show m ≤ m + 3 by omega)
 have E : Ev (fun x => False ∨ m ≤ x) c0 w0 c0 w0 := Ev.refl
 refine enter (N := 12) (l := [.agg #[.slice A2 a1.Key.length C3, .slice A5 a1.Value.length C6, .int .i64 a1.Rev]]) Try.func74 rfl rfl (nb rfl) fun a F => ?_
 refine wp_seq_k fun K8 hK8 => reg ?_
 refine q_eff F rfl rfl (by decide) (e_box F (v := .agg #[.slice A2 a1.Key.length C3, .slice A5 a1.Value.length C6, .int .i64 a1.Rev]) rfl c0 (m + 1)) ?_
 rintro v w10 a ⟨c9, qa11, rfl, E12, h13, B14⟩ F
 replace B := B14 _ B lm
 replace h4 := h4.ev E12 nq nq
 replace h7 := h7.ev E12 nq nq
 replace E := E.trans E12 nx
 replace h13 : AT true (m + 1) c9 w10 qa11 [.slice A2 a1.Key.length C3, .slice A5 a1.Value.length C6, .int .i64 a1.Rev] := h13
 refine q_eff F rfl rfl (by decide) (e_alloc F zv_93 c9 (m + 2)) ?_
 rintro v w17 a ⟨c16, qa18, rfl, E19, h20, B21⟩ F
 replace B := B21 _ B lm
 replace h4 := h4.ev E19 nq nq
 replace h7 := h7.ev E19 nq nq
 replace h13 := h13.ev E19 nq
 replace E := E.trans E19 nx
 replace h20 : AT true (m + 2) c16 w17 qa18 [.slice none 0 0, .slice none 0 0, .int .i64 0] := h20
 refine nil (hK8 _ _ ?_)
 refine wp_seq_k fun K23 hK23 => ?_
 refine regD (SB No c16 w17) 9 (.q 0 (.q 1 (.q 3 (.q 4 (.q 6 (.q 7 (.e 2 (.e 5 (.q 8 (.e 9 .nil)))))))))) Try_hm (by decide +kernel) ?_
 intro w24 w1_ w2_ w3_ w4_
 have E25 : Ev No c16 w17 c16 w24 := Ev.same w1_ w2_ w3_ w4_
 replace B := B.same w1_
 have zh13 := h13
 have ER : Ev No c16 w17 c16 w24 := Ev.same w1_ w2_ w3_ w4_
 replace h4 := h4.ev E25 nq nq
 replace h7 := h7.ev E25 nq nq
 replace h20 := h20.ev E25 nq
 replace E := E.trans E25 nx
 refine df F ff_93_0 ER.sb fun a F => ?_
 refine dq F (fun wq hS => r_load F rfl ag_28 (AT.cell (AT.sb zh13 hS nq) rfl)) ER.sb fun a F => ?_
 refine df F ff_93_1 ER.sb fun a F => ?_
 refine dq F (fun wq hS => r_load F rfl ag_28 (AT.cell (AT.sb zh13 hS nq) rfl)) ER.sb fun a F => ?_
 refine df F ff_93_2 ER.sb fun a F => ?_
 refine dq F (fun wq hS => r_load F rfl ag_3 (AT.cell (AT.sb zh13 hS nq) rfl)) ER.sb fun a F => ?_
 refine d_e ?_
 obtain ⟨t26, q27, H⟩ := bind_some H
 refine oc F Try.func42 (bytes_Clone.calls (m := m + 3) (pl hm0) B h4 (by omega) 0 (pl hm0) _ q27) ?_
 rintro e w29 ⟨c28, A32, C33, rfl, E30, B31, h34⟩
 refine ⟨_, rfl, fun a F => ?_⟩
 have B := B31
 replace ER := ER.trans E30 nx
 replace h7 := h7.ev E30 nq nq
 replace h20 := h20.ev E30 nq
 replace E := E.trans E30 nx
 refine ⟨fun _ => ER.sb, ?_⟩
 refine d_e ?_
 obtain ⟨t36, q37, H⟩ := bind_some H
 refine oc F Try.func42 (bytes_Clone.calls (m := m + 3) (pl hm0) B h7 (by omega) 0 (pl hm0) _ q37) ?_
 rintro e w39 ⟨c38, A42, C43, rfl, E40, B41, h44⟩
 refine ⟨_, rfl, fun a F => ?_⟩
 have B := B41
 replace ER := ER.trans E40 nx
 replace h20 := h20.ev E40 nq
 replace h34 := h34.ev E40 nq nq
 replace E := E.trans E40 nx
 refine ⟨fun _ => ER.sb, ?_⟩
 refine d_q F rfl rfl rfl (by decide) (fun wq hS => r_build (v := .agg #[.slice A32 t26.length C33, .slice A42 t36.length C43, .int .i64 a1.Rev]) F [(0, .slice A32 t26.length C33), (1, .slice A42 t36.length C43), (2, .int .i64 a1.Rev)] (by exact ⟨rfl, rfl, rfl, rfl, rfl, rfl, trivial⟩) (fun w => by kernel_rfl)) ER.sb fun a F => ?_
 refine d_e ?_
 refine o_eff0 F rfl rfl rfl (e_storeN0 (us := [.slice A32 t26.length C33, .slice A42 t36.length C43, .int .i64 a1.Rev]) F rfl rfl sz_93 h20 (nb rfl) (one_all rfl)) ?_
 rintro w46 a ⟨E47, h20, Z48⟩ F
 replace B := B.size Z48
 replace h34 := h34.ev E47 ne_zm ne_zm
 replace h44 := h44.ev E47 ne_zm ne_zm
 replace E := E.trans E47 lc1
 replace h20 : AT true (m + 2) c38 w46 qa18 [.slice A32 t26.length C33, .slice A42 t36.length C43, .int .i64 a1.Rev] := h20
 refine ⟨fun q => absurd rfl q, ?_⟩
 refine d_nil ?_
 refine hK23 _ _ ?_
 replace F : Fr a 12 [(2, .pointer (some qa18))] := F.sub ⟨rfl, trivial⟩
 refine wp_ret ?_
 replace H := si H
 subst H
 refine outR1 F rfl ⟨_, rfl, lv_agg (cs := [.slice A32 t26.length C33, .slice A42 t36.length C43, .int .i64 a1.Rev]) ag_93 sz_93 h20⟩ ?_
 exact ⟨cf (fun x_ => if x_ < m then x_ else 0) c38, A32, C33, A42, C43, rfl, E.lv B0, cfb, SL.rc h34.r cfk cfk, SL.rc h44.r cfk cfk⟩
end Go.Proofs.Ythankpjbfpcldaa.G
namespace Go.Proofs.Ythankpjbfpcldaa.G
open Go Go.RowKit
set_option linter.unusedVariables false
set_option linter.unusedSimpArgs false
theorem add_add1 (a : Addr) (d : Nat) (hs : a.spot = none) : (a.add d).add 1 = a.add (d + 1) := by
  obtain ⟨b, off, s⟩ := a
  simp only at hs
  subst hs
  by_cases h : d = 0
  · subst h; simp [Addr.add]
  · simp [Addr.add, h]; omega
theorem run_loadBytes {P : Program} {w : World} {a : Addr} {xs : List Int} (hs : a.spot = none) (h : ∀ k : Nat, k < xs.length → w.cell? (a.add k) = some (.int .u8 (rd xs (k : Int)))) :
    ∀ (n d : Nat) (acc : ByteArray), d + n = xs.length → (Extern.Bytes.loadBytes (a.add d) n acc).run P w = .ok ⟨acc.data ++ ((xs.drop d).map fun n => UInt8.ofNat n.toNat).toArray⟩ w
  | 0, d, acc, hd => by
    rw [List.drop_of_length_le (by omega)]
    simp [Extern.Bytes.loadBytes]
  | n + 1, d, acc, hd => by
    have hc := h d (by omega)
    have hx : rd xs (d : Int) = xs[d] := by unfold rd; rw [Int.toNat_natCast, List.getD_eq_getElem?_getD, List.getElem?_eq_getElem (by omega)]; rfl
    have ih := run_loadBytes (P := P) hs h n (d + 1) (acc.push (rd xs (d : Int)).toNat.toUInt8) (by omega)
    unfold Extern.Bytes.loadBytes
    simp only [Sem.run_bind, run_load, hc, Result.andThen, add_add1 a d hs]
    rw [ih, List.drop_eq_getElem_cons (show d < xs.length by omega), hx]
    have hp : ∀ (A : Array UInt8) (v : UInt8) (l : List UInt8), A.push v ++ l.toArray = A ++ (v :: l).toArray := by intro A v l; simp
    rw [List.map_cons, ← hp]
    rfl
theorem run_bytesOf {P : Program} {own : Bool} {j i : Nat} {c : Nat → Nat} {w : World} {A : Option Addr} {C : Nat} {xs : List Int} (h : SL own (Kint .u8) j i c w A C xs) :
    (Extern.Bytes.bytesOf (.slice A xs.length C)).run P w = .ok (bs xs) w := by
  cases xs with
  | nil => cases A with
    | none => rfl
    | some a => simp [Extern.Bytes.bytesOf, Extern.Bytes.loadBytes, bs]; rfl
  | cons x l =>
    obtain ⟨a, cs, rfl, hat, hr⟩ := SL.at h 0 (by omega) (by simp)
    have hs : a.spot = none := by
      obtain ⟨b, off, cur, ty, fz, e, _⟩ := hat
      have e0 : a.add ((0 : Int).toNat * (Kint .u8).sz) = a := by simp [Addr.add]
      rw [e0] at e; rw [e]
    have hc : ∀ k : Nat, k < (x :: l).length → w.cell? (a.add k) = some (.int .u8 (rd (x :: l) (k : Int))) := by
      intro k hk
      obtain ⟨a', cs', ea, hat', hr'⟩ := SL.at h (k : Int) (by omega) (by omega)
      obtain rfl := Option.some.inj ea
      have hr2 : cs' = [.int .u8 (rd (x :: l) (k : Int))] := hr'
      subst hr2
      have e1 : a.add ((k : Int).toNat * (Kint .u8).sz) = a.add k := by show a.add ((k : Int).toNat * 1) = _; simp
      rw [e1] at hat'
      exact AT.cell0 hat' rfl
    have := run_loadBytes (P := P) hs hc (x :: l).length 0 .empty (by simp)
    have e0 : a.add 0 = a := by simp [Addr.add]
    rw [e0] at this
    show (Extern.Bytes.loadBytes a (x :: l).length .empty).run P w = _
    rw [this]
    simp [bs]
theorem run_compare {P : Program} {own own' : Bool} {j i j' i' : Nat} {c c' : Nat → Nat} {w : World} {A A' : Option Addr} {C C' : Nat} {xs ys : List Int} (h : SL own (Kint .u8) j i c w A C xs) (h' : SL own' (Kint .u8) j' i' c' w A' C' ys) :
    (Extern.BytealgCompare.compare #[.slice A xs.length C, .slice A' ys.length C']).run P w = .ok (.int .i64 (Extern.BytealgCompare.cmp (bs xs) (bs ys))) w := by
  change Sem.run P (do pure (goInt (Extern.BytealgCompare.cmp (← Extern.Bytes.bytesOf (.slice A xs.length C)) (← Extern.Bytes.bytesOf (.slice A' ys.length C'))))) w = _
  simp only [Sem.run_bind, run_bytesOf h, run_bytesOf h', Sem.run_pure, Result.andThen]
  rfl
section
variable {P : Program} {a : Act} {N : Nat} {L : List (Nat × Value)} {D : List Deferred} {w w' : World} {v u : Value} {x y : Operand} {d : Option Tmp} {t ty : TypeId} {pos : String} {af : Array Edge} {gd : Option (Nat × Bool)}
theorem r_extern (F : Fr a N L D) {f : FuncId} {fn : Func} {e : Array Value → Sem Value} {oz : Array Operand} {ats : Array TypeId} {vs : List Value} {v : Value} (hf : P.funcs[f]? = some fn) (hname : (fn.name == "runtime.NumGoroutine") = false) (hb : fn.body.isNone = true) (hnx : Extern.findNext fn = none) (he : Extern.find fn = some e) (hv : oz.toList.map (ev L) = vs.map some) (hr : (e vs.toArray).run P w = .ok v w) :
    (execOp a.eval { dst := d, op := .call { callee := .value (.func f), args := oz, argTypes := ats }, type := ty, pos := pos, after := af, guard := gd }).run P w = .ok (.value v) w := by
  have eo := oz_eval F hv
  have ef : a.eval (.func f) = .func (.func f) #[] #[] := rfl
  have hc := run_callFunc_extern hf hname hb hnx he vs.toArray w
  rw [hr] at hc
  simp [execOp, resolve, Deferred.ofValue, ef, eo, invoke, hc, Result.andThen]
end
set_option maxHeartbeats 1000000 in
theorem bytes_Compare.calls {m : Nat} {c0 : Nat → Nat} {w0 : World} {j1 j4 : Nat} {A2 A5 : Option Addr} {C3 C6 : Nat} {a1 a4 : List Int} (hm0 : 0 < m) (B0 : CB m c0 w0) (h1 : SL false (Kint .u8) j1 0 c0 w0 A2 C3 a1) (h4 : SL false (Kint .u8) j4 0 c0 w0 A5 C6 a4) (bj1 : j1 < m) (bj4 : j4 < m) (r : Int) (H : bytes_Compare.f a1 a4 = some r) :
    Calls Try.prog 100 #[.slice A2 a1.length C3, .slice A5 a4.length C6] w0 (fun e w_ => ∃ (c_ : Nat → Nat), e = .returned (.int .i64 r) ∧ Ev (fun x => False) c0 w0 c_ w_ ∧ CB m c_ w_) := by
  unfold bytes_Compare.f at H
  have H := Option.some.inj H
  subst H
  refine enter (N := 8) (l := [.slice A2 a1.length C3, .slice A5 a4.length C6]) Try.func100 rfl rfl (Nat.le_of_ble_eq_true rfl) fun a F => ?_
  refine wp_seq_k fun K5 hK5 => ?_
  refine reg ?_
  refine q_val F rfl rfl (by decide) (r_assign F rfl) fun a F => ?_
  refine nil ?_
  refine hK5 _ _ ?_
  refine wp_seq_k fun K6 hK6 => ?_
  refine reg ?_
  refine q_val F rfl rfl (by decide) (r_move F rfl) fun a F => ?_
  refine q_val F rfl rfl (by decide) (r_move F rfl) fun a F => ?_
  refine q_val F rfl rfl (by decide) (r_extern F Try.func102 (by kernel_rfl) (by kernel_rfl) (by kernel_rfl) (e := Extern.BytealgCompare.compare) (by kernel_rfl) rfl (run_compare h1 h4)) fun a F => ?_
  refine q_val F rfl rfl (by decide) (r_assign F rfl) fun a F => ?_
  refine nil ?_
  refine hK6 _ _ ?_
  refine wp_ret ?_
  refine out1 F rfl rfl ?_
  exact ⟨c0, rfl, Ev.refl, B0⟩
end Go.Proofs.Ythankpjbfpcldaa.G
namespace Go.Proofs.Ythankpjbfpcldaa.G
open Go Go.RowKit
set_option linter.unusedVariables false
set_option linter.unusedSimpArgs false
set_option maxRecDepth 100000
set_option maxHeartbeats 40000000
theorem merkle_byKey.calls {m : Nat} {c0 : Nat → Nat} {w0 : World} {A2 : Option Addr} {C3 : Nat} {A5 : Option Addr} {C6 : Nat} {A9 : Option Addr} {C10 : Nat} {A12 : Option Addr} {C13 : Nat} {a1 : api_Row} {a8 : api_Row} (hm0 : 0 < m) (B0 : CB m c0 w0) (h4 : SL false (Kint .u8) 0 0 c0 w0 A2 C3 a1.Key) (h7 : SL false (Kint .u8) 0 0 c0 w0 A5 C6 a1.Value) (h11 : SL false (Kint .u8) 0 0 c0 w0 A9 C10 a8.Key) (h14 : SL false (Kint .u8) 0 0 c0 w0 A12 C13 a8.Value) (r : Int) (H : merkle_byKey.f a1 a8 = some r) : Calls Try.prog 92 #[.agg #[.slice A2 a1.Key.length C3, .slice A5 a1.Value.length C6, .int .i64 a1.Rev], .agg #[.slice A9 a8.Key.length C10, .slice A12 a8.Value.length C13, .int .i64 a8.Rev]] w0 (fun e w_ => ∃ (c_ : Nat → Nat), e = .returned (.int .i64 r) ∧ Ev (fun x => False) c0 w0 c_ w_ ∧ CB m c_ w_) := by
 unfold merkle_byKey.f at H
 have B := B0.mono (show m ≤ m + 3 by omega)
 have E : Ev (fun x => False ∨ m ≤ x) c0 w0 c0 w0 := Ev.refl
 refine enter (N := 10) (l := [.agg #[.slice A2 a1.Key.length C3, .slice A5 a1.Value.length C6, .int .i64 a1.Rev], .agg #[.slice A9 a8.Key.length C10, .slice A12 a8.Value.length C13, .int .i64 a8.Rev]]) Try.func92 rfl rfl (nb rfl) fun a F => ?_
 refine wp_seq_k fun K15 hK15 => reg ?_
 refine q_eff F rfl rfl (by decide) (e_box F (v := .agg #[.slice A2 a1.Key.length C3, .slice A5 a1.Value.length C6, .int .i64 a1.Rev]) rfl c0 (m + 1)) ?_
 rintro v w17 a ⟨c16, qa18, rfl, E19, h20, B21⟩ F
 replace B := B21 _ B lm
 replace h4 := h4.ev E19 nq nq
 replace h11 := h11.ev E19 nq nq
 replace E := E.trans E19 nx
 replace h20 : AT true (m + 1) c16 w17 qa18 [.slice A2 a1.Key.length C3, .slice A5 a1.Value.length C6, .int .i64 a1.Rev] := h20
 refine q_eff F rfl rfl (by decide) (e_box F (v := .agg #[.slice A9 a8.Key.length C10, .slice A12 a8.Value.length C13, .int .i64 a8.Rev]) rfl c16 (m + 2)) ?_
 rintro v w24 a ⟨c23, qa25, rfl, E26, h27, B28⟩ F
 replace B := B28 _ B lm
 replace h4 := h4.ev E26 nq nq
 replace h11 := h11.ev E26 nq nq
 replace h20 := h20.ev E26 nq
 replace E := E.trans E26 nx
 replace h27 : AT true (m + 2) c23 w24 qa25 [.slice A9 a8.Key.length C10, .slice A12 a8.Value.length C13, .int .i64 a8.Rev] := h27
 refine qa F fun a F => ?_
 refine nil (hK15 _ _ ?_)
 refine wp_seq_k fun K30 hK30 => reg ?_
 refine qf F ff_93_0 fun a F => ?_
 refine qv F (r_load F rfl ag_28 (AT.cell h20 rfl)) fun a F => ?_
 refine qf F ff_93_0 fun a F => ?_
 refine qv F (r_load F rfl ag_28 (AT.cell h27 rfl)) fun a F => ?_
 obtain ⟨t31, q32, H⟩ := bind_some H
 refine qc F Try.func100 (bytes_Compare.calls (m := m + 3) (pl hm0) B h4 h11 (by omega) (by omega) _ q32) ?_
 rintro e w34 ⟨c33, rfl, E35, B36⟩
 refine ⟨_, rfl, fun a F => ?_⟩
 have B := B36
 replace E := E.trans E35 nx
 refine qa F fun a F => ?_
 refine nil (hK30 _ _ ?_)
 replace F : Fr a 10 [(4, .int .i64 t31)] := F.sub ⟨rfl, trivial⟩
 refine wp_ret ?_
 replace H := si H
 subst H
 refine out1 F rfl rfl ?_
 exact ⟨cf (fun x_ => if x_ < m then x_ else 0) c33, rfl, E.lv B0, cfb⟩
theorem merkle_rising.calls (k : Nat) {m : Nat} {c0 : Nat → Nat} {w0 : World} {A2 : Option Addr} {C3 : Nat} {a1 : List api_Row} (hm0 : 0 < m) (B0 : CB m c0 w0) (h4 : SL false K_api_Row 0 0 c0 w0 A2 C3 a1) (r : Bool) (H : merkle_rising.f k a1 = some r) : Calls Try.prog 72 #[.slice A2 a1.length C3] w0 (fun e w_ => ∃ (c_ : Nat → Nat), e = .returned (.bool r) ∧ Ev (fun x => False) c0 w0 c_ w_ ∧ CB m c_ w_) := by
 unfold merkle_rising.f at H
 have B := B0.mono (show m ≤ m + 1 by omega)
 have E : Ev (fun x => False ∨ m ≤ x) c0 w0 c0 w0 := Ev.refl
 refine enter (N := 21) (l := [.slice A2 a1.length C3]) Try.func72 rfl rfl (nb rfl) fun a F => ?_
 refine wp_seq_k fun K5 hK5 => reg ?_
 refine qa F fun a F => ?_
 refine nil (hK5 _ _ ?_)
 refine wp_seq_k fun K6 hK6 => ?_
 refine wp_seq_k fun K7 hK7 => reg ?_
 refine qa F fun a F => ?_
 refine nil (hK7 _ _ ?_)
 refine wp_block ?_
 obtain ⟨x19, HL, HR18⟩ := bind_some H
 have J66 : ∀ (c67 : Nat → Nat) (w68 : World) (a : Act), Fr a 21 [] → Ev (fun x => False ∨ m ≤ x) c0 w0 c67 w68 → CB (m + 1) c67 w68 → merkle_rising.j2 = some r → K6 a w68 := by
  intro c67 w68 a  F E B  H
  unfold merkle_rising.j2 at H
  refine hK6 _ _ ?_
  refine wp_seq_k fun K69 hK69 => reg ?_
  refine qa F fun a F => ?_
  refine nil (hK69 _ _ ?_)
  refine wp_ret ?_
  replace H := si H
  subst H
  refine out1 F rfl rfl ?_
  exact ⟨cf (fun x_ => if x_ < m then x_ else 0) c67, rfl, E.lv B0, cfb⟩
 refine loop_fuel (I := fun n a w => ∃ (i9 : Int) (c : Nat → Nat), Fr a 21 [(0, .slice A2 a1.length C3), (3, .int .i64 i9)] ∧ Ev (fun x => False ∨ m ≤ x) c0 w0 c w ∧ CB (m + 1) c w ∧ SL false K_api_Row 0 0 c w A2 C3 a1 ∧ loop (fun (s_ : Int) => merkle_rising.b1 a1 s_) n i9 = some x19) (k := k) ⟨1, c0, F.sub ⟨rfl, rfl, trivial⟩, E, B, h4, HL⟩ ?_
 clear HL H E F B
 intro n16 X12 hX12 a w11 ⟨i9, c10, F, E, B, h4, HL⟩
 obtain ⟨n17, ctl15, rfl, HB, HN13, HD14⟩ := loop_some HL
 have H : merkle_rising.b1 a1 i9 = some ctl15 := HB
 clear HB HL
 unfold merkle_rising.b1 at H
 refine wp_seq_k fun K20 hK20 => ?_
 refine wp_seq_k fun K21 hK21 => reg ?_
 refine qm F fun a F => ?_
 refine qm F fun a F => ?_
 refine qv F (r_lensl F Try.underlying47 rfl) fun a F => ?_
 refine qv F (r_lss F rfl rfl) fun a F => ?_
 refine nil (hK21 _ _ ?_)
 by_cases hb22 : i9 < (a1.length : Int)
 ·replace H := ip hb22 H
  refine wp_cond_true (fb F (dt hb22)) (wp_skip (hK20 _ _ ?_))
  refine wp_seq_k fun K23 hK23 => ?_
  refine wp_block ?_
  refine wp_seq_k fun K24 hK24 => ?_
  refine regD (SB No c10 w11) 11 (.q 0 (.q 1 (.q 2 (.q 3 (.q 4 (.q 5 (.q 6 (.q 7 (.q 8 (.e 9 (.q 10 .nil))))))))))) Try_hm (by decide +kernel) ?_
  intro w25 w1_ w2_ w3_ w4_
  have E26 : Ev No c10 w11 c10 w25 := Ev.same w1_ w2_ w3_ w4_
  replace B := B.same w1_
  have zh4 := h4
  have ER : Ev No c10 w11 c10 w25 := Ev.same w1_ w2_ w3_ w4_
  replace h4 := h4.ev E26 nq nq
  replace E := E.trans E26 nx
  refine dm F ER.sb fun a F => ?_
  refine dm F ER.sb fun a F => ?_
  refine dq F (fun wq hS => r_sub F rfl rfl) ER.sb fun a F => ?_
  replace H := ifN H
  obtain ⟨g27, H⟩ := H
  obtain ⟨ad28, cs29, e30, h31, r32⟩ := SL.at zh4 (IntKind.i64.wrap (i9 - 1)) g27.1 g27.2
  obtain ⟨A33, C34, A36, C37, rfl, h35, h38⟩ := r32
  replace h35 := SL.fl (i' := 0) h35 (fun q => q)
  replace h38 := SL.fl (i' := 0) h38 (fun q => q)
  obtain ⟨qa39, qqa39⟩ : ∃ q, q = (ad28.add ((IntKind.i64.wrap (i9 - 1)).toNat * 3)) := ⟨_, rfl⟩
  have h31 : AT false 0 c10 w11 qa39 [.slice A33 ((rd a1 (IntKind.i64.wrap (i9 - 1))).Key).length C34, .slice A36 ((rd a1 (IntKind.i64.wrap (i9 - 1))).Value).length C37, .int .i64 ((rd a1 (IntKind.i64.wrap (i9 - 1))).Rev)] := by rw [qqa39]; exact h31
  replace h35 := h35.ev ER nq nq
  replace h38 := h38.ev ER nq nq
  have zh31 := h31
  refine dq F (fun wq hS => r_indexAddr' F Try.underlying47 sz_93 rfl rfl g27.1 g27.2 e30 qqa39) ER.sb fun a F => ?_
  refine dq F (fun wq hS => r_loads (cs := [.slice A33 ((rd a1 (IntKind.i64.wrap (i9 - 1))).Key).length C34, .slice A36 ((rd a1 (IntKind.i64.wrap (i9 - 1))).Value).length C37, .int .i64 ((rd a1 (IntKind.i64.wrap (i9 - 1))).Rev)]) F rfl ag_93 sz_93 (AT.sb zh31 hS nq)) ER.sb fun a F => ?_
  refine dm F ER.sb fun a F => ?_
  refine dm F ER.sb fun a F => ?_
  replace H := ifN H
  obtain ⟨g41, H⟩ := H
  obtain ⟨ad42, cs43, e44, h45, r46⟩ := SL.at zh4 i9 g41.1 g41.2
  obtain ⟨A47, C48, A50, C51, rfl, h49, h52⟩ := r46
  replace h49 := SL.fl (i' := 0) h49 (fun q => q)
  replace h52 := SL.fl (i' := 0) h52 (fun q => q)
  obtain ⟨qa53, qqa53⟩ : ∃ q, q = (ad42.add (i9.toNat * 3)) := ⟨_, rfl⟩
  have h45 : AT false 0 c10 w11 qa53 [.slice A47 ((rd a1 i9).Key).length C48, .slice A50 ((rd a1 i9).Value).length C51, .int .i64 ((rd a1 i9).Rev)] := by rw [qqa53]; exact h45
  replace h49 := h49.ev ER nq nq
  replace h52 := h52.ev ER nq nq
  have zh45 := h45
  refine dq F (fun wq hS => r_indexAddr' F Try.underlying47 sz_93 rfl rfl g41.1 g41.2 e44 qqa53) ER.sb fun a F => ?_
  refine dq F (fun wq hS => r_loads (cs := [.slice A47 ((rd a1 i9).Key).length C48, .slice A50 ((rd a1 i9).Value).length C51, .int .i64 ((rd a1 i9).Rev)]) F rfl ag_93 sz_93 (AT.sb zh45 hS nq)) ER.sb fun a F => ?_
  refine d_e ?_
  obtain ⟨t55, q56, H⟩ := bind_some H
  refine oc F Try.func92 (merkle_byKey.calls (m := m + 1) (pl hm0) B h35 h38 h49 h52 _ q56) ?_
  rintro e w58 ⟨c57, rfl, E59, B60⟩
  refine ⟨_, rfl, fun a F => ?_⟩
  have B := B60
  replace ER := ER.trans E59 nx
  replace h4 := h4.ev E59 nq nq
  replace E := E.trans E59 nx
  refine ⟨fun _ => ER.sb, ?_⟩
  refine dq F (fun wq hS => r_geq F rfl rfl) ER.sb fun a F => ?_
  refine d_nil ?_
  refine hK24 _ _ ?_
  replace F : Fr a 21 [(0, .slice A2 a1.length C3), (3, .int .i64 i9), (20, .bool (decide (0 ≤ t55)))] := F.sub ⟨rfl, rfl, rfl, trivial⟩
  by_cases hb62 : 0 ≤ t55
  ·replace H := ip hb62 H
   refine wp_cond_true (fb F (dt hb62)) ?_
   refine wp_seq_k fun K63 hK63 => reg ?_
   refine qa F fun a F => ?_
   refine nil (hK63 _ _ ?_)
   refine wp_ret ?_
   refine inbR ?_
   refine thenR ?_
   refine thenR ?_
   refine inbR ?_
   refine thenR ?_
   have hx_ := HD14 _ (si H).symm
   have H := HR18
   rw [← hx_] at H
   replace H : some false = some r := H
   replace H := si H
   subst H
   refine out1 F rfl rfl ?_
   exact ⟨cf (fun x_ => if x_ < m then x_ else 0) c57, rfl, E.lv B0, cfb⟩
  replace H := im hb62 H
  refine wp_cond_false (fb F (dz hb62)) (wp_skip (hK23 _ _ ?_))
  refine reg ?_
  refine qm F fun a F => ?_
  refine qv F (r_add F rfl rfl) fun a F => ?_
  refine qa F fun a F => ?_
  refine nil ?_
  replace H := HN13 _ (si H).symm
  exact hX12 _ _ _ (Nat.lt_succ_self _) ⟨(IntKind.i64.wrap (i9 + 1)), c57, F.sub ⟨rfl, rfl, trivial⟩, E, B, h4, H⟩
 replace H := im hb22 H
 refine wp_cond_false (fb F (dz hb22)) ?_
 refine wp_exit ?_
 refine thenE ?_
 refine thenE ?_
 refine inbE ?_
 have hx_ := HD14 _ (si H).symm
 have H := HR18
 rw [← hx_] at H
 exact J66 c10 w11 a  (F.sub trivial) E B  H
end Go.Proofs.Ythankpjbfpcldaa.G