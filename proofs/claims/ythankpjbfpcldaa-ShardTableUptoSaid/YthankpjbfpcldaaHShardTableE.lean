/- Words, contracts and plain laws on which the row of 'ShardTable' hangs (its '..UptoSaid': inputs of bulk at most 1048576). -/
import Derived.Test.YthankpjbfpcldaaHShardTableB
import Derived.Test.YthankpjbfpcldaaHShardTableC
import Derived.Test.YthankpjbfpcldaaHShardTableD
namespace Go.Proofs.Ythankpjbfpcldaa.G
open Go Go.RowKit
set_option linter.unusedVariables false
set_option linter.unusedSimpArgs false
set_option maxRecDepth 100000 in
set_option maxHeartbeats 4000000 in
theorem shard_Shard_next.calls (k : Nat) {m : Nat} {c0 : Nat → Nat} {w0 : World} {j4 : Nat} {j5 : Nat} {p2 : Option Addr} {A9 : Option Addr} {C10 : Nat} {A12 : Option Addr} {C13 : Nat} {a1 : Option Sha} {a6 : Int} {a7 : Int} {a8 : api_Op} (hm0 : 0 < m) (B0 : CB m c0 w0) (h3 : SH j4 j5 c0 w0 p2 a1) (h11 : SL false (Kint .u8) 0 0 c0 w0 A9 C10 a8.Key) (h14 : SL false (Kint .u8) 0 0 c0 w0 A12 C13 a8.Value) (bj4 : j4 < m) (bj5 : j5 < m ∧ j5 ≠ j4) (jr351 : Nat) (bjr351 : jr351 < m) (jr352 : Nat) (bjr352 : jr352 < m) (r : (Option (Option Sha)) × api_Answer × Bool × Int) (H : shard_Shard_next.f k a1 a6 a7 a8 = some r) : Calls Try.prog 37 #[.pointer p2, .int .i64 a6, .int .i64 a7, .agg #[.int .i64 a8.Kind, .slice A9 a8.Key.length C10, .slice A12 a8.Value.length C13, .int .i64 a8.Rev]] w0 (fun e w_ => ∃ (c_ : Nat → Nat) (P0_ : Option Addr) (A1_ : Option Addr) (C1_ : Nat) (A3_ : Option Addr) (C3_ : Nat), e = .returned (.tuple #[.pointer P0_, .agg #[.bool r.2.1.Done, .slice A1_ r.2.1.Key.length C1_, .slice A3_ r.2.1.Value.length C3_, .int .i64 r.2.1.Rev, .int .i64 r.2.1.At], .bool r.2.2.1, .int .i64 r.2.2.2]) ∧ Ev (fun x => False) c0 w0 c_ w_ ∧ CB m c_ w_ ∧ alc r.1 (P0_ = p2) (fun o_ => SH jr351 jr352 c_ w_ P0_ o_) ∧ SL false (Kint .u8) 0 0 c_ w_ A1_ C1_ r.2.1.Key ∧ SL false (Kint .u8) 0 0 c_ w_ A3_ C3_ r.2.1.Value) := by
 unfold shard_Shard_next.f at H
 have B := B0.mono (show m ≤ m + 6 by omega)
 have E : Ev (fun x => False ∨ m ≤ x) c0 w0 c0 w0 := Ev.refl
 refine enter (N := 111) (l := [.pointer p2, .int .i64 a6, .int .i64 a7, .agg #[.int .i64 a8.Kind, .slice A9 a8.Key.length C10, .slice A12 a8.Value.length C13, .int .i64 a8.Rev]]) Try.func37 rfl rfl (Nat.le_of_ble_eq_true rfl) fun a F => ?_
 refine wp_seq_k fun K15 hK15 => ?_
 refine reg ?_
 refine q_eff F rfl rfl (by decide) (e_box F (v := .agg #[.int .i64 a8.Kind, .slice A9 a8.Key.length C10, .slice A12 a8.Value.length C13, .int .i64 a8.Rev]) rfl c0 (m + 1)) ?_
 rintro v w17 a ⟨c16, qa18, rfl, E19, h20, B21⟩ F
 replace B := B21 _ B (Nat.add_lt_add_left (by decide) m)
 replace h3 := SH.ev h3 E19 (fun q => q.elim) (fun q => q.elim) (fun q => q.elim)
 replace h11 := SL.ev h11 E19 (fun q => q.elim) (fun q => q.elim)
 replace h14 := SL.ev h14 E19 (fun q => q.elim) (fun q => q.elim)
 replace E := E.trans E19 (fun x q => q.elim)
 replace h20 : AT true (m + 1) c16 w17 qa18 [.int .i64 a8.Kind, .slice A9 a8.Key.length C10, .slice A12 a8.Value.length C13, .int .i64 a8.Rev] := h20
 refine q_val F rfl rfl (by decide) (r_assign F rfl) fun a F => ?_
 refine q_eff F rfl rfl (by decide) (e_alloc F zv_34 c16 (m + 2)) ?_
 rintro v w24 a ⟨c23, qa25, rfl, E26, h27, B28⟩ F
 replace B := B28 _ B (Nat.add_lt_add_left (by decide) m)
 replace h3 := SH.ev h3 E26 (fun q => q.elim) (fun q => q.elim) (fun q => q.elim)
 replace h11 := SL.ev h11 E26 (fun q => q.elim) (fun q => q.elim)
 replace h14 := SL.ev h14 E26 (fun q => q.elim) (fun q => q.elim)
 replace h20 := AT.ev h20 E26 (fun q => q.elim)
 replace E := E.trans E26 (fun x q => q.elim)
 replace h27 : AT true (m + 2) c23 w24 qa25 [.bool false, .slice none 0 0, .slice none 0 0, .int .i64 0, .int .i64 0] := h27
 refine q_val F rfl rfl (by decide) (r_assign F rfl) fun a F => ?_
 refine q_val F rfl rfl (by decide) (r_assign F rfl) fun a F => ?_
 refine nil ?_
 refine hK15 _ _ ?_
 refine wp_seq_k fun K30 hK30 => ?_
 refine wp_block ?_
 refine wp_seq_k fun K31 hK31 => ?_
 refine reg ?_
 refine q_val F rfl rfl (by decide) (r_move F rfl) fun a F => ?_
 refine q_val F rfl rfl (by decide) (r_peqlA F Try.underlying24 rfl rfl (SH.isNone h3)) fun a F => ?_
 refine q_val F rfl rfl (by decide) (r_assign F rfl) fun a F => ?_
 refine nil ?_
 refine hK31 _ _ ?_
 by_cases hb32 : (Option.isNone a1) = true
 ·replace H := (if_pos hb32).symm.trans H
  refine wp_cond_true ((F.ev rfl).trans (congrArg Value.bool hb32)) ?_
  refine wp_seq_k fun K33 hK33 => ?_
  refine reg ?_
  refine q_val F rfl rfl (by decide) (r_build (v := .agg #[.bool false, .slice none 0 0, .slice none 0 0, .int .i64 0, .int .i64 0]) F [] (by exact trivial) (fun w => by kernel_rfl)) fun a F => ?_
  refine q_val F rfl rfl (by decide) (r_assign F rfl) fun a F => ?_
  refine q_eff0 F rfl rfl (e_storeN0 (us := [.bool false, .slice none 0 0, .slice none 0 0, .int .i64 0, .int .i64 0]) F rfl rfl sz_34 h27 (Nat.le_of_ble_eq_true rfl) (one_all rfl)) ?_
  rintro w34 a ⟨E35, h27, Z36⟩ F
  replace B := B.size Z36
  replace h3 := SH.ev h3 E35 (ne_pm bj4) (ne_pm bj5.1) ne_zm
  replace h11 := SL.ev h11 E35 ne_zm ne_zm
  replace h14 := SL.ev h14 E35 ne_zm ne_zm
  replace h20 := AT.ev h20 E35 (ne_mm (by decide))
  replace E := E.trans E35 (fun x (q : x = m + 2) => Or.inr (le_col q))
  replace h27 : AT true (m + 2) c23 w34 qa25 [.bool false, .slice none 0 0, .slice none 0 0, .int .i64 0, .int .i64 0] := h27
  refine q_val F rfl rfl (by decide) (r_assign F rfl) fun a F => ?_
  refine q_val F rfl rfl (by decide) (r_assign F rfl) fun a F => ?_
  refine nil ?_
  refine hK33 _ _ ?_
  replace F : Fr a 111 [(8, .pointer none), (9, .pointer (some qa25)), (10, .bool false), (11, .int .i64 1)] := F.sub ⟨rfl, rfl, rfl, rfl, trivial⟩
  refine wp_ret ?_
  refine inbR ?_
  refine thenR ?_
  replace H := Option.some.inj H
  subst H
  refine outR4 F rfl rfl ⟨_, rfl, lv_agg (cs := [.bool false, .slice none 0 0, .slice none 0 0, .int .i64 0, .int .i64 0]) ag_34 sz_34 h27⟩ rfl rfl ?_
  exact ⟨fun b_ => (fun x_ => if x_ = m + 3 then jr351 else if x_ = m + 4 then jr352 else if x_ < m then x_ else 0) (c23 b_), none, none, 0, none, 0, rfl, E.leave B0 (fun x_ => if x_ = m + 3 then jr351 else if x_ = m + 4 then jr352 else if x_ < m then x_ else 0) (by intro x_ hx_; show (if x_ = m + 3 then jr351 else if x_ = m + 4 then jr352 else if x_ < m then x_ else 0) = x_; ((repeat' split) <;> omega)), (fun b_ hb_ => by show (if (c23 b_) = m + 3 then jr351 else if (c23 b_) = m + 4 then jr352 else if (c23 b_) < m then (c23 b_) else 0) < m; ((repeat' split) <;> omega)), alc_mk (SH.nil), SL.nil, SL.nil⟩
 ·replace H := (if_neg hb32).symm.trans H
  refine wp_cond_false ((F.ev rfl).trans (congrArg Value.bool (bfalse hb32))) ?_
  refine wp_seq_k fun K37 hK37 => ?_
  have J42 : ∀ (c43 : Nat → Nat) (w44 : World) (a : Act) (b41 : Bool), Fr a 111 [(0, .pointer p2), (1, .int .i64 a6), (2, .int .i64 a7), (7, .pointer (some qa18)), (9, .pointer (some qa25)), (19, .bool b41)] → Ev (fun x => False ∨ m ≤ x) c0 w0 c43 w44 → CB (m + 6) c43 w44 → AT true (m + 1) c43 w44 qa18 [.int .i64 a8.Kind, .slice A9 a8.Key.length C10, .slice A12 a8.Value.length C13, .int .i64 a8.Rev] → AT true (m + 2) c43 w44 qa25 [.bool false, .slice none 0 0, .slice none 0 0, .int .i64 0, .int .i64 0] → SH j4 j5 c43 w44 p2 a1 → SL false (Kint .u8) 0 0 c43 w44 A9 C10 a8.Key → SL false (Kint .u8) 0 0 c43 w44 A12 C13 a8.Value → shard_Shard_next.j1 k a1 a6 a7 a8 b41 = some r → K37 a w44 := by
   intro c43 w44 a b41 F E B h20 h27 h3 h11 h14 H
   unfold shard_Shard_next.j1 at H
   refine hK37 _ _ ?_
   by_cases hb45 : b41 = true
   ·replace H := (if_pos hb45).symm.trans H
    refine wp_cond_true ((F.ev rfl).trans (congrArg Value.bool hb45)) ?_
    refine wp_seq_k fun K46 hK46 => ?_
    refine reg ?_
    refine q_val F rfl rfl (by decide) (r_build (v := .agg #[.bool false, .slice none 0 0, .slice none 0 0, .int .i64 0, .int .i64 0]) F [] (by exact trivial) (fun w => by kernel_rfl)) fun a F => ?_
    refine q_val F rfl rfl (by decide) (r_assign F rfl) fun a F => ?_
    refine q_eff0 F rfl rfl (e_storeN0 (us := [.bool false, .slice none 0 0, .slice none 0 0, .int .i64 0, .int .i64 0]) F rfl rfl sz_34 h27 (Nat.le_of_ble_eq_true rfl) (one_all rfl)) ?_
    rintro w47 a ⟨E48, h27, Z49⟩ F
    replace B := B.size Z49
    replace h20 := AT.ev h20 E48 (ne_mm (by decide))
    replace h3 := SH.ev h3 E48 (ne_pm bj4) (ne_pm bj5.1) ne_zm
    replace h11 := SL.ev h11 E48 ne_zm ne_zm
    replace h14 := SL.ev h14 E48 ne_zm ne_zm
    replace E := E.trans E48 (fun x (q : x = m + 2) => Or.inr (le_col q))
    replace h27 : AT true (m + 2) c43 w47 qa25 [.bool false, .slice none 0 0, .slice none 0 0, .int .i64 0, .int .i64 0] := h27
    refine q_val F rfl rfl (by decide) (r_assign F rfl) fun a F => ?_
    refine q_val F rfl rfl (by decide) (r_assign F rfl) fun a F => ?_
    refine nil ?_
    refine hK46 _ _ ?_
    refine wp_ret ?_
    refine inbR ?_
    refine thenR ?_
    replace H := Option.some.inj H
    subst H
    refine outR4 F rfl rfl ⟨_, rfl, lv_agg (cs := [.bool false, .slice none 0 0, .slice none 0 0, .int .i64 0, .int .i64 0]) ag_34 sz_34 h27⟩ rfl rfl ?_
    exact ⟨fun b_ => (fun x_ => if x_ = m + 3 then jr351 else if x_ = m + 4 then jr352 else if x_ < m then x_ else 0) (c43 b_), none, none, 0, none, 0, rfl, E.leave B0 (fun x_ => if x_ = m + 3 then jr351 else if x_ = m + 4 then jr352 else if x_ < m then x_ else 0) (by intro x_ hx_; show (if x_ = m + 3 then jr351 else if x_ = m + 4 then jr352 else if x_ < m then x_ else 0) = x_; ((repeat' split) <;> omega)), (fun b_ hb_ => by show (if (c43 b_) = m + 3 then jr351 else if (c43 b_) = m + 4 then jr352 else if (c43 b_) < m then (c43 b_) else 0) < m; ((repeat' split) <;> omega)), alc_mk (SH.nil), SL.nil, SL.nil⟩
   ·replace H := (if_neg hb45).symm.trans H
    refine wp_cond_false ((F.ev rfl).trans (congrArg Value.bool (bfalse hb45))) ?_
    refine wp_seq_k fun K50 hK50 => ?_
    refine reg ?_
    refine q_val F rfl rfl (by decide) (r_loads (cs := [.int .i64 a8.Kind, .slice A9 a8.Key.length C10, .slice A12 a8.Value.length C13, .int .i64 a8.Rev]) F rfl ag_30 sz_30 h20) fun a F => ?_
    replace H := bind_some H
    obtain ⟨t51, q52, H⟩ := H
    refine q_call F rfl rfl (by decide) (r_call F Try.func24 rfl (by kernel_rfl) rfl) (table_Right.calls (m := m + 6) (Nat.add_pos_left hm0 _) B h11 h14 _ q52) ?_
    rintro e w54 ⟨c53, rfl, E55, B56⟩
    refine ⟨_, rfl, fun a F => ?_⟩
    have B := B56
    replace h20 := AT.ev h20 E55 (fun q => q.elim)
    replace h27 := AT.ev h27 E55 (fun q => q.elim)
    replace h3 := SH.ev h3 E55 (fun q => q.elim) (fun q => q.elim) (fun q => q.elim)
    replace h11 := SL.ev h11 E55 (fun q => q.elim) (fun q => q.elim)
    replace h14 := SL.ev h14 E55 (fun q => q.elim) (fun q => q.elim)
    replace E := E.trans E55 (fun x q => q.elim)
    refine q_val F rfl rfl (by decide) (r_not F rfl) fun a F => ?_
    refine q_val F rfl rfl (by decide) (r_assign F rfl) fun a F => ?_
    refine nil ?_
    refine hK50 _ _ ?_
    by_cases hb58 : t51 = true
    ·replace H := (if_pos hb58).symm.trans H
     refine wp_cond_false ((F.ev rfl).trans (congrArg Value.bool (congrArg not hb58))) ?_
     refine wp_seq_k fun K59 hK59 => ?_
     refine reg ?_
     refine q_val F rfl rfl (by decide) (r_move F rfl) fun a F => ?_
     refine q_val F rfl rfl (by decide) (r_move F rfl) fun a F => ?_
     replace H := bind_some H
     obtain ⟨ob60, e61, H⟩ := H
     have z62 := h3
     rw [e61] at z62
     obtain ⟨ad63, p65, cs67, rfl, hat64, h66, h68⟩ := SH.some z62
     refine q_val F rfl rfl (by decide) (r_nil F rfl) fun a F => ?_
     refine q_val F rfl rfl (by decide) (r_fieldAddr F rfl ff_76_1) fun a F => ?_
     replace H := ifN H
     obtain ⟨g70, H⟩ := H
     obtain ⟨cs72, h73, r74⟩ := AR.at hat64 rfl h68 a6 g70.1 (by have g_ := g70.2; omega)
     obtain ⟨A76, C77, A79, C80, rfl, h78, h81⟩ := r74
     replace h78 := SL.fl (i' := 0) h78 (fun q => q)
     replace h81 := SL.fl (i' := 0) h81 (fun q => q)
     obtain ⟨qa75, qqa75⟩ : ∃ q, q = (ad63.add (1 + a6.toNat * 7)) := ⟨_, rfl⟩
     have h73 : AT true j4 c53 w54 qa75 [.int .i64 ((rd ob60.seats a6).Client), .int .i64 ((rd ob60.seats a6).Seq), .bool (((rd ob60.seats a6).Answer).Done), .slice A76 (((rd ob60.seats a6).Answer).Key).length C77, .slice A79 (((rd ob60.seats a6).Answer).Value).length C80, .int .i64 (((rd ob60.seats a6).Answer).Rev), .int .i64 (((rd ob60.seats a6).Answer).At)] := by rw [qqa75]; exact h73
     refine q_val F rfl rfl (by decide) (r_indexArr3 F ua_74 sz_36 rfl rfl g70.1 (by have g_ := g70.2; omega) hat64 qqa75) fun a F => ?_
     refine q_val F rfl rfl (by decide) (r_fieldAddr F rfl ff_36_1) fun a F => ?_
     refine q_val F rfl rfl (by decide) (r_load F rfl ag_3 (AT.cell h73 rfl)) fun a F => ?_
     refine q_val F rfl rfl (by decide) (r_move F rfl) fun a F => ?_
     refine q_val F rfl rfl (by decide) (r_gtr F rfl rfl) fun a F => ?_
     refine q_val F rfl rfl (by decide) (r_assign F rfl) fun a F => ?_
     refine nil ?_
     refine hK59 _ _ ?_
     replace F : Fr a 111 [(0, .pointer (some ad63)), (1, .int .i64 a6), (2, .int .i64 a7), (7, .pointer (some qa18)), (9, .pointer (some qa25)), (40, .bool (decide (a7 < ((rd ob60.seats a6).Seq))))] := F.sub ⟨rfl, rfl, rfl, rfl, rfl, rfl, trivial⟩
     by_cases hb83 : a7 < ((rd ob60.seats a6).Seq)
     ·replace H := (if_pos hb83).symm.trans H
      refine wp_cond_true ((F.ev rfl).trans (congrArg Value.bool (decide_eq_true hb83))) ?_
      refine wp_seq_k fun K84 hK84 => ?_
      refine reg ?_
      refine q_val F rfl rfl (by decide) (r_build (v := .agg #[.bool false, .slice none 0 0, .slice none 0 0, .int .i64 0, .int .i64 0]) F [] (by exact trivial) (fun w => by kernel_rfl)) fun a F => ?_
      refine q_val F rfl rfl (by decide) (r_assign F rfl) fun a F => ?_
      refine q_eff0 F rfl rfl (e_storeN0 (us := [.bool false, .slice none 0 0, .slice none 0 0, .int .i64 0, .int .i64 0]) F rfl rfl sz_34 h27 (Nat.le_of_ble_eq_true rfl) (one_all rfl)) ?_
      rintro w85 a ⟨E86, h27, Z87⟩ F
      replace B := B.size Z87
      replace h20 := AT.ev h20 E86 (ne_mm (by decide))
      replace h3 := SH.ev h3 E86 (ne_pm bj4) (ne_pm bj5.1) ne_zm
      replace h11 := SL.ev h11 E86 ne_zm ne_zm
      replace h14 := SL.ev h14 E86 ne_zm ne_zm
      replace h66 := TB.ev h66 E86 (ne_pm bj5.1) ne_zm
      replace h68 := AR.ev h68 E86 ne_zm
      replace hat64 := AT.ev hat64 E86 (ne_pm bj4)
      replace h78 := SL.ev h78 E86 ne_zm ne_zm
      replace h81 := SL.ev h81 E86 ne_zm ne_zm
      replace h73 := AT.ev h73 E86 (ne_pm bj4)
      replace E := E.trans E86 (fun x (q : x = m + 2) => Or.inr (le_col q))
      replace h27 : AT true (m + 2) c53 w85 qa25 [.bool false, .slice none 0 0, .slice none 0 0, .int .i64 0, .int .i64 0] := h27
      refine q_val F rfl rfl (by decide) (r_assign F rfl) fun a F => ?_
      refine q_val F rfl rfl (by decide) (r_assign F rfl) fun a F => ?_
      refine nil ?_
      refine hK84 _ _ ?_
      refine wp_ret ?_
      refine inbR ?_
      refine thenR ?_
      replace H := Option.some.inj H
      subst H
      refine outR4 F rfl rfl ⟨_, rfl, lv_agg (cs := [.bool false, .slice none 0 0, .slice none 0 0, .int .i64 0, .int .i64 0]) ag_34 sz_34 h27⟩ rfl rfl ?_
      exact ⟨fun b_ => (fun x_ => if x_ = m + 3 then jr351 else if x_ = m + 4 then jr352 else if x_ < m then x_ else 0) (c53 b_), none, none, 0, none, 0, rfl, E.leave B0 (fun x_ => if x_ = m + 3 then jr351 else if x_ = m + 4 then jr352 else if x_ < m then x_ else 0) (by intro x_ hx_; show (if x_ = m + 3 then jr351 else if x_ = m + 4 then jr352 else if x_ < m then x_ else 0) = x_; ((repeat' split) <;> omega)), (fun b_ hb_ => by show (if (c53 b_) = m + 3 then jr351 else if (c53 b_) = m + 4 then jr352 else if (c53 b_) < m then (c53 b_) else 0) < m; ((repeat' split) <;> omega)), alc_mk (SH.nil), SL.nil, SL.nil⟩
     ·replace H := (if_neg hb83).symm.trans H
      refine wp_cond_false ((F.ev rfl).trans (congrArg Value.bool (decide_eq_false hb83))) ?_
      refine wp_seq_k fun K88 hK88 => ?_
      refine reg ?_
      refine q_val F rfl rfl (by decide) (r_move F rfl) fun a F => ?_
      refine q_val F rfl rfl (by decide) (r_move F rfl) fun a F => ?_
      refine q_val F rfl rfl (by decide) (r_nil F rfl) fun a F => ?_
      refine q_val F rfl rfl (by decide) (r_fieldAddr F rfl ff_76_1) fun a F => ?_
      replace H := ifN H
      obtain ⟨g89, H⟩ := H
      obtain ⟨cs91, h92, r93⟩ := AR.at hat64 rfl h68 a6 g89.1 (by have g_ := g89.2; omega)
      obtain ⟨A95, C96, A98, C99, rfl, h97, h100⟩ := r93
      replace h97 := SL.fl (i' := 0) h97 (fun q => q)
      replace h100 := SL.fl (i' := 0) h100 (fun q => q)
      obtain ⟨qa94, qqa94⟩ : ∃ q, q = (ad63.add (1 + a6.toNat * 7)) := ⟨_, rfl⟩
      have h92 : AT true j4 c53 w54 qa94 [.int .i64 ((rd ob60.seats a6).Client), .int .i64 ((rd ob60.seats a6).Seq), .bool (((rd ob60.seats a6).Answer).Done), .slice A95 (((rd ob60.seats a6).Answer).Key).length C96, .slice A98 (((rd ob60.seats a6).Answer).Value).length C99, .int .i64 (((rd ob60.seats a6).Answer).Rev), .int .i64 (((rd ob60.seats a6).Answer).At)] := by rw [qqa94]; exact h92
      refine q_val F rfl rfl (by decide) (r_indexArr3 F ua_74 sz_36 rfl rfl g89.1 (by have g_ := g89.2; omega) hat64 qqa94) fun a F => ?_
      refine q_val F rfl rfl (by decide) (r_fieldAddr F rfl ff_36_1) fun a F => ?_
      refine q_val F rfl rfl (by decide) (r_load F rfl ag_3 (AT.cell h92 rfl)) fun a F => ?_
      refine q_val F rfl rfl (by decide) (r_move F rfl) fun a F => ?_
      refine q_val F rfl rfl (by decide) (r_eql F rfl rfl) fun a F => ?_
      refine q_val F rfl rfl (by decide) (r_assign F rfl) fun a F => ?_
      refine nil ?_
      refine hK88 _ _ ?_
      replace F : Fr a 111 [(0, .pointer (some ad63)), (1, .int .i64 a6), (2, .int .i64 a7), (7, .pointer (some qa18)), (9, .pointer (some qa25)), (51, .bool (decide (((rd ob60.seats a6).Seq) = a7)))] := F.sub ⟨rfl, rfl, rfl, rfl, rfl, rfl, trivial⟩
      by_cases hb102 : ((rd ob60.seats a6).Seq) = a7
      ·replace H := (if_pos hb102).symm.trans H
       refine wp_cond_true ((F.ev rfl).trans (congrArg Value.bool (decide_eq_true hb102))) ?_
       refine wp_seq_k fun K103 hK103 => ?_
       refine reg ?_
       refine q_val F rfl rfl (by decide) (r_move F rfl) fun a F => ?_
       refine q_val F rfl rfl (by decide) (r_move F rfl) fun a F => ?_
       refine q_val F rfl rfl (by decide) (r_move F rfl) fun a F => ?_
       refine q_val F rfl rfl (by decide) (r_nil F rfl) fun a F => ?_
       refine q_val F rfl rfl (by decide) (r_fieldAddr F rfl ff_76_1) fun a F => ?_
       replace H := ifN H
       obtain ⟨g104, H⟩ := H
       obtain ⟨cs106, h107, r108⟩ := AR.at hat64 rfl h68 a6 g104.1 (by have g_ := g104.2; omega)
       obtain ⟨A110, C111, A113, C114, rfl, h112, h115⟩ := r108
       replace h112 := SL.fl (i' := 0) h112 (fun q => q)
       replace h115 := SL.fl (i' := 0) h115 (fun q => q)
       obtain ⟨qa109, qqa109⟩ : ∃ q, q = (ad63.add (1 + a6.toNat * 7)) := ⟨_, rfl⟩
       have h107 : AT true j4 c53 w54 qa109 [.int .i64 ((rd ob60.seats a6).Client), .int .i64 ((rd ob60.seats a6).Seq), .bool (((rd ob60.seats a6).Answer).Done), .slice A110 (((rd ob60.seats a6).Answer).Key).length C111, .slice A113 (((rd ob60.seats a6).Answer).Value).length C114, .int .i64 (((rd ob60.seats a6).Answer).Rev), .int .i64 (((rd ob60.seats a6).Answer).At)] := by rw [qqa109]; exact h107
       refine q_val F rfl rfl (by decide) (r_indexArr3 F ua_74 sz_36 rfl rfl g104.1 (by have g_ := g104.2; omega) hat64 qqa109) fun a F => ?_
       refine q_val F rfl rfl (by decide) (r_loads (cs := [.int .i64 ((rd ob60.seats a6).Client), .int .i64 ((rd ob60.seats a6).Seq), .bool (((rd ob60.seats a6).Answer).Done), .slice A110 (((rd ob60.seats a6).Answer).Key).length C111, .slice A113 (((rd ob60.seats a6).Answer).Value).length C114, .int .i64 (((rd ob60.seats a6).Answer).Rev), .int .i64 (((rd ob60.seats a6).Answer).At)]) F rfl ag_36 sz_36 h107) fun a F => ?_
       replace H := bind_some H
       obtain ⟨t117, q118, H⟩ := H
       refine q_call F rfl rfl (by decide) (r_call F Try.func36 rfl (by kernel_rfl) rfl) (shard_own.calls (m := m + 6) (a1 := api_Seat.mk ((rd ob60.seats a6).Client) ((rd ob60.seats a6).Seq) ((rd ob60.seats a6).Answer)) (Nat.add_pos_left hm0 _) B h112 h115 _ q118) ?_
       rintro e w120 ⟨c119, A123, C124, A126, C127, rfl, E121, B122, h125, h128⟩
       refine ⟨_, rfl, fun a F => ?_⟩
       have B := B122
       replace h20 := AT.ev h20 E121 (fun q => q.elim)
       replace h27 := AT.ev h27 E121 (fun q => q.elim)
       replace h3 := SH.ev h3 E121 (fun q => q.elim) (fun q => q.elim) (fun q => q.elim)
       replace h11 := SL.ev h11 E121 (fun q => q.elim) (fun q => q.elim)
       replace h14 := SL.ev h14 E121 (fun q => q.elim) (fun q => q.elim)
       replace h66 := TB.ev h66 E121 (fun q => q.elim) (fun q => q.elim)
       replace h68 := AR.ev h68 E121 (fun q => q.elim)
       replace hat64 := AT.ev hat64 E121 (fun q => q.elim)
       replace h78 := SL.ev h78 E121 (fun q => q.elim) (fun q => q.elim)
       replace h81 := SL.ev h81 E121 (fun q => q.elim) (fun q => q.elim)
       replace h73 := AT.ev h73 E121 (fun q => q.elim)
       replace h97 := SL.ev h97 E121 (fun q => q.elim) (fun q => q.elim)
       replace h100 := SL.ev h100 E121 (fun q => q.elim) (fun q => q.elim)
       replace h92 := AT.ev h92 E121 (fun q => q.elim)
       replace h112 := SL.ev h112 E121 (fun q => q.elim) (fun q => q.elim)
       replace h115 := SL.ev h115 E121 (fun q => q.elim) (fun q => q.elim)
       replace h107 := AT.ev h107 E121 (fun q => q.elim)
       replace E := E.trans E121 (fun x q => q.elim)
       refine q_val F rfl rfl (by decide) (r_field (v := .agg #[.bool t117.Answer.Done, .slice A123 t117.Answer.Key.length C124, .slice A126 t117.Answer.Value.length C127, .int .i64 t117.Answer.Rev, .int .i64 t117.Answer.At]) F rfl (fun w => by kernel_rfl)) fun a F => ?_
       refine q_val F rfl rfl (by decide) (r_assign F rfl) fun a F => ?_
       refine q_eff0 F rfl rfl (e_storeN0 (us := [.bool t117.Answer.Done, .slice A123 t117.Answer.Key.length C124, .slice A126 t117.Answer.Value.length C127, .int .i64 t117.Answer.Rev, .int .i64 t117.Answer.At]) F rfl rfl sz_34 h27 (Nat.le_of_ble_eq_true rfl) (one_all rfl)) ?_
       rintro w130 a ⟨E131, h27, Z132⟩ F
       replace B := B.size Z132
       replace h20 := AT.ev h20 E131 (ne_mm (by decide))
       replace h3 := SH.ev h3 E131 (ne_pm bj4) (ne_pm bj5.1) ne_zm
       replace h11 := SL.ev h11 E131 ne_zm ne_zm
       replace h14 := SL.ev h14 E131 ne_zm ne_zm
       replace h66 := TB.ev h66 E131 (ne_pm bj5.1) ne_zm
       replace h68 := AR.ev h68 E131 ne_zm
       replace hat64 := AT.ev hat64 E131 (ne_pm bj4)
       replace h78 := SL.ev h78 E131 ne_zm ne_zm
       replace h81 := SL.ev h81 E131 ne_zm ne_zm
       replace h73 := AT.ev h73 E131 (ne_pm bj4)
       replace h97 := SL.ev h97 E131 ne_zm ne_zm
       replace h100 := SL.ev h100 E131 ne_zm ne_zm
       replace h92 := AT.ev h92 E131 (ne_pm bj4)
       replace h112 := SL.ev h112 E131 ne_zm ne_zm
       replace h115 := SL.ev h115 E131 ne_zm ne_zm
       replace h107 := AT.ev h107 E131 (ne_pm bj4)
       replace h125 := SL.ev h125 E131 ne_zm ne_zm
       replace h128 := SL.ev h128 E131 ne_zm ne_zm
       replace E := E.trans E131 (fun x (q : x = m + 2) => Or.inr (le_col q))
       replace h27 : AT true (m + 2) c119 w130 qa25 [.bool t117.Answer.Done, .slice A123 t117.Answer.Key.length C124, .slice A126 t117.Answer.Value.length C127, .int .i64 t117.Answer.Rev, .int .i64 t117.Answer.At] := h27
       refine q_val F rfl rfl (by decide) (r_assign F rfl) fun a F => ?_
       refine q_val F rfl rfl (by decide) (r_assign F rfl) fun a F => ?_
       refine nil ?_
       refine hK103 _ _ ?_
       replace F : Fr a 111 [(8, .pointer (some ad63)), (9, .pointer (some qa25)), (10, .bool false), (11, .int .i64 0)] := F.sub ⟨rfl, rfl, rfl, rfl, trivial⟩
       refine wp_ret ?_
       refine inbR ?_
       refine thenR ?_
       replace H := Option.some.inj H
       subst H
       refine outR4 F rfl rfl ⟨_, rfl, lv_agg (cs := [.bool t117.Answer.Done, .slice A123 t117.Answer.Key.length C124, .slice A126 t117.Answer.Value.length C127, .int .i64 t117.Answer.Rev, .int .i64 t117.Answer.At]) ag_34 sz_34 h27⟩ rfl rfl ?_
       exact ⟨fun b_ => (fun x_ => if x_ = m + 3 then jr351 else if x_ = m + 4 then jr352 else if x_ < m then x_ else 0) (c119 b_), (some ad63), A123, C124, A126, C127, rfl, E.leave B0 (fun x_ => if x_ = m + 3 then jr351 else if x_ = m + 4 then jr352 else if x_ < m then x_ else 0) (by intro x_ hx_; show (if x_ = m + 3 then jr351 else if x_ = m + 4 then jr352 else if x_ < m then x_ else 0) = x_; ((repeat' split) <;> omega)), (fun b_ hb_ => by show (if (c119 b_) = m + 3 then jr351 else if (c119 b_) = m + 4 then jr352 else if (c119 b_) < m then (c119 b_) else 0) < m; ((repeat' split) <;> omega)), alc_sm rfl, SL.rc h125 (fun k_ hk_ => by show (if (c119 k_) = m + 3 then jr351 else if (c119 k_) = m + 4 then jr352 else if (c119 k_) < m then (c119 k_) else 0) = _; rw [hk_]; ((repeat' split) <;> omega)) (fun k_ hk_ => by show (if (c119 k_) = m + 3 then jr351 else if (c119 k_) = m + 4 then jr352 else if (c119 k_) < m then (c119 k_) else 0) = _; rw [hk_]; ((repeat' split) <;> omega)), SL.rc h128 (fun k_ hk_ => by show (if (c119 k_) = m + 3 then jr351 else if (c119 k_) = m + 4 then jr352 else if (c119 k_) < m then (c119 k_) else 0) = _; rw [hk_]; ((repeat' split) <;> omega)) (fun k_ hk_ => by show (if (c119 k_) = m + 3 then jr351 else if (c119 k_) = m + 4 then jr352 else if (c119 k_) < m then (c119 k_) else 0) = _; rw [hk_]; ((repeat' split) <;> omega))⟩
      ·replace H := (if_neg hb102).symm.trans H
       refine wp_cond_false ((F.ev rfl).trans (congrArg Value.bool (decide_eq_false hb102))) ?_
       refine wp_skip ?_
       refine hK30 _ _ ?_
       refine wp_seq_k fun K137 hK137 => ?_
       refine reg ?_
       refine q_val F rfl rfl (by decide) (r_move F rfl) fun a F => ?_
       replace H := bind_some H
       obtain ⟨t138, q139, H⟩ := H
       refine q_call F rfl rfl (by decide) (r_call F Try.func30 rfl (by kernel_rfl) rfl) (shard_Shard_Copy.calls (m := m + 6) (Nat.add_pos_left hm0 _) B h3 (Nat.lt_add_right _ bj4) ⟨(Nat.lt_add_right _ bj5.1), bj5.2⟩ (m + 3) (Nat.add_lt_add_left (by decide) m) (m + 4) (Nat.add_lt_add_left (by decide) m) _ q139) ?_
       rintro e w141 ⟨c140, p144, rfl, E142, B143, h145⟩
       refine ⟨_, rfl, fun a F => ?_⟩
       have B := B143
       replace h20 := AT.ev h20 E142 (fun q => q.elim)
       replace h27 := AT.ev h27 E142 (fun q => q.elim)
       replace h3 := SH.ev h3 E142 (fun q => q.elim) (fun q => q.elim) (fun q => q.elim)
       replace h11 := SL.ev h11 E142 (fun q => q.elim) (fun q => q.elim)
       replace h14 := SL.ev h14 E142 (fun q => q.elim) (fun q => q.elim)
       replace h66 := TB.ev h66 E142 (fun q => q.elim) (fun q => q.elim)
       replace h68 := AR.ev h68 E142 (fun q => q.elim)
       replace hat64 := AT.ev hat64 E142 (fun q => q.elim)
       replace h78 := SL.ev h78 E142 (fun q => q.elim) (fun q => q.elim)
       replace h81 := SL.ev h81 E142 (fun q => q.elim) (fun q => q.elim)
       replace h73 := AT.ev h73 E142 (fun q => q.elim)
       replace h97 := SL.ev h97 E142 (fun q => q.elim) (fun q => q.elim)
       replace h100 := SL.ev h100 E142 (fun q => q.elim) (fun q => q.elim)
       replace h92 := AT.ev h92 E142 (fun q => q.elim)
       replace E := E.trans E142 (fun x q => q.elim)
       refine q_val F rfl rfl (by decide) (r_assign F rfl) fun a F => ?_
       refine nil ?_
       refine hK137 _ _ ?_
       refine wp_seq_k fun K147 hK147 => ?_
       have J211 : ∀ (c212 : Nat → Nat) (w213 : World) (a : Act) (ad151 : Addr) (qa176 : Addr) (t160 : api_Answer × Int × (Option Tab)) (p153 : Option Addr) (cs155 : List Value) (ob148 : Sha) (A205 : Option Addr) (C206 : Nat) (A208 : Option Addr) (C209 : Nat), Fr a 111 [(0, .pointer (some ad63)), (1, .int .i64 a6), (2, .int .i64 a7), (7, .pointer (some qa18)), (9, .pointer (some qa25)), (12, .pointer (some ad151)), (13, .pointer (some qa176)), (14, .int .i64 t160.2.1)] → Ev (fun x => False ∨ m ≤ x) c0 w0 c212 w213 → CB (m + 6) c212 w213 → AT true j4 c212 w213 ad63 (([.pointer p65] : List Value) ++ (cs67 ++ (([] : List Value)))) → AT true (m + 1) c212 w213 qa18 [.int .i64 a8.Kind, .slice A9 a8.Key.length C10, .slice A12 a8.Value.length C13, .int .i64 a8.Rev] → AT true (m + 2) c212 w213 qa25 [.bool false, .slice none 0 0, .slice none 0 0, .int .i64 0, .int .i64 0] → AT true (m + 3) c212 w213 ad151 (([.pointer p153] : List Value) ++ (cs155 ++ (([] : List Value)))) → AT true (m + 5) c212 w213 qa176 [.bool t160.1.Done, .slice A205 t160.1.Key.length C206, .slice A208 t160.1.Value.length C209, .int .i64 t160.1.Rev, .int .i64 t160.1.At] → TB j5 c212 w213 p65 ob60.Table → AR K_api_Seat 0 c212 w213 cs67 16 ob60.seats → SL false (Kint .u8) 0 0 c212 w213 A9 C10 a8.Key → SL false (Kint .u8) 0 0 c212 w213 A12 C13 a8.Value → AR K_api_Seat 0 c212 w213 cs155 16 ob148.seats → TB (m + 4) c212 w213 p153 t160.2.2 → SL false (Kint .u8) 0 0 c212 w213 A205 C206 t160.1.Key → SL false (Kint .u8) 0 0 c212 w213 A208 C209 t160.1.Value → shard_Shard_next.j2 k a6 a7 a8 ob148 t160 = some r → K147 a w213 := by
        intro c212 w213 a ad151 qa176 t160 p153 cs155 ob148 A205 C206 A208 C209 F E B hat64 h20 h27 hat152 h178 h66 h68 h11 h14 h156 h204 h207 h210 H
        unfold shard_Shard_next.j2 at H
        refine hK147 _ _ ?_
        refine wp_seq_k fun K214 hK214 => ?_
        refine wp_seq_k fun K215 hK215 => ?_
        refine reg ?_
        refine q_val F rfl rfl (by decide) (r_move F rfl) fun a F => ?_
        refine q_val F rfl rfl (by decide) (r_neq F rfl rfl) fun a F => ?_
        refine nil ?_
        refine hK215 _ _ ?_
        by_cases hb216 : t160.2.1 = 0
        ·replace H := (if_pos hb216).symm.trans H
         refine wp_cond_false ((F.ev rfl).trans (congrArg Value.bool (congrArg not (decide_eq_true hb216)))) ?_
         refine wp_skip ?_
         refine hK214 _ _ ?_
         refine wp_seq_k fun K221 hK221 => ?_
         refine wp_seq_k fun K222 hK222 => ?_
         have J225 : ∀ (c226 : Nat → Nat) (w227 : World) (a : Act) (b224 : Bool), Fr a 111 [(0, .pointer (some ad63)), (1, .int .i64 a6), (2, .int .i64 a7), (9, .pointer (some qa25)), (12, .pointer (some ad151)), (13, .pointer (some qa176)), (92, .bool b224)] → Ev (fun x => False ∨ m ≤ x) c0 w0 c226 w227 → CB (m + 6) c226 w227 → AT true j4 c226 w227 ad63 (([.pointer p65] : List Value) ++ (cs67 ++ (([] : List Value)))) → AT true (m + 2) c226 w227 qa25 [.bool false, .slice none 0 0, .slice none 0 0, .int .i64 0, .int .i64 0] → AT true (m + 3) c226 w227 ad151 (([.pointer p153] : List Value) ++ (cs155 ++ (([] : List Value)))) → AT true (m + 5) c226 w227 qa176 [.bool t160.1.Done, .slice A205 t160.1.Key.length C206, .slice A208 t160.1.Value.length C209, .int .i64 t160.1.Rev, .int .i64 t160.1.At] → TB j5 c226 w227 p65 ob60.Table → AR K_api_Seat 0 c226 w227 cs67 16 ob60.seats → TB (m + 4) c226 w227 p153 t160.2.2 → AR K_api_Seat 0 c226 w227 cs155 16 ob148.seats → SL false (Kint .u8) 0 0 c226 w227 A205 C206 t160.1.Key → SL false (Kint .u8) 0 0 c226 w227 A208 C209 t160.1.Value → shard_Shard_next.j3 k a6 a7 ob148 t160 b224 = some r → K222 a w227 := by
          intro c226 w227 a b224 F E B hat64 h27 hat152 h178 h66 h68 h204 h156 h207 h210 H
          unfold shard_Shard_next.j3 at H
          refine hK222 _ _ ?_
          by_cases hb228 : b224 = true
          ·replace H := (if_pos hb228).symm.trans H
           refine wp_cond_true ((F.ev rfl).trans (congrArg Value.bool hb228)) ?_
           refine wp_seq_k fun K229 hK229 => ?_
           refine regD (SB (fun x => x = m + 2) c226 w227) 6 (.q 0 (.q 1 (.q 2 (.e 3 (.q 4 (.q 5 .nil)))))) Try_hm (by decide +kernel) ?_
           intro w230 w1_ w2_ w3_ w4_
           have E231 : Ev No c226 w227 c226 w230 := Ev.same w1_ w2_ w3_ w4_
           replace B := B.same w1_
           have zhat64 := hat64
           have zh27 := h27
           have zhat152 := hat152
           have zh178 := h178
           have zh66 := h66
           have zh68 := h68
           have zh204 := h204
           have zh156 := h156
           have zh207 := h207
           have zh210 := h210
           have ER : Ev (fun x => x = m + 2) c226 w227 c226 w230 := Ev.same w1_ w2_ w3_ w4_
           replace hat64 := AT.ev hat64 E231 (fun q => q.elim)
           replace h27 := AT.ev h27 E231 (fun q => q.elim)
           replace hat152 := AT.ev hat152 E231 (fun q => q.elim)
           replace h178 := AT.ev h178 E231 (fun q => q.elim)
           replace h66 := TB.ev h66 E231 (fun q => q.elim) (fun q => q.elim)
           replace h68 := AR.ev h68 E231 (fun q => q.elim)
           replace h204 := TB.ev h204 E231 (fun q => q.elim) (fun q => q.elim)
           replace h156 := AR.ev h156 E231 (fun q => q.elim)
           replace h207 := SL.ev h207 E231 (fun q => q.elim) (fun q => q.elim)
           replace h210 := SL.ev h210 E231 (fun q => q.elim) (fun q => q.elim)
           replace E := E.trans E231 (fun x q => q.elim)
           refine d_q F rfl rfl rfl (by decide) (fun wq hS => r_move F rfl) ER.sb fun a F => ?_
           refine d_q F rfl rfl rfl (by decide) (fun wq hS => r_loads (cs := [.bool t160.1.Done, .slice A205 t160.1.Key.length C206, .slice A208 t160.1.Value.length C209, .int .i64 t160.1.Rev, .int .i64 t160.1.At]) F rfl ag_34 sz_34 (AT.sb zh178 hS (ne_mm (by decide)))) ER.sb fun a F => ?_
           refine d_q F rfl rfl rfl (by decide) (fun wq hS => r_assign F rfl) ER.sb fun a F => ?_
           refine d_e ?_
           refine o_eff0 F rfl rfl rfl (e_storeN0 (us := [.bool t160.1.Done, .slice A205 t160.1.Key.length C206, .slice A208 t160.1.Value.length C209, .int .i64 t160.1.Rev, .int .i64 t160.1.At]) F rfl rfl sz_34 h27 (Nat.le_of_ble_eq_true rfl) (one_all rfl)) ?_
           rintro w232 a ⟨E233, h27, Z234⟩ F
           replace B := B.size Z234
           replace ER := ER.trans E233 (fun x q => by replace q : x = m + 2 := q; show x = m + 2; omega)
           replace hat64 := AT.ev hat64 E233 (ne_pm bj4)
           replace hat152 := AT.ev hat152 E233 (ne_mm (by decide))
           replace h178 := AT.ev h178 E233 (ne_mm (by decide))
           replace h66 := TB.ev h66 E233 (ne_pm bj5.1) ne_zm
           replace h68 := AR.ev h68 E233 ne_zm
           replace h204 := TB.ev h204 E233 (ne_mm (by decide)) ne_zm
           replace h156 := AR.ev h156 E233 ne_zm
           replace h207 := SL.ev h207 E233 ne_zm ne_zm
           replace h210 := SL.ev h210 E233 ne_zm ne_zm
           replace E := E.trans E233 (fun x (q : x = m + 2) => Or.inr (le_col q))
           replace h27 : AT true (m + 2) c226 w232 qa25 [.bool t160.1.Done, .slice A205 t160.1.Key.length C206, .slice A208 t160.1.Value.length C209, .int .i64 t160.1.Rev, .int .i64 t160.1.At] := h27
           refine ⟨fun _ => ER.sb, ?_⟩
           refine d_q F rfl rfl rfl (by decide) (fun wq hS => r_assign F rfl) ER.sb fun a F => ?_
           refine d_q F rfl rfl rfl (by decide) (fun wq hS => r_assign F rfl) ER.sb fun a F => ?_
           refine d_nil ?_
           refine hK229 _ _ ?_
           replace F : Fr a 111 [(8, .pointer (some ad63)), (9, .pointer (some qa25)), (10, .bool false), (11, .int .i64 0)] := F.sub ⟨rfl, rfl, rfl, rfl, trivial⟩
           refine wp_ret ?_
           refine thenR ?_
           replace H := Option.some.inj H
           subst H
           refine outR4 F rfl rfl ⟨_, rfl, lv_agg (cs := [.bool t160.1.Done, .slice A205 t160.1.Key.length C206, .slice A208 t160.1.Value.length C209, .int .i64 t160.1.Rev, .int .i64 t160.1.At]) ag_34 sz_34 h27⟩ rfl rfl ?_
           exact ⟨fun b_ => (fun x_ => if x_ = m + 3 then jr351 else if x_ = m + 4 then jr352 else if x_ < m then x_ else 0) (c226 b_), (some ad63), A205, C206, A208, C209, rfl, E.leave B0 (fun x_ => if x_ = m + 3 then jr351 else if x_ = m + 4 then jr352 else if x_ < m then x_ else 0) (by intro x_ hx_; show (if x_ = m + 3 then jr351 else if x_ = m + 4 then jr352 else if x_ < m then x_ else 0) = x_; ((repeat' split) <;> omega)), (fun b_ hb_ => by show (if (c226 b_) = m + 3 then jr351 else if (c226 b_) = m + 4 then jr352 else if (c226 b_) < m then (c226 b_) else 0) < m; ((repeat' split) <;> omega)), alc_sm rfl, SL.rc h207 (fun k_ hk_ => by show (if (c226 k_) = m + 3 then jr351 else if (c226 k_) = m + 4 then jr352 else if (c226 k_) < m then (c226 k_) else 0) = _; rw [hk_]; ((repeat' split) <;> omega)) (fun k_ hk_ => by show (if (c226 k_) = m + 3 then jr351 else if (c226 k_) = m + 4 then jr352 else if (c226 k_) < m then (c226 k_) else 0) = _; rw [hk_]; ((repeat' split) <;> omega)), SL.rc h210 (fun k_ hk_ => by show (if (c226 k_) = m + 3 then jr351 else if (c226 k_) = m + 4 then jr352 else if (c226 k_) < m then (c226 k_) else 0) = _; rw [hk_]; ((repeat' split) <;> omega)) (fun k_ hk_ => by show (if (c226 k_) = m + 3 then jr351 else if (c226 k_) = m + 4 then jr352 else if (c226 k_) < m then (c226 k_) else 0) = _; rw [hk_]; ((repeat' split) <;> omega))⟩
          ·replace H := (if_neg hb228).symm.trans H
           refine wp_cond_false ((F.ev rfl).trans (congrArg Value.bool (bfalse hb228))) ?_
           refine wp_skip ?_
           refine hK221 _ _ ?_
           refine wp_seq_k fun K235 hK235 => ?_
           have J326 : ∀ (c327 : Nat → Nat) (w328 : World) (a : Act) (t238 : api_Seat) (cs324 : List Value), Fr a 111 [(9, .pointer (some qa25)), (12, .pointer (some ad151)), (13, .pointer (some qa176))] → Ev (fun x => False ∨ m ≤ x) c0 w0 c327 w328 → CB (m + 6) c327 w328 → AT true (m + 2) c327 w328 qa25 [.bool false, .slice none 0 0, .slice none 0 0, .int .i64 0, .int .i64 0] → AT true (m + 3) c327 w328 ad151 (([.pointer p153] : List Value) ++ (cs324 ++ (([] : List Value)))) → AT true (m + 5) c327 w328 qa176 [.bool t160.1.Done, .slice A205 t160.1.Key.length C206, .slice A208 t160.1.Value.length C209, .int .i64 t160.1.Rev, .int .i64 t160.1.At] → TB (m + 4) c327 w328 p153 t160.2.2 → SL false (Kint .u8) 0 0 c327 w328 A205 C206 t160.1.Key → SL false (Kint .u8) 0 0 c327 w328 A208 C209 t160.1.Value → AR K_api_Seat 0 c327 w328 cs324 16 (ob148.seats.set a6.toNat t238) → shard_Shard_next.j4 k a6 ob148 t160 t238 = some r → K235 a w328 := by
            intro c327 w328 a t238 cs324 F E B h27 hat152 h178 h204 h207 h210 h325 H
            unfold shard_Shard_next.j4 at H
            refine hK235 _ _ ?_
            refine wp_seq_k fun K329 hK329 => ?_
            refine wp_seq_k fun K330 hK330 => ?_
            refine reg ?_
            refine q_val F rfl rfl (by decide) (r_move F rfl) fun a F => ?_
            have h331 : SH (m + 3) (m + 4) c327 w328 (some ad151) (some (Sha.mk t160.2.2 (ob148.seats.set a6.toNat t238))) := SH.mk hat152 h204 h325
            replace H := bind_some H
            obtain ⟨t332, q333, H⟩ := H
            refine q_call F rfl rfl (by decide) (r_call F Try.func32 rfl (by kernel_rfl) rfl) (shard_Shard_Size.calls k (m := m + 6) (Nat.add_pos_left hm0 _) B h331 (Nat.add_lt_add_left (by decide) m) ⟨(Nat.add_lt_add_left (by decide) m), (ne_mm (by decide))⟩ _ q333) ?_
            rintro e w335 ⟨c334, rfl, E336, B337⟩
            refine ⟨_, rfl, fun a F => ?_⟩
            have B := B337
            replace h27 := AT.ev h27 E336 (fun q => q.elim)
            replace hat152 := AT.ev hat152 E336 (fun q => q.elim)
            replace h178 := AT.ev h178 E336 (fun q => q.elim)
            replace h204 := TB.ev h204 E336 (fun q => q.elim) (fun q => q.elim)
            replace h207 := SL.ev h207 E336 (fun q => q.elim) (fun q => q.elim)
            replace h210 := SL.ev h210 E336 (fun q => q.elim) (fun q => q.elim)
            replace h325 := AR.ev h325 E336 (fun q => q.elim)
            replace h331 := SH.ev h331 E336 (fun q => q.elim) (fun q => q.elim) (fun q => q.elim)
            replace E := E.trans E336 (fun x q => q.elim)
            refine q_val F rfl rfl (by decide) (r_gtr F rfl rfl) fun a F => ?_
            refine nil ?_
            refine hK330 _ _ ?_
            by_cases hb339 : 262144 < t332
            ·replace H := (if_pos hb339).symm.trans H
             refine wp_cond_true ((F.ev rfl).trans (congrArg Value.bool (decide_eq_true hb339))) ?_
             refine wp_seq_k fun K340 hK340 => ?_
             refine reg ?_
             refine q_val F rfl rfl (by decide) (r_build (v := .agg #[.bool false, .slice none 0 0, .slice none 0 0, .int .i64 0, .int .i64 0]) F [] (by exact trivial) (fun w => by kernel_rfl)) fun a F => ?_
             refine q_val F rfl rfl (by decide) (r_assign F rfl) fun a F => ?_
             refine q_eff0 F rfl rfl (e_storeN0 (us := [.bool false, .slice none 0 0, .slice none 0 0, .int .i64 0, .int .i64 0]) F rfl rfl sz_34 h27 (Nat.le_of_ble_eq_true rfl) (one_all rfl)) ?_
             rintro w341 a ⟨E342, h27, Z343⟩ F
             replace B := B.size Z343
             replace hat152 := AT.ev hat152 E342 (ne_mm (by decide))
             replace h178 := AT.ev h178 E342 (ne_mm (by decide))
             replace h204 := TB.ev h204 E342 (ne_mm (by decide)) ne_zm
             replace h207 := SL.ev h207 E342 ne_zm ne_zm
             replace h210 := SL.ev h210 E342 ne_zm ne_zm
             replace h325 := AR.ev h325 E342 ne_zm
             replace h331 := SH.ev h331 E342 (ne_mm (by decide)) (ne_mm (by decide)) ne_zm
             replace E := E.trans E342 (fun x (q : x = m + 2) => Or.inr (le_col q))
             replace h27 : AT true (m + 2) c334 w341 qa25 [.bool false, .slice none 0 0, .slice none 0 0, .int .i64 0, .int .i64 0] := h27
             refine q_val F rfl rfl (by decide) (r_assign F rfl) fun a F => ?_
             refine q_val F rfl rfl (by decide) (r_assign F rfl) fun a F => ?_
             refine nil ?_
             refine hK340 _ _ ?_
             refine wp_ret ?_
             refine thenR ?_
             replace H := Option.some.inj H
             subst H
             refine outR4 F rfl rfl ⟨_, rfl, lv_agg (cs := [.bool false, .slice none 0 0, .slice none 0 0, .int .i64 0, .int .i64 0]) ag_34 sz_34 h27⟩ rfl rfl ?_
             exact ⟨fun b_ => (fun x_ => if x_ = m + 3 then jr351 else if x_ = m + 4 then jr352 else if x_ < m then x_ else 0) (c334 b_), none, none, 0, none, 0, rfl, E.leave B0 (fun x_ => if x_ = m + 3 then jr351 else if x_ = m + 4 then jr352 else if x_ < m then x_ else 0) (by intro x_ hx_; show (if x_ = m + 3 then jr351 else if x_ = m + 4 then jr352 else if x_ < m then x_ else 0) = x_; ((repeat' split) <;> omega)), (fun b_ hb_ => by show (if (c334 b_) = m + 3 then jr351 else if (c334 b_) = m + 4 then jr352 else if (c334 b_) < m then (c334 b_) else 0) < m; ((repeat' split) <;> omega)), alc_mk (SH.nil), SL.nil, SL.nil⟩
            ·replace H := (if_neg hb339).symm.trans H
             refine wp_cond_false ((F.ev rfl).trans (congrArg Value.bool (decide_eq_false hb339))) ?_
             refine wp_skip ?_
             refine hK329 _ _ ?_
             refine wp_seq_k fun K344 hK344 => ?_
             refine regD (SB (fun x => x = m + 2) c334 w335) 6 (.q 0 (.q 1 (.q 2 (.e 3 (.q 4 (.q 5 .nil)))))) Try_hm (by decide +kernel) ?_
             intro w345 w1_ w2_ w3_ w4_
             have E346 : Ev No c334 w335 c334 w345 := Ev.same w1_ w2_ w3_ w4_
             replace B := B.same w1_
             have zh27 := h27
             have zhat152 := hat152
             have zh178 := h178
             have zh204 := h204
             have zh207 := h207
             have zh210 := h210
             have zh325 := h325
             have zh331 := h331
             have ER : Ev (fun x => x = m + 2) c334 w335 c334 w345 := Ev.same w1_ w2_ w3_ w4_
             replace h27 := AT.ev h27 E346 (fun q => q.elim)
             replace hat152 := AT.ev hat152 E346 (fun q => q.elim)
             replace h178 := AT.ev h178 E346 (fun q => q.elim)
             replace h204 := TB.ev h204 E346 (fun q => q.elim) (fun q => q.elim)
             replace h207 := SL.ev h207 E346 (fun q => q.elim) (fun q => q.elim)
             replace h210 := SL.ev h210 E346 (fun q => q.elim) (fun q => q.elim)
             replace h325 := AR.ev h325 E346 (fun q => q.elim)
             replace h331 := SH.ev h331 E346 (fun q => q.elim) (fun q => q.elim) (fun q => q.elim)
             replace E := E.trans E346 (fun x q => q.elim)
             refine d_q F rfl rfl rfl (by decide) (fun wq hS => r_move F rfl) ER.sb fun a F => ?_
             refine d_q F rfl rfl rfl (by decide) (fun wq hS => r_loads (cs := [.bool t160.1.Done, .slice A205 t160.1.Key.length C206, .slice A208 t160.1.Value.length C209, .int .i64 t160.1.Rev, .int .i64 t160.1.At]) F rfl ag_34 sz_34 (AT.sb zh178 hS (ne_mm (by decide)))) ER.sb fun a F => ?_
             refine d_q F rfl rfl rfl (by decide) (fun wq hS => r_assign F rfl) ER.sb fun a F => ?_
             refine d_e ?_
             refine o_eff0 F rfl rfl rfl (e_storeN0 (us := [.bool t160.1.Done, .slice A205 t160.1.Key.length C206, .slice A208 t160.1.Value.length C209, .int .i64 t160.1.Rev, .int .i64 t160.1.At]) F rfl rfl sz_34 h27 (Nat.le_of_ble_eq_true rfl) (one_all rfl)) ?_
             rintro w347 a ⟨E348, h27, Z349⟩ F
             replace B := B.size Z349
             replace ER := ER.trans E348 (fun x q => by replace q : x = m + 2 := q; show x = m + 2; omega)
             replace hat152 := AT.ev hat152 E348 (ne_mm (by decide))
             replace h178 := AT.ev h178 E348 (ne_mm (by decide))
             replace h204 := TB.ev h204 E348 (ne_mm (by decide)) ne_zm
             replace h207 := SL.ev h207 E348 ne_zm ne_zm
             replace h210 := SL.ev h210 E348 ne_zm ne_zm
             replace h325 := AR.ev h325 E348 ne_zm
             replace h331 := SH.ev h331 E348 (ne_mm (by decide)) (ne_mm (by decide)) ne_zm
             replace E := E.trans E348 (fun x (q : x = m + 2) => Or.inr (le_col q))
             replace h27 : AT true (m + 2) c334 w347 qa25 [.bool t160.1.Done, .slice A205 t160.1.Key.length C206, .slice A208 t160.1.Value.length C209, .int .i64 t160.1.Rev, .int .i64 t160.1.At] := h27
             refine ⟨fun _ => ER.sb, ?_⟩
             refine d_q F rfl rfl rfl (by decide) (fun wq hS => r_assign F rfl) ER.sb fun a F => ?_
             refine d_q F rfl rfl rfl (by decide) (fun wq hS => r_assign F rfl) ER.sb fun a F => ?_
             refine d_nil ?_
             refine hK344 _ _ ?_
             refine wp_ret ?_
             have h350 : SH (m + 3) (m + 4) c334 w347 (some ad151) (some (Sha.mk t160.2.2 (ob148.seats.set a6.toNat t238))) := SH.mk hat152 h204 h325
             replace H := Option.some.inj H
             subst H
             refine outR4 F rfl rfl ⟨_, rfl, lv_agg (cs := [.bool t160.1.Done, .slice A205 t160.1.Key.length C206, .slice A208 t160.1.Value.length C209, .int .i64 t160.1.Rev, .int .i64 t160.1.At]) ag_34 sz_34 h27⟩ rfl rfl ?_
             exact ⟨fun b_ => (fun x_ => if x_ = m + 3 then jr351 else if x_ = m + 4 then jr352 else if x_ < m then x_ else 0) (c334 b_), (some ad151), A205, C206, A208, C209, rfl, E.leave B0 (fun x_ => if x_ = m + 3 then jr351 else if x_ = m + 4 then jr352 else if x_ < m then x_ else 0) (by intro x_ hx_; show (if x_ = m + 3 then jr351 else if x_ = m + 4 then jr352 else if x_ < m then x_ else 0) = x_; ((repeat' split) <;> omega)), (fun b_ hb_ => by show (if (c334 b_) = m + 3 then jr351 else if (c334 b_) = m + 4 then jr352 else if (c334 b_) < m then (c334 b_) else 0) < m; ((repeat' split) <;> omega)), alc_mk (SH.rc h350 (fun k_ hk_ => by show (if (c334 k_) = m + 3 then jr351 else if (c334 k_) = m + 4 then jr352 else if (c334 k_) < m then (c334 k_) else 0) = _; rw [hk_]; ((repeat' split) <;> omega)) (fun k_ hk_ => by show (if (c334 k_) = m + 3 then jr351 else if (c334 k_) = m + 4 then jr352 else if (c334 k_) < m then (c334 k_) else 0) = _; rw [hk_]; ((repeat' split) <;> omega)) (fun k_ hk_ => by show (if (c334 k_) = m + 3 then jr351 else if (c334 k_) = m + 4 then jr352 else if (c334 k_) < m then (c334 k_) else 0) = _; rw [hk_]; ((repeat' split) <;> omega))), SL.rc h207 (fun k_ hk_ => by show (if (c334 k_) = m + 3 then jr351 else if (c334 k_) = m + 4 then jr352 else if (c334 k_) < m then (c334 k_) else 0) = _; rw [hk_]; ((repeat' split) <;> omega)) (fun k_ hk_ => by show (if (c334 k_) = m + 3 then jr351 else if (c334 k_) = m + 4 then jr352 else if (c334 k_) < m then (c334 k_) else 0) = _; rw [hk_]; ((repeat' split) <;> omega)), SL.rc h210 (fun k_ hk_ => by show (if (c334 k_) = m + 3 then jr351 else if (c334 k_) = m + 4 then jr352 else if (c334 k_) < m then (c334 k_) else 0) = _; rw [hk_]; ((repeat' split) <;> omega)) (fun k_ hk_ => by show (if (c334 k_) = m + 3 then jr351 else if (c334 k_) = m + 4 then jr352 else if (c334 k_) < m then (c334 k_) else 0) = _; rw [hk_]; ((repeat' split) <;> omega))⟩
           refine regD (SB No c226 w227) 10 (.q 0 (.q 1 (.q 2 (.q 3 (.q 4 (.q 5 (.f 6 (.e 7 (.e 8 (.q 9 (.e 10 .nil)))) 7 (.f 6 (.e 8 (.q 9 (.e 10 .nil))) 8 (.e 6 (.q 9 (.e 10 .nil))))))))))) Try_hm (by decide +kernel) ?_
           intro w236 w1_ w2_ w3_ w4_
           have E237 : Ev No c226 w227 c226 w236 := Ev.same w1_ w2_ w3_ w4_
           replace B := B.same w1_
           have zhat64 := hat64
           have zh27 := h27
           have zhat152 := hat152
           have zh178 := h178
           have zh66 := h66
           have zh68 := h68
           have zh204 := h204
           have zh156 := h156
           have zh207 := h207
           have zh210 := h210
           have ER : Ev No c226 w227 c226 w236 := Ev.same w1_ w2_ w3_ w4_
           replace hat64 := AT.ev hat64 E237 (fun q => q.elim)
           replace h27 := AT.ev h27 E237 (fun q => q.elim)
           replace hat152 := AT.ev hat152 E237 (fun q => q.elim)
           replace h178 := AT.ev h178 E237 (fun q => q.elim)
           replace h66 := TB.ev h66 E237 (fun q => q.elim) (fun q => q.elim)
           replace h68 := AR.ev h68 E237 (fun q => q.elim)
           replace h204 := TB.ev h204 E237 (fun q => q.elim) (fun q => q.elim)
           replace h156 := AR.ev h156 E237 (fun q => q.elim)
           replace h207 := SL.ev h207 E237 (fun q => q.elim) (fun q => q.elim)
           replace h210 := SL.ev h210 E237 (fun q => q.elim) (fun q => q.elim)
           replace E := E.trans E237 (fun x q => q.elim)
           refine d_q F rfl rfl rfl (by decide) (fun wq hS => r_move F rfl) ER.sb fun a F => ?_
           refine d_q F rfl rfl rfl (by decide) (fun wq hS => r_move F rfl) ER.sb fun a F => ?_
           refine d_q F rfl rfl rfl (by decide) (fun wq hS => r_move F rfl) ER.sb fun a F => ?_
           refine d_q F rfl rfl rfl (by decide) (fun wq hS => r_move F rfl) ER.sb fun a F => ?_
           refine d_q F rfl rfl rfl (by decide) (fun wq hS => r_loads (cs := [.bool t160.1.Done, .slice A205 t160.1.Key.length C206, .slice A208 t160.1.Value.length C209, .int .i64 t160.1.Rev, .int .i64 t160.1.At]) F rfl ag_34 sz_34 (AT.sb zh178 hS (fun q => q.elim))) ER.sb fun a F => ?_
           refine d_q F rfl rfl rfl (by decide) (fun wq hS => r_build (v := .agg #[.int .i64 a6, .int .i64 a7, .bool t160.1.Done, .slice A205 t160.1.Key.length C206, .slice A208 t160.1.Value.length C209, .int .i64 t160.1.Rev, .int .i64 t160.1.At]) F [(0, .int .i64 a6), (1, .int .i64 a7), (2, .agg #[.bool t160.1.Done, .slice A205 t160.1.Key.length C206, .slice A208 t160.1.Value.length C209, .int .i64 t160.1.Rev, .int .i64 t160.1.At])] (by exact ⟨rfl, rfl, rfl, rfl, rfl, rfl, trivial⟩) (fun w => by kernel_rfl)) ER.sb fun a F => ?_
           refine d_f ?_ ?_
           ·replace H := bind_some H
            obtain ⟨t238, q239, H⟩ := H
            refine o_call F rfl (wanted_none rfl) rfl (by decide) (r_call F Try.func36 rfl (by kernel_rfl) rfl) (shard_own.calls (m := m + 6) (a1 := api_Seat.mk a6 a7 t160.1) (Nat.add_pos_left hm0 _) B h207 h210 _ q239) ?_
            rintro e w241 ⟨c240, A244, C245, A247, C248, rfl, E242, B243, h246, h249⟩
            refine ⟨_, rfl, fun a F => ?_⟩
            have B := B243
            replace ER := ER.trans E242 (fun x q => q.elim)
            replace hat64 := AT.ev hat64 E242 (fun q => q.elim)
            replace h27 := AT.ev h27 E242 (fun q => q.elim)
            replace hat152 := AT.ev hat152 E242 (fun q => q.elim)
            replace h178 := AT.ev h178 E242 (fun q => q.elim)
            replace h66 := TB.ev h66 E242 (fun q => q.elim) (fun q => q.elim)
            replace h68 := AR.ev h68 E242 (fun q => q.elim)
            replace h204 := TB.ev h204 E242 (fun q => q.elim) (fun q => q.elim)
            replace h156 := AR.ev h156 E242 (fun q => q.elim)
            replace h207 := SL.ev h207 E242 (fun q => q.elim) (fun q => q.elim)
            replace h210 := SL.ev h210 E242 (fun q => q.elim) (fun q => q.elim)
            replace E := E.trans E242 (fun x q => q.elim)
            refine ⟨fun _ => ER.sb, ?_⟩
            refine d_e ?_
            refine o_val F rfl rfl rfl (by decide) (r_nil F rfl) fun a F => ?_
            refine ⟨fun _ => ER.sb, ?_⟩
            refine d_e ?_
            refine o_val F rfl rfl rfl (by decide) (r_fieldAddr F rfl ff_76_1) fun a F => ?_
            refine ⟨fun _ => ER.sb, ?_⟩
            replace H := ifN H
            obtain ⟨g251, H⟩ := H
            obtain ⟨cs253, h254, r255⟩ := AR.at zhat152 rfl zh156 a6 g251.1 (by have g_ := g251.2; omega)
            obtain ⟨A257, C258, A260, C261, rfl, h259, h262⟩ := r255
            replace h259 := SL.fl (i' := 0) h259 (fun q => q)
            replace h262 := SL.fl (i' := 0) h262 (fun q => q)
            obtain ⟨qa256, qqa256⟩ : ∃ q, q = (ad151.add (1 + a6.toNat * 7)) := ⟨_, rfl⟩
            have h254 : AT true (m + 3) c226 w227 qa256 [.int .i64 ((rd ob148.seats a6).Client), .int .i64 ((rd ob148.seats a6).Seq), .bool (((rd ob148.seats a6).Answer).Done), .slice A257 (((rd ob148.seats a6).Answer).Key).length C258, .slice A260 (((rd ob148.seats a6).Answer).Value).length C261, .int .i64 (((rd ob148.seats a6).Answer).Rev), .int .i64 (((rd ob148.seats a6).Answer).At)] := by rw [qqa256]; exact h254
            have zh259 := h259
            replace h259 := SL.ev h259 ER (fun q => q.elim) (fun q => q.elim)
            have zh262 := h262
            replace h262 := SL.ev h262 ER (fun q => q.elim) (fun q => q.elim)
            have zh254 := h254
            replace h254 := AT.ev h254 ER (fun q => q.elim)
            refine d_q F rfl rfl rfl (by decide) (fun wq hS => r_indexArr3 F ua_74 sz_36 rfl rfl g251.1 (by have g_ := g251.2; omega) hat152 qqa256) ER.sb fun a F => ?_
            refine d_e ?_
            refine o_eff0 F rfl rfl rfl (e_storearN (us := [.int .i64 t238.Client, .int .i64 t238.Seq, .bool t238.Answer.Done, .slice A244 t238.Answer.Key.length C245, .slice A247 t238.Answer.Value.length C248, .int .i64 t238.Answer.Rev, .int .i64 t238.Answer.At]) F rfl rfl sz_36 hat152 rfl h156 (m := a6.toNat) (by have g_ := g251; omega) qqa256 h254 rfl (Nat.le_of_ble_eq_true rfl) (one_all rfl) t238 ⟨A244, C245, A247, C248, rfl, (SL.fl h246 (fun q => q)), (SL.fl h249 (fun q => q))⟩ ne_zm) ?_
            rintro w264 a ⟨cs267, E265, hat152, h156, Z266⟩ F
            replace B := B.size Z266
            replace hat64 := AT.ev hat64 E265 (ne_pm bj4)
            replace h27 := AT.ev h27 E265 (ne_mm (by decide))
            replace h178 := AT.ev h178 E265 (ne_mm (by decide))
            replace h66 := TB.ev h66 E265 (ne_pm bj5.1) ne_zm
            replace h68 := AR.ev h68 E265 ne_zm
            replace h204 := TB.ev h204 E265 (ne_mm (by decide)) ne_zm
            replace h207 := SL.ev h207 E265 ne_zm ne_zm
            replace h210 := SL.ev h210 E265 ne_zm ne_zm
            replace h246 := SL.ev h246 E265 ne_zm ne_zm
            replace h249 := SL.ev h249 E265 ne_zm ne_zm
            replace h259 := SL.ev h259 E265 ne_zm ne_zm
            replace h262 := SL.ev h262 E265 ne_zm ne_zm
            replace E := E.trans E265 (fun x (q : x = m + 3) => Or.inr (le_col q))
            replace hat152 : AT true (m + 3) c240 w264 ad151 (([.pointer p153] : List Value) ++ (cs267 ++ (([] : List Value)))) := hat152
            refine ⟨fun q => absurd rfl q, ?_⟩
            refine d_nil ?_
            exact J326 c240 w264 a t238 cs267 (F.sub ⟨rfl, rfl, rfl, trivial⟩) E B h27 hat152 h178 h204 h207 h210 h156 H
           ·replace H := bind_some H
            obtain ⟨t238, q239, H⟩ := H
            refine o_val F rfl rfl rfl (by decide) (r_nil F rfl) fun a F => ?_
            refine ⟨fun _ => ER.sb, ?_⟩
            refine d_f ?_ ?_
            ·refine o_call F rfl (wanted_none rfl) rfl (by decide) (r_call F Try.func36 rfl (by kernel_rfl) rfl) (shard_own.calls (m := m + 6) (a1 := api_Seat.mk a6 a7 t160.1) (Nat.add_pos_left hm0 _) B h207 h210 _ q239) ?_
             rintro e w269 ⟨c268, A272, C273, A275, C276, rfl, E270, B271, h274, h277⟩
             refine ⟨_, rfl, fun a F => ?_⟩
             have B := B271
             replace ER := ER.trans E270 (fun x q => q.elim)
             replace hat64 := AT.ev hat64 E270 (fun q => q.elim)
             replace h27 := AT.ev h27 E270 (fun q => q.elim)
             replace hat152 := AT.ev hat152 E270 (fun q => q.elim)
             replace h178 := AT.ev h178 E270 (fun q => q.elim)
             replace h66 := TB.ev h66 E270 (fun q => q.elim) (fun q => q.elim)
             replace h68 := AR.ev h68 E270 (fun q => q.elim)
             replace h204 := TB.ev h204 E270 (fun q => q.elim) (fun q => q.elim)
             replace h156 := AR.ev h156 E270 (fun q => q.elim)
             replace h207 := SL.ev h207 E270 (fun q => q.elim) (fun q => q.elim)
             replace h210 := SL.ev h210 E270 (fun q => q.elim) (fun q => q.elim)
             replace E := E.trans E270 (fun x q => q.elim)
             refine ⟨fun _ => ER.sb, ?_⟩
             refine d_e ?_
             refine o_val F rfl rfl rfl (by decide) (r_fieldAddr F rfl ff_76_1) fun a F => ?_
             refine ⟨fun _ => ER.sb, ?_⟩
             replace H := ifN H
             obtain ⟨g279, H⟩ := H
             obtain ⟨cs281, h282, r283⟩ := AR.at zhat152 rfl zh156 a6 g279.1 (by have g_ := g279.2; omega)
             obtain ⟨A285, C286, A288, C289, rfl, h287, h290⟩ := r283
             replace h287 := SL.fl (i' := 0) h287 (fun q => q)
             replace h290 := SL.fl (i' := 0) h290 (fun q => q)
             obtain ⟨qa284, qqa284⟩ : ∃ q, q = (ad151.add (1 + a6.toNat * 7)) := ⟨_, rfl⟩
             have h282 : AT true (m + 3) c226 w227 qa284 [.int .i64 ((rd ob148.seats a6).Client), .int .i64 ((rd ob148.seats a6).Seq), .bool (((rd ob148.seats a6).Answer).Done), .slice A285 (((rd ob148.seats a6).Answer).Key).length C286, .slice A288 (((rd ob148.seats a6).Answer).Value).length C289, .int .i64 (((rd ob148.seats a6).Answer).Rev), .int .i64 (((rd ob148.seats a6).Answer).At)] := by rw [qqa284]; exact h282
             have zh287 := h287
             replace h287 := SL.ev h287 ER (fun q => q.elim) (fun q => q.elim)
             have zh290 := h290
             replace h290 := SL.ev h290 ER (fun q => q.elim) (fun q => q.elim)
             have zh282 := h282
             replace h282 := AT.ev h282 ER (fun q => q.elim)
             refine d_q F rfl rfl rfl (by decide) (fun wq hS => r_indexArr3 F ua_74 sz_36 rfl rfl g279.1 (by have g_ := g279.2; omega) hat152 qqa284) ER.sb fun a F => ?_
             refine d_e ?_
             refine o_eff0 F rfl rfl rfl (e_storearN (us := [.int .i64 t238.Client, .int .i64 t238.Seq, .bool t238.Answer.Done, .slice A272 t238.Answer.Key.length C273, .slice A275 t238.Answer.Value.length C276, .int .i64 t238.Answer.Rev, .int .i64 t238.Answer.At]) F rfl rfl sz_36 hat152 rfl h156 (m := a6.toNat) (by have g_ := g279; omega) qqa284 h282 rfl (Nat.le_of_ble_eq_true rfl) (one_all rfl) t238 ⟨A272, C273, A275, C276, rfl, (SL.fl h274 (fun q => q)), (SL.fl h277 (fun q => q))⟩ ne_zm) ?_
             rintro w292 a ⟨cs295, E293, hat152, h156, Z294⟩ F
             replace B := B.size Z294
             replace hat64 := AT.ev hat64 E293 (ne_pm bj4)
             replace h27 := AT.ev h27 E293 (ne_mm (by decide))
             replace h178 := AT.ev h178 E293 (ne_mm (by decide))
             replace h66 := TB.ev h66 E293 (ne_pm bj5.1) ne_zm
             replace h68 := AR.ev h68 E293 ne_zm
             replace h204 := TB.ev h204 E293 (ne_mm (by decide)) ne_zm
             replace h207 := SL.ev h207 E293 ne_zm ne_zm
             replace h210 := SL.ev h210 E293 ne_zm ne_zm
             replace h274 := SL.ev h274 E293 ne_zm ne_zm
             replace h277 := SL.ev h277 E293 ne_zm ne_zm
             replace h287 := SL.ev h287 E293 ne_zm ne_zm
             replace h290 := SL.ev h290 E293 ne_zm ne_zm
             replace E := E.trans E293 (fun x (q : x = m + 3) => Or.inr (le_col q))
             replace hat152 : AT true (m + 3) c268 w292 ad151 (([.pointer p153] : List Value) ++ (cs295 ++ (([] : List Value)))) := hat152
             refine ⟨fun q => absurd rfl q, ?_⟩
             refine d_nil ?_
             exact J326 c268 w292 a t238 cs295 (F.sub ⟨rfl, rfl, rfl, trivial⟩) E B h27 hat152 h178 h204 h207 h210 h156 H
            ·refine o_val F rfl rfl rfl (by decide) (r_fieldAddr F rfl ff_76_1) fun a F => ?_
             refine ⟨fun _ => ER.sb, ?_⟩
             refine d_e ?_
             refine o_call F rfl (wanted_none rfl) rfl (by decide) (r_call F Try.func36 rfl (by kernel_rfl) rfl) (shard_own.calls (m := m + 6) (a1 := api_Seat.mk a6 a7 t160.1) (Nat.add_pos_left hm0 _) B h207 h210 _ q239) ?_
             rintro e w297 ⟨c296, A300, C301, A303, C304, rfl, E298, B299, h302, h305⟩
             refine ⟨_, rfl, fun a F => ?_⟩
             have B := B299
             replace ER := ER.trans E298 (fun x q => q.elim)
             replace hat64 := AT.ev hat64 E298 (fun q => q.elim)
             replace h27 := AT.ev h27 E298 (fun q => q.elim)
             replace hat152 := AT.ev hat152 E298 (fun q => q.elim)
             replace h178 := AT.ev h178 E298 (fun q => q.elim)
             replace h66 := TB.ev h66 E298 (fun q => q.elim) (fun q => q.elim)
             replace h68 := AR.ev h68 E298 (fun q => q.elim)
             replace h204 := TB.ev h204 E298 (fun q => q.elim) (fun q => q.elim)
             replace h156 := AR.ev h156 E298 (fun q => q.elim)
             replace h207 := SL.ev h207 E298 (fun q => q.elim) (fun q => q.elim)
             replace h210 := SL.ev h210 E298 (fun q => q.elim) (fun q => q.elim)
             replace E := E.trans E298 (fun x q => q.elim)
             refine ⟨fun _ => ER.sb, ?_⟩
             replace H := ifN H
             obtain ⟨g307, H⟩ := H
             obtain ⟨cs309, h310, r311⟩ := AR.at zhat152 rfl zh156 a6 g307.1 (by have g_ := g307.2; omega)
             obtain ⟨A313, C314, A316, C317, rfl, h315, h318⟩ := r311
             replace h315 := SL.fl (i' := 0) h315 (fun q => q)
             replace h318 := SL.fl (i' := 0) h318 (fun q => q)
             obtain ⟨qa312, qqa312⟩ : ∃ q, q = (ad151.add (1 + a6.toNat * 7)) := ⟨_, rfl⟩
             have h310 : AT true (m + 3) c226 w227 qa312 [.int .i64 ((rd ob148.seats a6).Client), .int .i64 ((rd ob148.seats a6).Seq), .bool (((rd ob148.seats a6).Answer).Done), .slice A313 (((rd ob148.seats a6).Answer).Key).length C314, .slice A316 (((rd ob148.seats a6).Answer).Value).length C317, .int .i64 (((rd ob148.seats a6).Answer).Rev), .int .i64 (((rd ob148.seats a6).Answer).At)] := by rw [qqa312]; exact h310
             have zh315 := h315
             replace h315 := SL.ev h315 ER (fun q => q.elim) (fun q => q.elim)
             have zh318 := h318
             replace h318 := SL.ev h318 ER (fun q => q.elim) (fun q => q.elim)
             have zh310 := h310
             replace h310 := AT.ev h310 ER (fun q => q.elim)
             refine d_q F rfl rfl rfl (by decide) (fun wq hS => r_indexArr3 F ua_74 sz_36 rfl rfl g307.1 (by have g_ := g307.2; omega) hat152 qqa312) ER.sb fun a F => ?_
             refine d_e ?_
             refine o_eff0 F rfl rfl rfl (e_storearN (us := [.int .i64 t238.Client, .int .i64 t238.Seq, .bool t238.Answer.Done, .slice A300 t238.Answer.Key.length C301, .slice A303 t238.Answer.Value.length C304, .int .i64 t238.Answer.Rev, .int .i64 t238.Answer.At]) F rfl rfl sz_36 hat152 rfl h156 (m := a6.toNat) (by have g_ := g307; omega) qqa312 h310 rfl (Nat.le_of_ble_eq_true rfl) (one_all rfl) t238 ⟨A300, C301, A303, C304, rfl, (SL.fl h302 (fun q => q)), (SL.fl h305 (fun q => q))⟩ ne_zm) ?_
             rintro w320 a ⟨cs323, E321, hat152, h156, Z322⟩ F
             replace B := B.size Z322
             replace hat64 := AT.ev hat64 E321 (ne_pm bj4)
             replace h27 := AT.ev h27 E321 (ne_mm (by decide))
             replace h178 := AT.ev h178 E321 (ne_mm (by decide))
             replace h66 := TB.ev h66 E321 (ne_pm bj5.1) ne_zm
             replace h68 := AR.ev h68 E321 ne_zm
             replace h204 := TB.ev h204 E321 (ne_mm (by decide)) ne_zm
             replace h207 := SL.ev h207 E321 ne_zm ne_zm
             replace h210 := SL.ev h210 E321 ne_zm ne_zm
             replace h302 := SL.ev h302 E321 ne_zm ne_zm
             replace h305 := SL.ev h305 E321 ne_zm ne_zm
             replace h315 := SL.ev h315 E321 ne_zm ne_zm
             replace h318 := SL.ev h318 E321 ne_zm ne_zm
             replace E := E.trans E321 (fun x (q : x = m + 3) => Or.inr (le_col q))
             replace hat152 : AT true (m + 3) c296 w320 ad151 (([.pointer p153] : List Value) ++ (cs323 ++ (([] : List Value)))) := hat152
             refine ⟨fun q => absurd rfl q, ?_⟩
             refine d_nil ?_
             exact J326 c296 w320 a t238 cs323 (F.sub ⟨rfl, rfl, rfl, trivial⟩) E B h27 hat152 h178 h204 h207 h210 h156 H
         refine reg ?_
         refine q_val F rfl rfl (by decide) (r_fieldAddr F rfl ff_30_0) fun a F => ?_
         refine q_val F rfl rfl (by decide) (r_load F rfl ag_3 (AT.cell h20 rfl)) fun a F => ?_
         refine q_val F rfl rfl (by decide) (r_eql F rfl rfl) fun a F => ?_
         refine q_val F rfl rfl (by decide) (r_move F rfl) fun a F => ?_
         by_cases hb223 : a8.Kind = 1
         ·replace H := (if_pos hb223).symm.trans H
          refine q_no F rfl (by decide) rfl (decide_eq_true hb223) (by decide) fun a F => ?_
          refine q_no F rfl (by decide) rfl (decide_eq_true hb223) (by decide) fun a F => ?_
          refine q_no F rfl (by decide) rfl (decide_eq_true hb223) (by decide) fun a F => ?_
          refine q_val F rfl rfl (by decide) (r_pick_t F rfl (decide_eq_true hb223) rfl) fun a F => ?_
          refine nil ?_
          exact J225 c212 w213 a true (F.sub ⟨rfl, rfl, rfl, rfl, rfl, rfl, rfl, trivial⟩) E B hat64 h27 hat152 h178 h66 h68 h204 h156 h207 h210 H
         ·replace H := (if_neg hb223).symm.trans H
          refine q_yes F rfl (by decide) rfl (decide_eq_false hb223) ?_
          refine q_val F rfl rfl (by decide) (r_fieldAddr F rfl ff_30_0) fun a F => ?_
          refine q_yes F rfl (by decide) rfl (decide_eq_false hb223) ?_
          refine q_val F rfl rfl (by decide) (r_load F rfl ag_3 (AT.cell h20 rfl)) fun a F => ?_
          refine q_yes F rfl (by decide) rfl (decide_eq_false hb223) ?_
          refine q_val F rfl rfl (by decide) (r_eql F rfl rfl) fun a F => ?_
          refine q_val F rfl rfl (by decide) (r_pick_f F rfl (decide_eq_false hb223) rfl) fun a F => ?_
          refine nil ?_
          exact J225 c212 w213 a (decide (a8.Kind = 5)) (F.sub ⟨rfl, rfl, rfl, rfl, rfl, rfl, rfl, trivial⟩) E B hat64 h27 hat152 h178 h66 h68 h204 h156 h207 h210 H
        ·replace H := (if_neg hb216).symm.trans H
         refine wp_cond_true ((F.ev rfl).trans (congrArg Value.bool (congrArg not (decide_eq_false hb216)))) ?_
         refine wp_seq_k fun K217 hK217 => ?_
         refine reg ?_
         refine q_val F rfl rfl (by decide) (r_build (v := .agg #[.bool false, .slice none 0 0, .slice none 0 0, .int .i64 0, .int .i64 0]) F [] (by exact trivial) (fun w => by kernel_rfl)) fun a F => ?_
         refine q_val F rfl rfl (by decide) (r_move F rfl) fun a F => ?_
         refine q_val F rfl rfl (by decide) (r_assign F rfl) fun a F => ?_
         refine q_eff0 F rfl rfl (e_storeN0 (us := [.bool false, .slice none 0 0, .slice none 0 0, .int .i64 0, .int .i64 0]) F rfl rfl sz_34 h27 (Nat.le_of_ble_eq_true rfl) (one_all rfl)) ?_
         rintro w218 a ⟨E219, h27, Z220⟩ F
         replace B := B.size Z220
         replace hat64 := AT.ev hat64 E219 (ne_pm bj4)
         replace h20 := AT.ev h20 E219 (ne_mm (by decide))
         replace hat152 := AT.ev hat152 E219 (ne_mm (by decide))
         replace h178 := AT.ev h178 E219 (ne_mm (by decide))
         replace h66 := TB.ev h66 E219 (ne_pm bj5.1) ne_zm
         replace h68 := AR.ev h68 E219 ne_zm
         replace h11 := SL.ev h11 E219 ne_zm ne_zm
         replace h14 := SL.ev h14 E219 ne_zm ne_zm
         replace h156 := AR.ev h156 E219 ne_zm
         replace h204 := TB.ev h204 E219 (ne_mm (by decide)) ne_zm
         replace h207 := SL.ev h207 E219 ne_zm ne_zm
         replace h210 := SL.ev h210 E219 ne_zm ne_zm
         replace E := E.trans E219 (fun x (q : x = m + 2) => Or.inr (le_col q))
         replace h27 : AT true (m + 2) c212 w218 qa25 [.bool false, .slice none 0 0, .slice none 0 0, .int .i64 0, .int .i64 0] := h27
         refine q_val F rfl rfl (by decide) (r_assign F rfl) fun a F => ?_
         refine q_val F rfl rfl (by decide) (r_assign F rfl) fun a F => ?_
         refine nil ?_
         refine hK217 _ _ ?_
         replace F : Fr a 111 [(8, .pointer none), (9, .pointer (some qa25)), (10, .bool false), (11, .int .i64 t160.2.1)] := F.sub ⟨rfl, rfl, rfl, rfl, trivial⟩
         refine wp_ret ?_
         refine thenR ?_
         replace H := Option.some.inj H
         subst H
         refine outR4 F rfl rfl ⟨_, rfl, lv_agg (cs := [.bool false, .slice none 0 0, .slice none 0 0, .int .i64 0, .int .i64 0]) ag_34 sz_34 h27⟩ rfl rfl ?_
         exact ⟨fun b_ => (fun x_ => if x_ = m + 3 then jr351 else if x_ = m + 4 then jr352 else if x_ < m then x_ else 0) (c212 b_), none, none, 0, none, 0, rfl, E.leave B0 (fun x_ => if x_ = m + 3 then jr351 else if x_ = m + 4 then jr352 else if x_ < m then x_ else 0) (by intro x_ hx_; show (if x_ = m + 3 then jr351 else if x_ = m + 4 then jr352 else if x_ < m then x_ else 0) = x_; ((repeat' split) <;> omega)), (fun b_ hb_ => by show (if (c212 b_) = m + 3 then jr351 else if (c212 b_) = m + 4 then jr352 else if (c212 b_) < m then (c212 b_) else 0) < m; ((repeat' split) <;> omega)), alc_mk (SH.nil), SL.nil, SL.nil⟩
       replace H := bind_some H
       obtain ⟨ob148, e149, H⟩ := H
       have z150 := h145
       rw [e149] at z150
       obtain ⟨ad151, p153, cs155, rfl, hat152, h154, h156⟩ := SH.some z150
       refine regD (SB (fun x => x = m + 4 ∨ x = m + 5) c140 w141) 12 (.q 0 (.q 1 (.q 2 (.q 3 (.q 4 (.f 5 (.q 6 (.q 7 (.q 8 (.e 9 (.e 10 (.q 11 .nil)))))) 9 (.e 5 (.q 6 (.q 7 (.q 8 (.e 10 (.q 11 .nil)))))))))))) Try_hm (by decide +kernel) ?_
       intro w158 w1_ w2_ w3_ w4_
       have E159 : Ev No c140 w141 c140 w158 := Ev.same w1_ w2_ w3_ w4_
       replace B := B.same w1_
       have zh20 := h20
       have zh27 := h27
       have zh3 := h3
       have zh11 := h11
       have zh14 := h14
       have zh66 := h66
       have zh68 := h68
       have zhat64 := hat64
       have zh78 := h78
       have zh81 := h81
       have zh73 := h73
       have zh97 := h97
       have zh100 := h100
       have zh92 := h92
       have zh145 := h145
       have zh154 := h154
       have zh156 := h156
       have zhat152 := hat152
       have ER : Ev (fun x => x = m + 4 ∨ x = m + 5) c140 w141 c140 w158 := Ev.same w1_ w2_ w3_ w4_
       replace h20 := AT.ev h20 E159 (fun q => q.elim)
       replace h27 := AT.ev h27 E159 (fun q => q.elim)
       replace h3 := SH.ev h3 E159 (fun q => q.elim) (fun q => q.elim) (fun q => q.elim)
       replace h11 := SL.ev h11 E159 (fun q => q.elim) (fun q => q.elim)
       replace h14 := SL.ev h14 E159 (fun q => q.elim) (fun q => q.elim)
       replace h66 := TB.ev h66 E159 (fun q => q.elim) (fun q => q.elim)
       replace h68 := AR.ev h68 E159 (fun q => q.elim)
       replace hat64 := AT.ev hat64 E159 (fun q => q.elim)
       replace h78 := SL.ev h78 E159 (fun q => q.elim) (fun q => q.elim)
       replace h81 := SL.ev h81 E159 (fun q => q.elim) (fun q => q.elim)
       replace h73 := AT.ev h73 E159 (fun q => q.elim)
       replace h97 := SL.ev h97 E159 (fun q => q.elim) (fun q => q.elim)
       replace h100 := SL.ev h100 E159 (fun q => q.elim) (fun q => q.elim)
       replace h92 := AT.ev h92 E159 (fun q => q.elim)
       replace h145 := SH.ev h145 E159 (fun q => q.elim) (fun q => q.elim) (fun q => q.elim)
       replace h154 := TB.ev h154 E159 (fun q => q.elim) (fun q => q.elim)
       replace h156 := AR.ev h156 E159 (fun q => q.elim)
       replace hat152 := AT.ev hat152 E159 (fun q => q.elim)
       replace E := E.trans E159 (fun x q => q.elim)
       refine d_q F rfl rfl rfl (by decide) (fun wq hS => r_move F rfl) ER.sb fun a F => ?_
       refine d_q F rfl rfl rfl (by decide) (fun wq hS => r_nil F rfl) ER.sb fun a F => ?_
       refine d_q F rfl rfl rfl (by decide) (fun wq hS => r_fieldAddr F rfl ff_76_0) ER.sb fun a F => ?_
       refine d_q F rfl rfl rfl (by decide) (fun wq hS => r_load F rfl ag_26 (AT.cell (AT.ev zhat152 hS (nor (ne_mm (by decide)) (ne_mm (by decide)))) rfl)) ER.sb fun a F => ?_
       refine d_q F rfl rfl rfl (by decide) (fun wq hS => r_loads (cs := [.int .i64 a8.Kind, .slice A9 a8.Key.length C10, .slice A12 a8.Value.length C13, .int .i64 a8.Rev]) F rfl ag_30 sz_30 (AT.sb zh20 hS (nor (ne_mm (by decide)) (ne_mm (by decide))))) ER.sb fun a F => ?_
       refine d_f ?_ ?_
       ·replace H := bind_some H
        obtain ⟨t160, q161, H⟩ := H
        refine o_call F rfl (wanted_none rfl) rfl (by decide) (r_call F Try.func12 rfl (by kernel_rfl) rfl) (table_Table_Do.calls k (m := m + 6) (Nat.add_pos_left hm0 _) B h154 h11 h14 ⟨(Nat.add_pos_left hm0 _), (Nat.add_lt_add_left (by decide) m)⟩ _ q161) ?_
        rintro e w163 ⟨c162, A166, C167, A169, C170, rfl, E164, B165, h168, h171, h172⟩
        refine ⟨_, rfl, fun a F => ?_⟩
        have B := B165
        replace ER := ER.trans E164 (fun x q => by replace q : x = m + 4 := q; show x = m + 4 ∨ x = m + 5; omega)
        replace h20 := AT.ev h20 E164 (ne_mm (by decide))
        replace h27 := AT.ev h27 E164 (ne_mm (by decide))
        replace h3 := SH.ev h3 E164 (ne_pm bj4) (ne_pm bj5.1) ne_zm
        replace h11 := SL.ev h11 E164 ne_zm ne_zm
        replace h14 := SL.ev h14 E164 ne_zm ne_zm
        replace h66 := TB.ev h66 E164 (ne_pm bj5.1) ne_zm
        replace h68 := AR.ev h68 E164 ne_zm
        replace hat64 := AT.ev hat64 E164 (ne_pm bj4)
        replace h78 := SL.ev h78 E164 ne_zm ne_zm
        replace h81 := SL.ev h81 E164 ne_zm ne_zm
        replace h73 := AT.ev h73 E164 (ne_pm bj4)
        replace h97 := SL.ev h97 E164 ne_zm ne_zm
        replace h100 := SL.ev h100 E164 ne_zm ne_zm
        replace h92 := AT.ev h92 E164 (ne_pm bj4)
        replace h156 := AR.ev h156 E164 ne_zm
        replace hat152 := AT.ev hat152 E164 (ne_mm (by decide))
        replace E := E.trans E164 (fun x (q : x = m + 4) => Or.inr (le_col q))
        refine ⟨fun _ => ER.sb, ?_⟩
        refine d_q F rfl rfl rfl (by decide) (fun wq hS => r_move F rfl) ER.sb fun a F => ?_
        refine d_q F rfl rfl rfl (by decide) (fun wq hS => r_extract F rfl rfl) ER.sb fun a F => ?_
        refine d_q F rfl rfl rfl (by decide) (fun wq hS => r_extract F rfl rfl) ER.sb fun a F => ?_
        refine d_e ?_
        refine o_eff F rfl rfl rfl (by decide) (e_alloc F zv_34 c162 (m + 5)) ?_
        rintro v w175 a ⟨c174, qa176, rfl, E177, h178, B179⟩ F
        replace B := B179 _ B (Nat.add_lt_add_left (by decide) m)
        replace ER := ER.trans E177 (fun x q => q.elim)
        replace h20 := AT.ev h20 E177 (fun q => q.elim)
        replace h27 := AT.ev h27 E177 (fun q => q.elim)
        replace h3 := SH.ev h3 E177 (fun q => q.elim) (fun q => q.elim) (fun q => q.elim)
        replace h11 := SL.ev h11 E177 (fun q => q.elim) (fun q => q.elim)
        replace h14 := SL.ev h14 E177 (fun q => q.elim) (fun q => q.elim)
        replace h66 := TB.ev h66 E177 (fun q => q.elim) (fun q => q.elim)
        replace h68 := AR.ev h68 E177 (fun q => q.elim)
        replace hat64 := AT.ev hat64 E177 (fun q => q.elim)
        replace h78 := SL.ev h78 E177 (fun q => q.elim) (fun q => q.elim)
        replace h81 := SL.ev h81 E177 (fun q => q.elim) (fun q => q.elim)
        replace h73 := AT.ev h73 E177 (fun q => q.elim)
        replace h97 := SL.ev h97 E177 (fun q => q.elim) (fun q => q.elim)
        replace h100 := SL.ev h100 E177 (fun q => q.elim) (fun q => q.elim)
        replace h92 := AT.ev h92 E177 (fun q => q.elim)
        replace h156 := AR.ev h156 E177 (fun q => q.elim)
        replace hat152 := AT.ev hat152 E177 (fun q => q.elim)
        replace h168 := SL.ev h168 E177 (fun q => q.elim) (fun q => q.elim)
        replace h171 := SL.ev h171 E177 (fun q => q.elim) (fun q => q.elim)
        replace h172 := TB.ev h172 E177 (fun q => q.elim) (fun q => q.elim)
        replace E := E.trans E177 (fun x q => q.elim)
        replace h178 : AT true (m + 5) c174 w175 qa176 [.bool false, .slice none 0 0, .slice none 0 0, .int .i64 0, .int .i64 0] := h178
        refine ⟨fun _ => ER.sb, ?_⟩
        refine d_e ?_
        refine o_eff0 F rfl rfl rfl (e_storeN0 (us := [.bool t160.1.Done, .slice A166 t160.1.Key.length C167, .slice A169 t160.1.Value.length C170, .int .i64 t160.1.Rev, .int .i64 t160.1.At]) F rfl rfl sz_34 h178 (Nat.le_of_ble_eq_true rfl) (one_all rfl)) ?_
        rintro w181 a ⟨E182, h178, Z183⟩ F
        replace B := B.size Z183
        replace ER := ER.trans E182 (fun x q => by replace q : x = m + 5 := q; show x = m + 4 ∨ x = m + 5; omega)
        replace h20 := AT.ev h20 E182 (ne_mm (by decide))
        replace h27 := AT.ev h27 E182 (ne_mm (by decide))
        replace h3 := SH.ev h3 E182 (ne_pm bj4) (ne_pm bj5.1) ne_zm
        replace h11 := SL.ev h11 E182 ne_zm ne_zm
        replace h14 := SL.ev h14 E182 ne_zm ne_zm
        replace h66 := TB.ev h66 E182 (ne_pm bj5.1) ne_zm
        replace h68 := AR.ev h68 E182 ne_zm
        replace hat64 := AT.ev hat64 E182 (ne_pm bj4)
        replace h78 := SL.ev h78 E182 ne_zm ne_zm
        replace h81 := SL.ev h81 E182 ne_zm ne_zm
        replace h73 := AT.ev h73 E182 (ne_pm bj4)
        replace h97 := SL.ev h97 E182 ne_zm ne_zm
        replace h100 := SL.ev h100 E182 ne_zm ne_zm
        replace h92 := AT.ev h92 E182 (ne_pm bj4)
        replace h156 := AR.ev h156 E182 ne_zm
        replace hat152 := AT.ev hat152 E182 (ne_mm (by decide))
        replace h168 := SL.ev h168 E182 ne_zm ne_zm
        replace h171 := SL.ev h171 E182 ne_zm ne_zm
        replace h172 := TB.ev h172 E182 (ne_mm (by decide)) ne_zm
        replace E := E.trans E182 (fun x (q : x = m + 5) => Or.inr (le_col q))
        replace h178 : AT true (m + 5) c174 w181 qa176 [.bool t160.1.Done, .slice A166 t160.1.Key.length C167, .slice A169 t160.1.Value.length C170, .int .i64 t160.1.Rev, .int .i64 t160.1.At] := h178
        refine ⟨fun _ => ER.sb, ?_⟩
        refine d_q F rfl rfl rfl (by decide) (fun wq hS => r_assign F rfl) ER.sb fun a F => ?_
        refine d_nil ?_
        exact J211 c174 w181 a ad151 qa176 t160 p153 cs155 ob148 A166 C167 A169 C170 (F.sub ⟨rfl, rfl, rfl, rfl, rfl, rfl, rfl, rfl, trivial⟩) E B hat64 h20 h27 hat152 h178 h66 h68 h11 h14 h156 h172 h168 h171 H
       ·replace H := bind_some H
        obtain ⟨t160, q161, H⟩ := H
        refine o_eff F rfl rfl rfl (by decide) (e_alloc F zv_34 c140 (m + 5)) ?_
        rintro v w185 a ⟨c184, qa176, rfl, E186, h178, B187⟩ F
        replace B := B187 _ B (Nat.add_lt_add_left (by decide) m)
        replace ER := ER.trans E186 (fun x q => q.elim)
        replace h20 := AT.ev h20 E186 (fun q => q.elim)
        replace h27 := AT.ev h27 E186 (fun q => q.elim)
        replace h3 := SH.ev h3 E186 (fun q => q.elim) (fun q => q.elim) (fun q => q.elim)
        replace h11 := SL.ev h11 E186 (fun q => q.elim) (fun q => q.elim)
        replace h14 := SL.ev h14 E186 (fun q => q.elim) (fun q => q.elim)
        replace h66 := TB.ev h66 E186 (fun q => q.elim) (fun q => q.elim)
        replace h68 := AR.ev h68 E186 (fun q => q.elim)
        replace hat64 := AT.ev hat64 E186 (fun q => q.elim)
        replace h78 := SL.ev h78 E186 (fun q => q.elim) (fun q => q.elim)
        replace h81 := SL.ev h81 E186 (fun q => q.elim) (fun q => q.elim)
        replace h73 := AT.ev h73 E186 (fun q => q.elim)
        replace h97 := SL.ev h97 E186 (fun q => q.elim) (fun q => q.elim)
        replace h100 := SL.ev h100 E186 (fun q => q.elim) (fun q => q.elim)
        replace h92 := AT.ev h92 E186 (fun q => q.elim)
        replace h145 := SH.ev h145 E186 (fun q => q.elim) (fun q => q.elim) (fun q => q.elim)
        replace h154 := TB.ev h154 E186 (fun q => q.elim) (fun q => q.elim)
        replace h156 := AR.ev h156 E186 (fun q => q.elim)
        replace hat152 := AT.ev hat152 E186 (fun q => q.elim)
        replace E := E.trans E186 (fun x q => q.elim)
        replace h178 : AT true (m + 5) c184 w185 qa176 [.bool false, .slice none 0 0, .slice none 0 0, .int .i64 0, .int .i64 0] := h178
        refine ⟨fun _ => ER.sb, ?_⟩
        refine d_e ?_
        refine o_call F rfl (wanted_none rfl) rfl (by decide) (r_call F Try.func12 rfl (by kernel_rfl) rfl) (table_Table_Do.calls k (m := m + 6) (Nat.add_pos_left hm0 _) B h154 h11 h14 ⟨(Nat.add_pos_left hm0 _), (Nat.add_lt_add_left (by decide) m)⟩ _ q161) ?_
        rintro e w189 ⟨c188, A192, C193, A195, C196, rfl, E190, B191, h194, h197, h198⟩
        refine ⟨_, rfl, fun a F => ?_⟩
        have B := B191
        replace ER := ER.trans E190 (fun x q => by replace q : x = m + 4 := q; show x = m + 4 ∨ x = m + 5; omega)
        replace h20 := AT.ev h20 E190 (ne_mm (by decide))
        replace h27 := AT.ev h27 E190 (ne_mm (by decide))
        replace h3 := SH.ev h3 E190 (ne_pm bj4) (ne_pm bj5.1) ne_zm
        replace h11 := SL.ev h11 E190 ne_zm ne_zm
        replace h14 := SL.ev h14 E190 ne_zm ne_zm
        replace h66 := TB.ev h66 E190 (ne_pm bj5.1) ne_zm
        replace h68 := AR.ev h68 E190 ne_zm
        replace hat64 := AT.ev hat64 E190 (ne_pm bj4)
        replace h78 := SL.ev h78 E190 ne_zm ne_zm
        replace h81 := SL.ev h81 E190 ne_zm ne_zm
        replace h73 := AT.ev h73 E190 (ne_pm bj4)
        replace h97 := SL.ev h97 E190 ne_zm ne_zm
        replace h100 := SL.ev h100 E190 ne_zm ne_zm
        replace h92 := AT.ev h92 E190 (ne_pm bj4)
        replace h156 := AR.ev h156 E190 ne_zm
        replace hat152 := AT.ev hat152 E190 (ne_mm (by decide))
        replace h178 := AT.ev h178 E190 (ne_mm (by decide))
        replace E := E.trans E190 (fun x (q : x = m + 4) => Or.inr (le_col q))
        refine ⟨fun _ => ER.sb, ?_⟩
        refine d_q F rfl rfl rfl (by decide) (fun wq hS => r_move F rfl) ER.sb fun a F => ?_
        refine d_q F rfl rfl rfl (by decide) (fun wq hS => r_extract F rfl rfl) ER.sb fun a F => ?_
        refine d_q F rfl rfl rfl (by decide) (fun wq hS => r_extract F rfl rfl) ER.sb fun a F => ?_
        refine d_e ?_
        refine o_eff0 F rfl rfl rfl (e_storeN0 (us := [.bool t160.1.Done, .slice A192 t160.1.Key.length C193, .slice A195 t160.1.Value.length C196, .int .i64 t160.1.Rev, .int .i64 t160.1.At]) F rfl rfl sz_34 h178 (Nat.le_of_ble_eq_true rfl) (one_all rfl)) ?_
        rintro w200 a ⟨E201, h178, Z202⟩ F
        replace B := B.size Z202
        replace ER := ER.trans E201 (fun x q => by replace q : x = m + 5 := q; show x = m + 4 ∨ x = m + 5; omega)
        replace h20 := AT.ev h20 E201 (ne_mm (by decide))
        replace h27 := AT.ev h27 E201 (ne_mm (by decide))
        replace h3 := SH.ev h3 E201 (ne_pm bj4) (ne_pm bj5.1) ne_zm
        replace h11 := SL.ev h11 E201 ne_zm ne_zm
        replace h14 := SL.ev h14 E201 ne_zm ne_zm
        replace h66 := TB.ev h66 E201 (ne_pm bj5.1) ne_zm
        replace h68 := AR.ev h68 E201 ne_zm
        replace hat64 := AT.ev hat64 E201 (ne_pm bj4)
        replace h78 := SL.ev h78 E201 ne_zm ne_zm
        replace h81 := SL.ev h81 E201 ne_zm ne_zm
        replace h73 := AT.ev h73 E201 (ne_pm bj4)
        replace h97 := SL.ev h97 E201 ne_zm ne_zm
        replace h100 := SL.ev h100 E201 ne_zm ne_zm
        replace h92 := AT.ev h92 E201 (ne_pm bj4)
        replace h156 := AR.ev h156 E201 ne_zm
        replace hat152 := AT.ev hat152 E201 (ne_mm (by decide))
        replace h194 := SL.ev h194 E201 ne_zm ne_zm
        replace h197 := SL.ev h197 E201 ne_zm ne_zm
        replace h198 := TB.ev h198 E201 (ne_mm (by decide)) ne_zm
        replace E := E.trans E201 (fun x (q : x = m + 5) => Or.inr (le_col q))
        replace h178 : AT true (m + 5) c188 w200 qa176 [.bool t160.1.Done, .slice A192 t160.1.Key.length C193, .slice A195 t160.1.Value.length C196, .int .i64 t160.1.Rev, .int .i64 t160.1.At] := h178
        refine ⟨fun _ => ER.sb, ?_⟩
        refine d_q F rfl rfl rfl (by decide) (fun wq hS => r_assign F rfl) ER.sb fun a F => ?_
        refine d_nil ?_
        exact J211 c188 w200 a ad151 qa176 t160 p153 cs155 ob148 A192 C193 A195 C196 (F.sub ⟨rfl, rfl, rfl, rfl, rfl, rfl, rfl, rfl, trivial⟩) E B hat64 h20 h27 hat152 h178 h66 h68 h11 h14 h156 h198 h194 h197 H
    ·replace H := (if_neg hb58).symm.trans H
     refine wp_cond_true ((F.ev rfl).trans (congrArg Value.bool (congrArg not (bfalse hb58)))) ?_
     refine wp_seq_k fun K133 hK133 => ?_
     refine reg ?_
     refine q_val F rfl rfl (by decide) (r_build (v := .agg #[.bool false, .slice none 0 0, .slice none 0 0, .int .i64 0, .int .i64 0]) F [] (by exact trivial) (fun w => by kernel_rfl)) fun a F => ?_
     refine q_val F rfl rfl (by decide) (r_assign F rfl) fun a F => ?_
     refine q_eff0 F rfl rfl (e_storeN0 (us := [.bool false, .slice none 0 0, .slice none 0 0, .int .i64 0, .int .i64 0]) F rfl rfl sz_34 h27 (Nat.le_of_ble_eq_true rfl) (one_all rfl)) ?_
     rintro w134 a ⟨E135, h27, Z136⟩ F
     replace B := B.size Z136
     replace h20 := AT.ev h20 E135 (ne_mm (by decide))
     replace h3 := SH.ev h3 E135 (ne_pm bj4) (ne_pm bj5.1) ne_zm
     replace h11 := SL.ev h11 E135 ne_zm ne_zm
     replace h14 := SL.ev h14 E135 ne_zm ne_zm
     replace E := E.trans E135 (fun x (q : x = m + 2) => Or.inr (le_col q))
     replace h27 : AT true (m + 2) c53 w134 qa25 [.bool false, .slice none 0 0, .slice none 0 0, .int .i64 0, .int .i64 0] := h27
     refine q_val F rfl rfl (by decide) (r_assign F rfl) fun a F => ?_
     refine q_val F rfl rfl (by decide) (r_assign F rfl) fun a F => ?_
     refine nil ?_
     refine hK133 _ _ ?_
     replace F : Fr a 111 [(8, .pointer none), (9, .pointer (some qa25)), (10, .bool false), (11, .int .i64 131)] := F.sub ⟨rfl, rfl, rfl, rfl, trivial⟩
     refine wp_ret ?_
     refine inbR ?_
     refine thenR ?_
     replace H := Option.some.inj H
     subst H
     refine outR4 F rfl rfl ⟨_, rfl, lv_agg (cs := [.bool false, .slice none 0 0, .slice none 0 0, .int .i64 0, .int .i64 0]) ag_34 sz_34 h27⟩ rfl rfl ?_
     exact ⟨fun b_ => (fun x_ => if x_ = m + 3 then jr351 else if x_ = m + 4 then jr352 else if x_ < m then x_ else 0) (c53 b_), none, none, 0, none, 0, rfl, E.leave B0 (fun x_ => if x_ = m + 3 then jr351 else if x_ = m + 4 then jr352 else if x_ < m then x_ else 0) (by intro x_ hx_; show (if x_ = m + 3 then jr351 else if x_ = m + 4 then jr352 else if x_ < m then x_ else 0) = x_; ((repeat' split) <;> omega)), (fun b_ hb_ => by show (if (c53 b_) = m + 3 then jr351 else if (c53 b_) = m + 4 then jr352 else if (c53 b_) < m then (c53 b_) else 0) < m; ((repeat' split) <;> omega)), alc_mk (SH.nil), SL.nil, SL.nil⟩
  refine reg ?_
  refine q_val F rfl rfl (by decide) (r_move F rfl) fun a F => ?_
  refine q_val F rfl rfl (by decide) (r_lss F rfl rfl) fun a F => ?_
  refine q_val F rfl rfl (by decide) (r_move F rfl) fun a F => ?_
  by_cases hb38 : a6 < 0
  ·replace H := (if_pos hb38).symm.trans H
   refine q_no F rfl (by decide) rfl (decide_eq_true hb38) (by decide) fun a F => ?_
   refine q_no F rfl (by decide) rfl (decide_eq_true hb38) (by decide) fun a F => ?_
   refine q_val F rfl rfl (by decide) (r_pick_t F rfl (decide_eq_true hb38) rfl) fun a F => ?_
   refine q_val F rfl rfl (by decide) (r_move F rfl) fun a F => ?_
   refine q_no F rfl (by decide) rfl rfl (by decide) fun a F => ?_
   refine q_no F rfl (by decide) rfl rfl (by decide) fun a F => ?_
   refine q_val F rfl rfl (by decide) (r_pick_t F rfl rfl rfl) fun a F => ?_
   refine q_val F rfl rfl (by decide) (r_move F rfl) fun a F => ?_
   refine q_no F rfl (by decide) rfl rfl (by decide) fun a F => ?_
   refine q_no F rfl (by decide) rfl rfl (by decide) fun a F => ?_
   refine q_val F rfl rfl (by decide) (r_pick_t F rfl rfl rfl) fun a F => ?_
   refine q_val F rfl rfl (by decide) (r_assign F rfl) fun a F => ?_
   refine nil ?_
   exact J42 c23 w24 a true (F.sub ⟨rfl, rfl, rfl, rfl, rfl, rfl, trivial⟩) E B h20 h27 h3 h11 h14 H
  ·replace H := (if_neg hb38).symm.trans H
   refine q_yes F rfl (by decide) rfl (decide_eq_false hb38) ?_
   refine q_val F rfl rfl (by decide) (r_move F rfl) fun a F => ?_
   refine q_yes F rfl (by decide) rfl (decide_eq_false hb38) ?_
   refine q_val F rfl rfl (by decide) (r_geq F rfl rfl) fun a F => ?_
   refine q_val F rfl rfl (by decide) (r_pick_f F rfl (decide_eq_false hb38) rfl) fun a F => ?_
   refine q_val F rfl rfl (by decide) (r_move F rfl) fun a F => ?_
   by_cases hb39 : 16 ≤ a6
   ·replace H := (if_pos hb39).symm.trans H
    refine q_no F rfl (by decide) rfl (decide_eq_true hb39) (by decide) fun a F => ?_
    refine q_no F rfl (by decide) rfl (decide_eq_true hb39) (by decide) fun a F => ?_
    refine q_val F rfl rfl (by decide) (r_pick_t F rfl (decide_eq_true hb39) rfl) fun a F => ?_
    refine q_val F rfl rfl (by decide) (r_move F rfl) fun a F => ?_
    refine q_no F rfl (by decide) rfl rfl (by decide) fun a F => ?_
    refine q_no F rfl (by decide) rfl rfl (by decide) fun a F => ?_
    refine q_val F rfl rfl (by decide) (r_pick_t F rfl rfl rfl) fun a F => ?_
    refine q_val F rfl rfl (by decide) (r_assign F rfl) fun a F => ?_
    refine nil ?_
    exact J42 c23 w24 a true (F.sub ⟨rfl, rfl, rfl, rfl, rfl, rfl, trivial⟩) E B h20 h27 h3 h11 h14 H
   ·replace H := (if_neg hb39).symm.trans H
    refine q_yes F rfl (by decide) rfl (decide_eq_false hb39) ?_
    refine q_val F rfl rfl (by decide) (r_move F rfl) fun a F => ?_
    refine q_yes F rfl (by decide) rfl (decide_eq_false hb39) ?_
    refine q_val F rfl rfl (by decide) (r_lss F rfl rfl) fun a F => ?_
    refine q_val F rfl rfl (by decide) (r_pick_f F rfl (decide_eq_false hb39) rfl) fun a F => ?_
    refine q_val F rfl rfl (by decide) (r_move F rfl) fun a F => ?_
    by_cases hb40 : a7 < 1
    ·replace H := (if_pos hb40).symm.trans H
     refine q_no F rfl (by decide) rfl (decide_eq_true hb40) (by decide) fun a F => ?_
     refine q_no F rfl (by decide) rfl (decide_eq_true hb40) (by decide) fun a F => ?_
     refine q_val F rfl rfl (by decide) (r_pick_t F rfl (decide_eq_true hb40) rfl) fun a F => ?_
     refine q_val F rfl rfl (by decide) (r_assign F rfl) fun a F => ?_
     refine nil ?_
     exact J42 c23 w24 a true (F.sub ⟨rfl, rfl, rfl, rfl, rfl, rfl, trivial⟩) E B h20 h27 h3 h11 h14 H
    ·replace H := (if_neg hb40).symm.trans H
     refine q_yes F rfl (by decide) rfl (decide_eq_false hb40) ?_
     refine q_val F rfl rfl (by decide) (r_move F rfl) fun a F => ?_
     refine q_yes F rfl (by decide) rfl (decide_eq_false hb40) ?_
     refine q_val F rfl rfl (by decide) (r_gtr F rfl rfl) fun a F => ?_
     refine q_val F rfl rfl (by decide) (r_pick_f F rfl (decide_eq_false hb40) rfl) fun a F => ?_
     refine q_val F rfl rfl (by decide) (r_assign F rfl) fun a F => ?_
     refine nil ?_
     exact J42 c23 w24 a (decide (1073741824 < a7)) (F.sub ⟨rfl, rfl, rfl, rfl, rfl, rfl, trivial⟩) E B h20 h27 h3 h11 h14 H
end Go.Proofs.Ythankpjbfpcldaa.G
namespace Go.Proofs.Ythankpjbfpcldaa.G
open Go Go.RowKit
set_option linter.unusedVariables false
set_option linter.unusedSimpArgs false
set_option maxRecDepth 100000 in
set_option maxHeartbeats 4000000 in
theorem shard_Shard_Do.calls (k : Nat) {m : Nat} {c0 : Nat → Nat} {w0 : World} {j4 : Nat} {j5 : Nat} {p2 : Option Addr} {A9 : Option Addr} {C10 : Nat} {A12 : Option Addr} {C13 : Nat} {a1 : Option Sha} {a6 : Int} {a7 : Int} {a8 : api_Op} (hm0 : 0 < m) (B0 : CB m c0 w0) (h3 : SH j4 j5 c0 w0 p2 a1) (h11 : SL false (Kint .u8) 0 0 c0 w0 A9 C10 a8.Key) (h14 : SL false (Kint .u8) 0 0 c0 w0 A12 C13 a8.Value) (bj4 : 0 < j4 ∧ j4 < m) (bj5 : 0 < j5 ∧ j5 < m ∧ j5 ≠ j4) (r : api_Answer × Bool × Int × (Option Sha)) (H : shard_Shard_Do.f k a1 a6 a7 a8 = some r) : Calls Try.prog 10 #[.pointer p2, .int .i64 a6, .int .i64 a7, .agg #[.int .i64 a8.Kind, .slice A9 a8.Key.length C10, .slice A12 a8.Value.length C13, .int .i64 a8.Rev]] w0 (fun e w_ => ∃ (c_ : Nat → Nat) (A0_ : Option Addr) (C0_ : Nat) (A2_ : Option Addr) (C2_ : Nat), e = .returned (.tuple #[.agg #[.bool r.1.Done, .slice A0_ r.1.Key.length C0_, .slice A2_ r.1.Value.length C2_, .int .i64 r.1.Rev, .int .i64 r.1.At], .bool r.2.1, .int .i64 r.2.2.1]) ∧ Ev (fun x => (x = j4 ∨ x = j5)) c0 w0 c_ w_ ∧ CB m c_ w_ ∧ SL false (Kint .u8) 0 0 c_ w_ A0_ C0_ r.1.Key ∧ SL false (Kint .u8) 0 0 c_ w_ A2_ C2_ r.1.Value ∧ SH j4 j5 c_ w_ p2 r.2.2.2) := by
 unfold shard_Shard_Do.f at H
 have B := B0.mono (show m ≤ m + 6 by omega)
 have E : Ev (fun x => (x = j4 ∨ x = j5) ∨ m ≤ x) c0 w0 c0 w0 := Ev.refl
 refine enter (N := 35) (l := [.pointer p2, .int .i64 a6, .int .i64 a7, .agg #[.int .i64 a8.Kind, .slice A9 a8.Key.length C10, .slice A12 a8.Value.length C13, .int .i64 a8.Rev]]) Try.func10 rfl rfl (Nat.le_of_ble_eq_true rfl) fun a F => ?_
 refine wp_seq_k fun K15 hK15 => ?_
 refine reg ?_
 refine q_eff F rfl rfl (by decide) (e_box F (v := .agg #[.int .i64 a8.Kind, .slice A9 a8.Key.length C10, .slice A12 a8.Value.length C13, .int .i64 a8.Rev]) rfl c0 (m + 1)) ?_
 rintro v w17 a ⟨c16, qa18, rfl, E19, h20, B21⟩ F
 replace B := B21 _ B (Nat.add_lt_add_left (by decide) m)
 replace h3 := SH.ev h3 E19 (fun q => q.elim) (fun q => q.elim) (fun q => q.elim)
 replace h11 := SL.ev h11 E19 (fun q => q.elim) (fun q => q.elim)
 replace h14 := SL.ev h14 E19 (fun q => q.elim) (fun q => q.elim)
 replace E := E.trans E19 (fun x q => q.elim)
 replace h20 : AT true (m + 1) c16 w17 qa18 [.int .i64 a8.Kind, .slice A9 a8.Key.length C10, .slice A12 a8.Value.length C13, .int .i64 a8.Rev] := h20
 refine q_eff F rfl rfl (by decide) (e_alloc F zv_34 c16 (m + 2)) ?_
 rintro v w24 a ⟨c23, qa25, rfl, E26, h27, B28⟩ F
 replace B := B28 _ B (Nat.add_lt_add_left (by decide) m)
 replace h3 := SH.ev h3 E26 (fun q => q.elim) (fun q => q.elim) (fun q => q.elim)
 replace h11 := SL.ev h11 E26 (fun q => q.elim) (fun q => q.elim)
 replace h14 := SL.ev h14 E26 (fun q => q.elim) (fun q => q.elim)
 replace h20 := AT.ev h20 E26 (fun q => q.elim)
 replace E := E.trans E26 (fun x q => q.elim)
 replace h27 : AT true (m + 2) c23 w24 qa25 [.bool false, .slice none 0 0, .slice none 0 0, .int .i64 0, .int .i64 0] := h27
 refine q_val F rfl rfl (by decide) (r_assign F rfl) fun a F => ?_
 refine q_val F rfl rfl (by decide) (r_assign F rfl) fun a F => ?_
 refine nil ?_
 refine hK15 _ _ ?_
 refine wp_seq_k fun K30 hK30 => ?_
 refine reg ?_
 refine q_val F rfl rfl (by decide) (r_move F rfl) fun a F => ?_
 refine q_val F rfl rfl (by decide) (r_move F rfl) fun a F => ?_
 refine q_val F rfl rfl (by decide) (r_move F rfl) fun a F => ?_
 refine q_val F rfl rfl (by decide) (r_loads (cs := [.int .i64 a8.Kind, .slice A9 a8.Key.length C10, .slice A12 a8.Value.length C13, .int .i64 a8.Rev]) F rfl ag_30 sz_30 h20) fun a F => ?_
 replace H := bind_some H
 obtain ⟨t31, q32, H⟩ := H
 refine q_call F rfl rfl (by decide) (r_call F Try.func37 rfl (by kernel_rfl) rfl) (shard_Shard_next.calls k (m := m + 6) (Nat.add_pos_left hm0 _) B h3 h11 h14 (Nat.lt_add_right _ bj4.2) ⟨(Nat.lt_add_right _ bj5.2.1), bj5.2.2⟩ (m + 3) (Nat.add_lt_add_left (by decide) m) (m + 4) (Nat.add_lt_add_left (by decide) m) _ q32) ?_
 rintro e w34 ⟨c33, p37, A39, C40, A42, C43, rfl, E35, B36, h38, h41, h44⟩
 refine ⟨_, rfl, fun a F => ?_⟩
 have B := B36
 replace h3 := SH.ev h3 E35 (fun q => q.elim) (fun q => q.elim) (fun q => q.elim)
 replace h11 := SL.ev h11 E35 (fun q => q.elim) (fun q => q.elim)
 replace h14 := SL.ev h14 E35 (fun q => q.elim) (fun q => q.elim)
 replace h20 := AT.ev h20 E35 (fun q => q.elim)
 replace h27 := AT.ev h27 E35 (fun q => q.elim)
 replace E := E.trans E35 (fun x q => q.elim)
 rcases hq46 : t31.1 with _ | o47
 ·replace H := (alc_none hq46).symm.trans H
  replace h38 := Eq.mp (alc_none hq46) h38
  replace h38 : p2 = p37 := Eq.symm h38
  subst h38
  refine q_val F rfl rfl (by decide) (r_move F rfl) fun a F => ?_
  refine q_val F rfl rfl (by decide) (r_extract F rfl rfl) fun a F => ?_
  refine q_val F rfl rfl (by decide) (r_extract F rfl rfl) fun a F => ?_
  refine q_val F rfl rfl (by decide) (r_extract F rfl rfl) fun a F => ?_
  refine q_val F rfl rfl (by decide) (r_extract F rfl rfl) fun a F => ?_
  refine q_eff F rfl rfl (by decide) (e_alloc F zv_34 c33 (m + 5)) ?_
  rintro v w49 a ⟨c48, qa50, rfl, E51, h52, B53⟩ F
  replace B := B53 _ B (Nat.add_lt_add_left (by decide) m)
  replace h3 := SH.ev h3 E51 (fun q => q.elim) (fun q => q.elim) (fun q => q.elim)
  replace h11 := SL.ev h11 E51 (fun q => q.elim) (fun q => q.elim)
  replace h14 := SL.ev h14 E51 (fun q => q.elim) (fun q => q.elim)
  replace h20 := AT.ev h20 E51 (fun q => q.elim)
  replace h27 := AT.ev h27 E51 (fun q => q.elim)
  replace h41 := SL.ev h41 E51 (fun q => q.elim) (fun q => q.elim)
  replace h44 := SL.ev h44 E51 (fun q => q.elim) (fun q => q.elim)
  replace E := E.trans E51 (fun x q => q.elim)
  replace h52 : AT true (m + 5) c48 w49 qa50 [.bool false, .slice none 0 0, .slice none 0 0, .int .i64 0, .int .i64 0] := h52
  refine q_val F rfl rfl (by decide) (r_assign F rfl) fun a F => ?_
  refine q_eff0 F rfl rfl (e_storeN0 (us := [.bool t31.2.1.Done, .slice A39 t31.2.1.Key.length C40, .slice A42 t31.2.1.Value.length C43, .int .i64 t31.2.1.Rev, .int .i64 t31.2.1.At]) F rfl rfl sz_34 h52 (Nat.le_of_ble_eq_true rfl) (one_all rfl)) ?_
  rintro w55 a ⟨E56, h52, Z57⟩ F
  replace B := B.size Z57
  replace h3 := SH.ev h3 E56 (ne_pm bj4.2) (ne_pm bj5.2.1) ne_zm
  replace h11 := SL.ev h11 E56 ne_zm ne_zm
  replace h14 := SL.ev h14 E56 ne_zm ne_zm
  replace h20 := AT.ev h20 E56 (ne_mm (by decide))
  replace h27 := AT.ev h27 E56 (ne_mm (by decide))
  replace h41 := SL.ev h41 E56 ne_zm ne_zm
  replace h44 := SL.ev h44 E56 ne_zm ne_zm
  replace E := E.trans E56 (fun x (q : x = m + 5) => Or.inr (le_col q))
  replace h52 : AT true (m + 5) c48 w55 qa50 [.bool t31.2.1.Done, .slice A39 t31.2.1.Key.length C40, .slice A42 t31.2.1.Value.length C43, .int .i64 t31.2.1.Rev, .int .i64 t31.2.1.At] := h52
  refine q_val F rfl rfl (by decide) (r_assign F rfl) fun a F => ?_
  refine q_val F rfl rfl (by decide) (r_assign F rfl) fun a F => ?_
  refine nil ?_
  refine hK30 _ _ ?_
  replace F : Fr a 35 [(0, .pointer p2), (8, .pointer (some qa25)), (11, .pointer p2), (12, .pointer (some qa50)), (13, .bool t31.2.2.1), (14, .int .i64 t31.2.2.2)] := F.sub ⟨rfl, rfl, rfl, rfl, rfl, rfl, trivial⟩
  refine wp_seq_k fun K65 hK65 => ?_
  refine wp_seq_k fun K66 hK66 => ?_
  refine reg ?_
  refine q_val F rfl rfl (by decide) (r_move F rfl) fun a F => ?_
  refine q_val F rfl rfl (by decide) (r_eql F rfl rfl) fun a F => ?_
  refine nil ?_
  refine hK66 _ _ ?_
  by_cases hb67 : t31.2.2.2 = 0
  ·replace H := (if_pos hb67).symm.trans H
   refine wp_cond_true ((F.ev rfl).trans (congrArg Value.bool (decide_eq_true hb67))) ?_
   refine reg ?_
   refine q_val F rfl rfl (by decide) (r_move F rfl) fun a F => ?_
   refine q_val F rfl rfl (by decide) (r_move F rfl) fun a F => ?_
   replace H := bind_some H
   obtain ⟨ob68, e69, H⟩ := H
   have z70 := h3
   rw [e69] at z70
   obtain ⟨ad71, p73, cs75, rfl, hat72, h74, h76⟩ := SH.some z70
   refine q_val F rfl rfl (by decide) (r_nil F rfl) fun a F => ?_
   refine q_val F rfl rfl (by decide) (r_loadsS (cs := (([.pointer p73] : List Value) ++ (cs75 ++ (([] : List Value))))) F rfl ag_76 sz_76 (by have l0_ : cs75.length = 112 := (h76.1 : cs75.length = 112); simp only [List.length_append, List.length_cons, List.length_nil] <;> omega) hat72) fun a F => ?_
   refine q_val F rfl rfl (by decide) (r_nil F rfl) fun a F => ?_
   refine q_eff0 F rfl rfl (e_storeNS (us := (([.pointer p73] : List Value) ++ (cs75 ++ (([] : List Value))))) F rfl rfl sz_76 (by have l0_ : cs75.length = 112 := (h76.1 : cs75.length = 112); simp only [List.length_append, List.length_cons, List.length_nil] <;> omega) hat72 (by have l0_ : cs75.length = 112 := (h76.1 : cs75.length = 112); have m0_ : cs75.length = 112 := (h76.1 : cs75.length = 112); simp only [List.length_append, List.length_cons, List.length_nil] <;> omega) (all_app (one_all (us := ([.pointer p73] : List Value)) rfl) (all_app (AR.one h76) (one_all (us := ([] : List Value)) rfl)))) ?_
   rintro w78 a ⟨E79, hat72, Z80⟩ F
   replace B := B.size Z80
   replace h11 := SL.ev h11 E79 (ne_z bj4.1) (ne_z bj4.1)
   replace h14 := SL.ev h14 E79 (ne_z bj4.1) (ne_z bj4.1)
   replace h20 := AT.ev h20 E79 (ne_mp bj4.2)
   replace h27 := AT.ev h27 E79 (ne_mp bj4.2)
   replace h41 := SL.ev h41 E79 (ne_z bj4.1) (ne_z bj4.1)
   replace h44 := SL.ev h44 E79 (ne_z bj4.1) (ne_z bj4.1)
   replace h52 := AT.ev h52 E79 (ne_mp bj4.2)
   replace h74 := TB.ev h74 E79 bj5.2.2 (ne_z bj4.1)
   replace h76 := AR.ev h76 E79 (ne_z bj4.1)
   replace E := E.trans E79 (fun x (q : x = j4) => Or.inl (Or.inl q))
   replace hat72 : AT true j4 c48 w78 ad71 (([.pointer p73] : List Value) ++ (cs75 ++ (([] : List Value)))) := AT.eqv hat72 (lay_all (by have l0_ : cs75.length = 112 := (h76.1 : cs75.length = 112); have m0_ : cs75.length = 112 := (h76.1 : cs75.length = 112); simp only [List.length_append, List.length_cons, List.length_nil] <;> omega))
   refine nil ?_
   refine hK65 _ _ ?_
   replace F : Fr a 35 [(8, .pointer (some qa25)), (12, .pointer (some qa50)), (13, .bool t31.2.2.1), (14, .int .i64 t31.2.2.2)] := F.sub ⟨rfl, rfl, rfl, rfl, trivial⟩
   refine wp_seq_k fun K81 hK81 => ?_
   refine reg ?_
   refine q_val F rfl rfl (by decide) (r_loads (cs := [.bool t31.2.1.Done, .slice A39 t31.2.1.Key.length C40, .slice A42 t31.2.1.Value.length C43, .int .i64 t31.2.1.Rev, .int .i64 t31.2.1.At]) F rfl ag_34 sz_34 h52) fun a F => ?_
   refine q_val F rfl rfl (by decide) (r_move F rfl) fun a F => ?_
   refine q_val F rfl rfl (by decide) (r_move F rfl) fun a F => ?_
   refine q_eff0 F rfl rfl (e_storeN0 (us := [.bool t31.2.1.Done, .slice A39 t31.2.1.Key.length C40, .slice A42 t31.2.1.Value.length C43, .int .i64 t31.2.1.Rev, .int .i64 t31.2.1.At]) F rfl rfl sz_34 h27 (Nat.le_of_ble_eq_true rfl) (one_all rfl)) ?_
   rintro w82 a ⟨E83, h27, Z84⟩ F
   replace B := B.size Z84
   replace h11 := SL.ev h11 E83 ne_zm ne_zm
   replace h14 := SL.ev h14 E83 ne_zm ne_zm
   replace h20 := AT.ev h20 E83 (ne_mm (by decide))
   replace h41 := SL.ev h41 E83 ne_zm ne_zm
   replace h44 := SL.ev h44 E83 ne_zm ne_zm
   replace h52 := AT.ev h52 E83 (ne_mm (by decide))
   replace h74 := TB.ev h74 E83 (ne_pm bj5.2.1) ne_zm
   replace h76 := AR.ev h76 E83 ne_zm
   replace hat72 := AT.ev hat72 E83 (ne_pm bj4.2)
   replace E := E.trans E83 (fun x (q : x = m + 2) => Or.inr (le_col q))
   replace h27 : AT true (m + 2) c48 w82 qa25 [.bool t31.2.1.Done, .slice A39 t31.2.1.Key.length C40, .slice A42 t31.2.1.Value.length C43, .int .i64 t31.2.1.Rev, .int .i64 t31.2.1.At] := h27
   refine q_val F rfl rfl (by decide) (r_assign F rfl) fun a F => ?_
   refine q_val F rfl rfl (by decide) (r_assign F rfl) fun a F => ?_
   refine nil ?_
   refine hK81 _ _ ?_
   refine wp_ret ?_
   have h85 : SH j4 j5 c48 w82 (some ad71) (some (Sha.mk ob68.Table ob68.seats)) := SH.mk hat72 h74 h76
   replace H := Option.some.inj H
   subst H
   refine outR3 F rfl ⟨_, rfl, lv_agg (cs := [.bool t31.2.1.Done, .slice A39 t31.2.1.Key.length C40, .slice A42 t31.2.1.Value.length C43, .int .i64 t31.2.1.Rev, .int .i64 t31.2.1.At]) ag_34 sz_34 h27⟩ rfl rfl ?_
   exact ⟨fun b_ => (fun x_ => if x_ = m + 4 then j5 else if x_ < m then x_ else 0) (c48 b_), A39, C40, A42, C43, rfl, E.leave B0 (fun x_ => if x_ = m + 4 then j5 else if x_ < m then x_ else 0) (by intro x_ hx_; show (if x_ = m + 4 then j5 else if x_ < m then x_ else 0) = x_; ((repeat' split) <;> omega)), (fun b_ hb_ => by show (if (c48 b_) = m + 4 then j5 else if (c48 b_) < m then (c48 b_) else 0) < m; ((repeat' split) <;> omega)), SL.rc h41 (fun k_ hk_ => by show (if (c48 k_) = m + 4 then j5 else if (c48 k_) < m then (c48 k_) else 0) = _; rw [hk_]; ((repeat' split) <;> omega)) (fun k_ hk_ => by show (if (c48 k_) = m + 4 then j5 else if (c48 k_) < m then (c48 k_) else 0) = _; rw [hk_]; ((repeat' split) <;> omega)), SL.rc h44 (fun k_ hk_ => by show (if (c48 k_) = m + 4 then j5 else if (c48 k_) < m then (c48 k_) else 0) = _; rw [hk_]; ((repeat' split) <;> omega)) (fun k_ hk_ => by show (if (c48 k_) = m + 4 then j5 else if (c48 k_) < m then (c48 k_) else 0) = _; rw [hk_]; ((repeat' split) <;> omega)), SH.rc h85 (fun k_ hk_ => by show (if (c48 k_) = m + 4 then j5 else if (c48 k_) < m then (c48 k_) else 0) = _; rw [hk_]; ((repeat' split) <;> omega)) (fun k_ hk_ => by show (if (c48 k_) = m + 4 then j5 else if (c48 k_) < m then (c48 k_) else 0) = _; rw [hk_]; ((repeat' split) <;> omega)) (fun k_ hk_ => by show (if (c48 k_) = m + 4 then j5 else if (c48 k_) < m then (c48 k_) else 0) = _; rw [hk_]; ((repeat' split) <;> omega))⟩
  ·replace H := (if_neg hb67).symm.trans H
   refine wp_cond_false ((F.ev rfl).trans (congrArg Value.bool (decide_eq_false hb67))) ?_
   refine wp_skip ?_
   refine hK65 _ _ ?_
   refine wp_seq_k fun K86 hK86 => ?_
   refine reg ?_
   refine q_val F rfl rfl (by decide) (r_loads (cs := [.bool t31.2.1.Done, .slice A39 t31.2.1.Key.length C40, .slice A42 t31.2.1.Value.length C43, .int .i64 t31.2.1.Rev, .int .i64 t31.2.1.At]) F rfl ag_34 sz_34 h52) fun a F => ?_
   refine q_val F rfl rfl (by decide) (r_move F rfl) fun a F => ?_
   refine q_val F rfl rfl (by decide) (r_move F rfl) fun a F => ?_
   refine q_eff0 F rfl rfl (e_storeN0 (us := [.bool t31.2.1.Done, .slice A39 t31.2.1.Key.length C40, .slice A42 t31.2.1.Value.length C43, .int .i64 t31.2.1.Rev, .int .i64 t31.2.1.At]) F rfl rfl sz_34 h27 (Nat.le_of_ble_eq_true rfl) (one_all rfl)) ?_
   rintro w87 a ⟨E88, h27, Z89⟩ F
   replace B := B.size Z89
   replace h3 := SH.ev h3 E88 (ne_pm bj4.2) (ne_pm bj5.2.1) ne_zm
   replace h11 := SL.ev h11 E88 ne_zm ne_zm
   replace h14 := SL.ev h14 E88 ne_zm ne_zm
   replace h20 := AT.ev h20 E88 (ne_mm (by decide))
   replace h41 := SL.ev h41 E88 ne_zm ne_zm
   replace h44 := SL.ev h44 E88 ne_zm ne_zm
   replace h52 := AT.ev h52 E88 (ne_mm (by decide))
   replace E := E.trans E88 (fun x (q : x = m + 2) => Or.inr (le_col q))
   replace h27 : AT true (m + 2) c48 w87 qa25 [.bool t31.2.1.Done, .slice A39 t31.2.1.Key.length C40, .slice A42 t31.2.1.Value.length C43, .int .i64 t31.2.1.Rev, .int .i64 t31.2.1.At] := h27
   refine q_val F rfl rfl (by decide) (r_assign F rfl) fun a F => ?_
   refine q_val F rfl rfl (by decide) (r_assign F rfl) fun a F => ?_
   refine nil ?_
   refine hK86 _ _ ?_
   replace F : Fr a 35 [(8, .pointer (some qa25)), (9, .bool t31.2.2.1), (10, .int .i64 t31.2.2.2)] := F.sub ⟨rfl, rfl, rfl, trivial⟩
   refine wp_ret ?_
   replace H := Option.some.inj H
   subst H
   refine outR3 F rfl ⟨_, rfl, lv_agg (cs := [.bool t31.2.1.Done, .slice A39 t31.2.1.Key.length C40, .slice A42 t31.2.1.Value.length C43, .int .i64 t31.2.1.Rev, .int .i64 t31.2.1.At]) ag_34 sz_34 h27⟩ rfl rfl ?_
   exact ⟨fun b_ => (fun x_ => if x_ = m + 4 then j5 else if x_ < m then x_ else 0) (c48 b_), A39, C40, A42, C43, rfl, E.leave B0 (fun x_ => if x_ = m + 4 then j5 else if x_ < m then x_ else 0) (by intro x_ hx_; show (if x_ = m + 4 then j5 else if x_ < m then x_ else 0) = x_; ((repeat' split) <;> omega)), (fun b_ hb_ => by show (if (c48 b_) = m + 4 then j5 else if (c48 b_) < m then (c48 b_) else 0) < m; ((repeat' split) <;> omega)), SL.rc h41 (fun k_ hk_ => by show (if (c48 k_) = m + 4 then j5 else if (c48 k_) < m then (c48 k_) else 0) = _; rw [hk_]; ((repeat' split) <;> omega)) (fun k_ hk_ => by show (if (c48 k_) = m + 4 then j5 else if (c48 k_) < m then (c48 k_) else 0) = _; rw [hk_]; ((repeat' split) <;> omega)), SL.rc h44 (fun k_ hk_ => by show (if (c48 k_) = m + 4 then j5 else if (c48 k_) < m then (c48 k_) else 0) = _; rw [hk_]; ((repeat' split) <;> omega)) (fun k_ hk_ => by show (if (c48 k_) = m + 4 then j5 else if (c48 k_) < m then (c48 k_) else 0) = _; rw [hk_]; ((repeat' split) <;> omega)), SH.rc h3 (fun k_ hk_ => by show (if (c48 k_) = m + 4 then j5 else if (c48 k_) < m then (c48 k_) else 0) = _; rw [hk_]; ((repeat' split) <;> omega)) (fun k_ hk_ => by show (if (c48 k_) = m + 4 then j5 else if (c48 k_) < m then (c48 k_) else 0) = _; rw [hk_]; ((repeat' split) <;> omega)) (fun k_ hk_ => by show (if (c48 k_) = m + 4 then j5 else if (c48 k_) < m then (c48 k_) else 0) = _; rw [hk_]; ((repeat' split) <;> omega))⟩
 ·replace H := (alc_some hq46).symm.trans H
  replace h38 := Eq.mp (alc_some hq46) h38
  refine q_val F rfl rfl (by decide) (r_move F rfl) fun a F => ?_
  refine q_val F rfl rfl (by decide) (r_extract F rfl rfl) fun a F => ?_
  refine q_val F rfl rfl (by decide) (r_extract F rfl rfl) fun a F => ?_
  refine q_val F rfl rfl (by decide) (r_extract F rfl rfl) fun a F => ?_
  refine q_val F rfl rfl (by decide) (r_extract F rfl rfl) fun a F => ?_
  refine q_eff F rfl rfl (by decide) (e_alloc F zv_34 c33 (m + 5)) ?_
  rintro v w59 a ⟨c58, qa50, rfl, E60, h52, B61⟩ F
  replace B := B61 _ B (Nat.add_lt_add_left (by decide) m)
  replace h3 := SH.ev h3 E60 (fun q => q.elim) (fun q => q.elim) (fun q => q.elim)
  replace h11 := SL.ev h11 E60 (fun q => q.elim) (fun q => q.elim)
  replace h14 := SL.ev h14 E60 (fun q => q.elim) (fun q => q.elim)
  replace h20 := AT.ev h20 E60 (fun q => q.elim)
  replace h27 := AT.ev h27 E60 (fun q => q.elim)
  replace h41 := SL.ev h41 E60 (fun q => q.elim) (fun q => q.elim)
  replace h44 := SL.ev h44 E60 (fun q => q.elim) (fun q => q.elim)
  replace h38 := SH.ev h38 E60 (fun q => q.elim) (fun q => q.elim) (fun q => q.elim)
  replace E := E.trans E60 (fun x q => q.elim)
  replace h52 : AT true (m + 5) c58 w59 qa50 [.bool false, .slice none 0 0, .slice none 0 0, .int .i64 0, .int .i64 0] := h52
  refine q_val F rfl rfl (by decide) (r_assign F rfl) fun a F => ?_
  refine q_eff0 F rfl rfl (e_storeN0 (us := [.bool t31.2.1.Done, .slice A39 t31.2.1.Key.length C40, .slice A42 t31.2.1.Value.length C43, .int .i64 t31.2.1.Rev, .int .i64 t31.2.1.At]) F rfl rfl sz_34 h52 (Nat.le_of_ble_eq_true rfl) (one_all rfl)) ?_
  rintro w62 a ⟨E63, h52, Z64⟩ F
  replace B := B.size Z64
  replace h3 := SH.ev h3 E63 (ne_pm bj4.2) (ne_pm bj5.2.1) ne_zm
  replace h11 := SL.ev h11 E63 ne_zm ne_zm
  replace h14 := SL.ev h14 E63 ne_zm ne_zm
  replace h20 := AT.ev h20 E63 (ne_mm (by decide))
  replace h27 := AT.ev h27 E63 (ne_mm (by decide))
  replace h41 := SL.ev h41 E63 ne_zm ne_zm
  replace h44 := SL.ev h44 E63 ne_zm ne_zm
  replace h38 := SH.ev h38 E63 (ne_mm (by decide)) (ne_mm (by decide)) ne_zm
  replace E := E.trans E63 (fun x (q : x = m + 5) => Or.inr (le_col q))
  replace h52 : AT true (m + 5) c58 w62 qa50 [.bool t31.2.1.Done, .slice A39 t31.2.1.Key.length C40, .slice A42 t31.2.1.Value.length C43, .int .i64 t31.2.1.Rev, .int .i64 t31.2.1.At] := h52
  refine q_val F rfl rfl (by decide) (r_assign F rfl) fun a F => ?_
  refine q_val F rfl rfl (by decide) (r_assign F rfl) fun a F => ?_
  refine nil ?_
  refine hK30 _ _ ?_
  replace F : Fr a 35 [(0, .pointer p2), (8, .pointer (some qa25)), (11, .pointer p37), (12, .pointer (some qa50)), (13, .bool t31.2.2.1), (14, .int .i64 t31.2.2.2)] := F.sub ⟨rfl, rfl, rfl, rfl, rfl, rfl, trivial⟩
  refine wp_seq_k fun K90 hK90 => ?_
  refine wp_seq_k fun K91 hK91 => ?_
  refine reg ?_
  refine q_val F rfl rfl (by decide) (r_move F rfl) fun a F => ?_
  refine q_val F rfl rfl (by decide) (r_eql F rfl rfl) fun a F => ?_
  refine nil ?_
  refine hK91 _ _ ?_
  by_cases hb92 : t31.2.2.2 = 0
  ·replace H := (if_pos hb92).symm.trans H
   refine wp_cond_true ((F.ev rfl).trans (congrArg Value.bool (decide_eq_true hb92))) ?_
   refine reg ?_
   refine q_val F rfl rfl (by decide) (r_move F rfl) fun a F => ?_
   refine q_val F rfl rfl (by decide) (r_move F rfl) fun a F => ?_
   replace H := bind_some H
   obtain ⟨ob93, e94, H⟩ := H
   have z95 := h38
   rw [e94] at z95
   obtain ⟨ad96, p98, cs100, rfl, hat97, h99, h101⟩ := SH.some z95
   refine q_val F rfl rfl (by decide) (r_nil F rfl) fun a F => ?_
   refine q_val F rfl rfl (by decide) (r_loadsS (cs := (([.pointer p98] : List Value) ++ (cs100 ++ (([] : List Value))))) F rfl ag_76 sz_76 (by have l0_ : cs100.length = 112 := (h101.1 : cs100.length = 112); simp only [List.length_append, List.length_cons, List.length_nil] <;> omega) hat97) fun a F => ?_
   replace H := bind_some H
   obtain ⟨ob103, e104, H⟩ := H
   have z105 := h3
   rw [e104] at z105
   obtain ⟨ad106, p108, cs110, rfl, hat107, h109, h111⟩ := SH.some z105
   refine q_val F rfl rfl (by decide) (r_nil F rfl) fun a F => ?_
   refine q_eff0 F rfl rfl (e_storeNS (us := (([.pointer p98] : List Value) ++ (cs100 ++ (([] : List Value))))) F rfl rfl sz_76 (by have l0_ : cs100.length = 112 := (h101.1 : cs100.length = 112); simp only [List.length_append, List.length_cons, List.length_nil] <;> omega) hat107 (by have l0_ : cs110.length = 112 := (h111.1 : cs110.length = 112); have m0_ : cs100.length = 112 := (h101.1 : cs100.length = 112); simp only [List.length_append, List.length_cons, List.length_nil] <;> omega) (all_app (one_all (us := ([.pointer p98] : List Value)) rfl) (all_app (AR.one h101) (one_all (us := ([] : List Value)) rfl)))) ?_
   rintro w113 a ⟨E114, hat107, Z115⟩ F
   replace B := B.size Z115
   replace h11 := SL.ev h11 E114 (ne_z bj4.1) (ne_z bj4.1)
   replace h14 := SL.ev h14 E114 (ne_z bj4.1) (ne_z bj4.1)
   replace h20 := AT.ev h20 E114 (ne_mp bj4.2)
   replace h27 := AT.ev h27 E114 (ne_mp bj4.2)
   replace h41 := SL.ev h41 E114 (ne_z bj4.1) (ne_z bj4.1)
   replace h44 := SL.ev h44 E114 (ne_z bj4.1) (ne_z bj4.1)
   replace h38 := SH.ev h38 E114 (ne_mp bj4.2) (ne_mp bj4.2) (ne_z bj4.1)
   replace h52 := AT.ev h52 E114 (ne_mp bj4.2)
   replace h99 := TB.ev h99 E114 (ne_mp bj4.2) (ne_z bj4.1)
   replace h101 := AR.ev h101 E114 (ne_z bj4.1)
   replace hat97 := AT.ev hat97 E114 (ne_mp bj4.2)
   replace h109 := TB.ev h109 E114 bj5.2.2 (ne_z bj4.1)
   replace h111 := AR.ev h111 E114 (ne_z bj4.1)
   replace E := E.trans E114 (fun x (q : x = j4) => Or.inl (Or.inl q))
   replace hat107 : AT true j4 c58 w113 ad106 (([.pointer p98] : List Value) ++ (cs100 ++ (([] : List Value)))) := AT.eqv hat107 (lay_all (by have l0_ : cs110.length = 112 := (h111.1 : cs110.length = 112); have m0_ : cs100.length = 112 := (h101.1 : cs100.length = 112); simp only [List.length_append, List.length_cons, List.length_nil] <;> omega))
   refine nil ?_
   refine hK90 _ _ ?_
   replace F : Fr a 35 [(8, .pointer (some qa25)), (12, .pointer (some qa50)), (13, .bool t31.2.2.1), (14, .int .i64 t31.2.2.2)] := F.sub ⟨rfl, rfl, rfl, rfl, trivial⟩
   refine wp_seq_k fun K116 hK116 => ?_
   refine reg ?_
   refine q_val F rfl rfl (by decide) (r_loads (cs := [.bool t31.2.1.Done, .slice A39 t31.2.1.Key.length C40, .slice A42 t31.2.1.Value.length C43, .int .i64 t31.2.1.Rev, .int .i64 t31.2.1.At]) F rfl ag_34 sz_34 h52) fun a F => ?_
   refine q_val F rfl rfl (by decide) (r_move F rfl) fun a F => ?_
   refine q_val F rfl rfl (by decide) (r_move F rfl) fun a F => ?_
   refine q_eff0 F rfl rfl (e_storeN0 (us := [.bool t31.2.1.Done, .slice A39 t31.2.1.Key.length C40, .slice A42 t31.2.1.Value.length C43, .int .i64 t31.2.1.Rev, .int .i64 t31.2.1.At]) F rfl rfl sz_34 h27 (Nat.le_of_ble_eq_true rfl) (one_all rfl)) ?_
   rintro w117 a ⟨E118, h27, Z119⟩ F
   replace B := B.size Z119
   replace h11 := SL.ev h11 E118 ne_zm ne_zm
   replace h14 := SL.ev h14 E118 ne_zm ne_zm
   replace h20 := AT.ev h20 E118 (ne_mm (by decide))
   replace h41 := SL.ev h41 E118 ne_zm ne_zm
   replace h44 := SL.ev h44 E118 ne_zm ne_zm
   replace h38 := SH.ev h38 E118 (ne_mm (by decide)) (ne_mm (by decide)) ne_zm
   replace h52 := AT.ev h52 E118 (ne_mm (by decide))
   replace h99 := TB.ev h99 E118 (ne_mm (by decide)) ne_zm
   replace h101 := AR.ev h101 E118 ne_zm
   replace hat97 := AT.ev hat97 E118 (ne_mm (by decide))
   replace h109 := TB.ev h109 E118 (ne_pm bj5.2.1) ne_zm
   replace h111 := AR.ev h111 E118 ne_zm
   replace hat107 := AT.ev hat107 E118 (ne_pm bj4.2)
   replace E := E.trans E118 (fun x (q : x = m + 2) => Or.inr (le_col q))
   replace h27 : AT true (m + 2) c58 w117 qa25 [.bool t31.2.1.Done, .slice A39 t31.2.1.Key.length C40, .slice A42 t31.2.1.Value.length C43, .int .i64 t31.2.1.Rev, .int .i64 t31.2.1.At] := h27
   refine q_val F rfl rfl (by decide) (r_assign F rfl) fun a F => ?_
   refine q_val F rfl rfl (by decide) (r_assign F rfl) fun a F => ?_
   refine nil ?_
   refine hK116 _ _ ?_
   refine wp_ret ?_
   have h120 : SH j4 (m + 4) c58 w117 (some ad106) (some (Sha.mk ob93.Table ob93.seats)) := SH.mk hat107 h99 h101
   replace H := Option.some.inj H
   subst H
   refine outR3 F rfl ⟨_, rfl, lv_agg (cs := [.bool t31.2.1.Done, .slice A39 t31.2.1.Key.length C40, .slice A42 t31.2.1.Value.length C43, .int .i64 t31.2.1.Rev, .int .i64 t31.2.1.At]) ag_34 sz_34 h27⟩ rfl rfl ?_
   exact ⟨fun b_ => (fun x_ => if x_ = m + 4 then j5 else if x_ < m then x_ else 0) (c58 b_), A39, C40, A42, C43, rfl, E.leave B0 (fun x_ => if x_ = m + 4 then j5 else if x_ < m then x_ else 0) (by intro x_ hx_; show (if x_ = m + 4 then j5 else if x_ < m then x_ else 0) = x_; ((repeat' split) <;> omega)), (fun b_ hb_ => by show (if (c58 b_) = m + 4 then j5 else if (c58 b_) < m then (c58 b_) else 0) < m; ((repeat' split) <;> omega)), SL.rc h41 (fun k_ hk_ => by show (if (c58 k_) = m + 4 then j5 else if (c58 k_) < m then (c58 k_) else 0) = _; rw [hk_]; ((repeat' split) <;> omega)) (fun k_ hk_ => by show (if (c58 k_) = m + 4 then j5 else if (c58 k_) < m then (c58 k_) else 0) = _; rw [hk_]; ((repeat' split) <;> omega)), SL.rc h44 (fun k_ hk_ => by show (if (c58 k_) = m + 4 then j5 else if (c58 k_) < m then (c58 k_) else 0) = _; rw [hk_]; ((repeat' split) <;> omega)) (fun k_ hk_ => by show (if (c58 k_) = m + 4 then j5 else if (c58 k_) < m then (c58 k_) else 0) = _; rw [hk_]; ((repeat' split) <;> omega)), SH.rc h120 (fun k_ hk_ => by show (if (c58 k_) = m + 4 then j5 else if (c58 k_) < m then (c58 k_) else 0) = _; rw [hk_]; ((repeat' split) <;> omega)) (fun k_ hk_ => by show (if (c58 k_) = m + 4 then j5 else if (c58 k_) < m then (c58 k_) else 0) = _; rw [hk_]; ((repeat' split) <;> omega)) (fun k_ hk_ => by show (if (c58 k_) = m + 4 then j5 else if (c58 k_) < m then (c58 k_) else 0) = _; rw [hk_]; ((repeat' split) <;> omega))⟩
  ·replace H := (if_neg hb92).symm.trans H
   refine wp_cond_false ((F.ev rfl).trans (congrArg Value.bool (decide_eq_false hb92))) ?_
   refine wp_skip ?_
   refine hK90 _ _ ?_
   refine wp_seq_k fun K121 hK121 => ?_
   refine reg ?_
   refine q_val F rfl rfl (by decide) (r_loads (cs := [.bool t31.2.1.Done, .slice A39 t31.2.1.Key.length C40, .slice A42 t31.2.1.Value.length C43, .int .i64 t31.2.1.Rev, .int .i64 t31.2.1.At]) F rfl ag_34 sz_34 h52) fun a F => ?_
   refine q_val F rfl rfl (by decide) (r_move F rfl) fun a F => ?_
   refine q_val F rfl rfl (by decide) (r_move F rfl) fun a F => ?_
   refine q_eff0 F rfl rfl (e_storeN0 (us := [.bool t31.2.1.Done, .slice A39 t31.2.1.Key.length C40, .slice A42 t31.2.1.Value.length C43, .int .i64 t31.2.1.Rev, .int .i64 t31.2.1.At]) F rfl rfl sz_34 h27 (Nat.le_of_ble_eq_true rfl) (one_all rfl)) ?_
   rintro w122 a ⟨E123, h27, Z124⟩ F
   replace B := B.size Z124
   replace h3 := SH.ev h3 E123 (ne_pm bj4.2) (ne_pm bj5.2.1) ne_zm
   replace h11 := SL.ev h11 E123 ne_zm ne_zm
   replace h14 := SL.ev h14 E123 ne_zm ne_zm
   replace h20 := AT.ev h20 E123 (ne_mm (by decide))
   replace h41 := SL.ev h41 E123 ne_zm ne_zm
   replace h44 := SL.ev h44 E123 ne_zm ne_zm
   replace h38 := SH.ev h38 E123 (ne_mm (by decide)) (ne_mm (by decide)) ne_zm
   replace h52 := AT.ev h52 E123 (ne_mm (by decide))
   replace E := E.trans E123 (fun x (q : x = m + 2) => Or.inr (le_col q))
   replace h27 : AT true (m + 2) c58 w122 qa25 [.bool t31.2.1.Done, .slice A39 t31.2.1.Key.length C40, .slice A42 t31.2.1.Value.length C43, .int .i64 t31.2.1.Rev, .int .i64 t31.2.1.At] := h27
   refine q_val F rfl rfl (by decide) (r_assign F rfl) fun a F => ?_
   refine q_val F rfl rfl (by decide) (r_assign F rfl) fun a F => ?_
   refine nil ?_
   refine hK121 _ _ ?_
   replace F : Fr a 35 [(8, .pointer (some qa25)), (9, .bool t31.2.2.1), (10, .int .i64 t31.2.2.2)] := F.sub ⟨rfl, rfl, rfl, trivial⟩
   refine wp_ret ?_
   replace H := Option.some.inj H
   subst H
   refine outR3 F rfl ⟨_, rfl, lv_agg (cs := [.bool t31.2.1.Done, .slice A39 t31.2.1.Key.length C40, .slice A42 t31.2.1.Value.length C43, .int .i64 t31.2.1.Rev, .int .i64 t31.2.1.At]) ag_34 sz_34 h27⟩ rfl rfl ?_
   exact ⟨fun b_ => (fun x_ => if x_ = m + 4 then j5 else if x_ < m then x_ else 0) (c58 b_), A39, C40, A42, C43, rfl, E.leave B0 (fun x_ => if x_ = m + 4 then j5 else if x_ < m then x_ else 0) (by intro x_ hx_; show (if x_ = m + 4 then j5 else if x_ < m then x_ else 0) = x_; ((repeat' split) <;> omega)), (fun b_ hb_ => by show (if (c58 b_) = m + 4 then j5 else if (c58 b_) < m then (c58 b_) else 0) < m; ((repeat' split) <;> omega)), SL.rc h41 (fun k_ hk_ => by show (if (c58 k_) = m + 4 then j5 else if (c58 k_) < m then (c58 k_) else 0) = _; rw [hk_]; ((repeat' split) <;> omega)) (fun k_ hk_ => by show (if (c58 k_) = m + 4 then j5 else if (c58 k_) < m then (c58 k_) else 0) = _; rw [hk_]; ((repeat' split) <;> omega)), SL.rc h44 (fun k_ hk_ => by show (if (c58 k_) = m + 4 then j5 else if (c58 k_) < m then (c58 k_) else 0) = _; rw [hk_]; ((repeat' split) <;> omega)) (fun k_ hk_ => by show (if (c58 k_) = m + 4 then j5 else if (c58 k_) < m then (c58 k_) else 0) = _; rw [hk_]; ((repeat' split) <;> omega)), SH.rc h3 (fun k_ hk_ => by show (if (c58 k_) = m + 4 then j5 else if (c58 k_) < m then (c58 k_) else 0) = _; rw [hk_]; ((repeat' split) <;> omega)) (fun k_ hk_ => by show (if (c58 k_) = m + 4 then j5 else if (c58 k_) < m then (c58 k_) else 0) = _; rw [hk_]; ((repeat' split) <;> omega)) (fun k_ hk_ => by show (if (c58 k_) = m + 4 then j5 else if (c58 k_) < m then (c58 k_) else 0) = _; rw [hk_]; ((repeat' split) <;> omega))⟩
end Go.Proofs.Ythankpjbfpcldaa.G
namespace Go.Proofs.Ythankpjbfpcldaa.G
open Go Go.RowKit
set_option linter.unusedVariables false
set_option linter.unusedSimpArgs false
set_option maxRecDepth 100000 in
set_option maxHeartbeats 4000000 in
theorem tree_Tree_All.calls {m : Nat} {c0 : Nat → Nat} {w0 : World} {p2 : Option Addr} {a1 : Tr} (hm0 : 0 < m) (B0 : CB m c0 w0) (h3 : TR 0 c0 w0 p2 a1) (jr14 : Nat) (bjr14 : jr14 < m) (r : It) (H : tree_Tree_All.f a1 = some r) : Calls Try.prog 44 #[.pointer p2] w0 (fun e w_ => ∃ (c_ : Nat → Nat) (V0_ : Value), e = .returned (V0_) ∧ Ev (fun x => False) c0 w0 c_ w_ ∧ CB m c_ w_ ∧ ITR jr14 c_ w_ V0_ r) := by
 unfold tree_Tree_All.f at H
 have B := B0.mono (show m ≤ m + 2 by omega)
 have E : Ev (fun x => False ∨ m ≤ x) c0 w0 c0 w0 := Ev.refl
 refine enter (N := 4) (l := [.pointer p2]) Try.func44 rfl rfl (Nat.le_of_ble_eq_true rfl) fun a F => ?_
 refine wp_seq_k fun K4 hK4 => ?_
 refine reg ?_
 refine q_eff F rfl rfl (by decide) (e_box F (v := .pointer p2) rfl c0 (m + 1)) ?_
 rintro v w6 a ⟨c5, qa7, rfl, E8, h9, B10⟩ F
 replace B := B10 _ B (Nat.add_lt_add_left (by decide) m)
 replace h3 := TR.ev h3 E8 (fun q => q.elim) (fun q => q.elim)
 replace E := E.trans E8 (fun x q => q.elim)
 replace h9 : AT true (m + 1) c5 w6 qa7 [.pointer p2] := h9
 refine q_val F rfl rfl (by decide) (r_assign F rfl) fun a F => ?_
 refine nil ?_
 refine hK4 _ _ ?_
 refine wp_seq_k fun K12 hK12 => ?_
 refine reg ?_
 refine q_val F rfl rfl (by decide) (r_makeFunc (vs := [.pointer (some qa7)]) F rfl) fun a F => ?_
 refine q_val F rfl rfl (by decide) (r_assign F rfl) fun a F => ?_
 refine nil ?_
 refine hK12 _ _ ?_
 refine wp_ret ?_
 have h13 : ITR (m + 1) c5 w6 (.func (.func 66) #[] #[.pointer (some qa7)]) (.all a1) := ⟨qa7, p2, rfl, h9, h3⟩
 replace H := Option.some.inj H
 subst H
 refine out1 F rfl rfl ?_
 exact ⟨fun b_ => (fun x_ => if x_ = m + 1 then jr14 else if x_ < m then x_ else 0) (c5 b_), (.func (.func 66) #[] #[.pointer (some qa7)]), rfl, E.leave B0 (fun x_ => if x_ = m + 1 then jr14 else if x_ < m then x_ else 0) (by intro x_ hx_; show (if x_ = m + 1 then jr14 else if x_ < m then x_ else 0) = x_; ((repeat' split) <;> omega)), (fun b_ hb_ => by show (if (c5 b_) = m + 1 then jr14 else if (c5 b_) < m then (c5 b_) else 0) < m; ((repeat' split) <;> omega)), ITR.rc h13 (fun k_ hk_ => by show (if (c5 k_) = m + 1 then jr14 else if (c5 k_) < m then (c5 k_) else 0) = _; rw [hk_]; ((repeat' split) <;> omega)) (fun k_ hk_ => by show (if (c5 k_) = m + 1 then jr14 else if (c5 k_) < m then (c5 k_) else 0) = _; rw [hk_]; ((repeat' split) <;> omega))⟩
end Go.Proofs.Ythankpjbfpcldaa.G
namespace Go.Proofs.Ythankpjbfpcldaa.G
open Go Go.RowKit
set_option linter.unusedVariables false
set_option linter.unusedSimpArgs false
set_option maxRecDepth 100000 in
set_option maxHeartbeats 4000000 in
theorem table_Table_Bytes.calls (k : Nat) {m : Nat} {c0 : Nat → Nat} {w0 : World} {j4 : Nat} {p2 : Option Addr} {a1 : Option Tab} (hm0 : 0 < m) (B0 : CB m c0 w0) (h3 : TB j4 c0 w0 p2 a1) (bj4 : j4 < m) (r : (List Int)) (H : table_Table_Bytes.f k a1 = some r) : Calls Try.prog 48 #[.pointer p2] w0 (fun e w_ => ∃ (c_ : Nat → Nat) (A0_ : Option Addr) (C0_ : Nat), e = .returned (.slice A0_ r.length C0_) ∧ Ev (fun x => False) c0 w0 c_ w_ ∧ CB m c_ w_ ∧ SL false (Kint .u8) 0 0 c_ w_ A0_ C0_ r) := by
 unfold table_Table_Bytes.f at H
 have B := B0.mono (show m ≤ m + 8 by omega)
 have E : Ev (fun x => False ∨ m ≤ x) c0 w0 c0 w0 := Ev.refl
 refine enterM (N := 54) (l := [.pointer p2]) Try.func48 rfl rfl (Nat.le_of_ble_eq_true rfl) fun a F => ?_
 refine wp_seq_k fun K5 hK5 => ?_
 refine reg ?_
 refine q_val F rfl rfl (by decide) (r_assign F rfl) fun a F => ?_
 refine nil ?_
 refine hK5 _ _ ?_
 refine wp_seq_k fun K6 hK6 => ?_
 refine wp_seq_k fun K7 hK7 => ?_
 refine reg ?_
 refine q_val F rfl rfl (by decide) (r_move F rfl) fun a F => ?_
 refine q_val F rfl rfl (by decide) (r_peqlA F Try.underlying26 rfl rfl (TB.isNone h3)) fun a F => ?_
 refine nil ?_
 refine hK7 _ _ ?_
 by_cases hb8 : (Option.isNone a1) = true
 ·replace H := (if_pos hb8).symm.trans H
  refine wp_cond_true ((F.ev rfl).trans (congrArg Value.bool hb8)) ?_
  refine wp_seq_k fun K9 hK9 => ?_
  refine reg ?_
  refine q_val F rfl rfl (by decide) (r_assign F rfl) fun a F => ?_
  refine nil ?_
  refine hK9 _ _ ?_
  refine wp_ret ?_
  refine thenR ?_
  refine outM ?_
  refine endM0 F ?_
  replace H := Option.some.inj H
  subst H
  refine out1 F rfl rfl ?_
  exact ⟨fun b_ => (fun x_ => if x_ < m then x_ else 0) (c0 b_), none, 0, rfl, E.leave B0 (fun x_ => if x_ < m then x_ else 0) (by intro x_ hx_; show (if x_ < m then x_ else 0) = x_; ((repeat' split) <;> omega)), (fun b_ hb_ => by show (if (c0 b_) < m then (c0 b_) else 0) < m; ((repeat' split) <;> omega)), SL.nil⟩
 ·replace H := (if_neg hb8).symm.trans H
  refine wp_cond_false ((F.ev rfl).trans (congrArg Value.bool (bfalse hb8))) ?_
  refine wp_skip ?_
  refine hK6 _ _ ?_
  refine wp_seq_k fun K10 hK10 => ?_
  refine reg ?_
  refine q_val F rfl rfl (by decide) (r_move F rfl) fun a F => ?_
  replace H := bind_some H
  obtain ⟨t11, q12, H⟩ := H
  refine q_call F rfl rfl (by decide) (r_call F Try.func57 rfl (by kernel_rfl) rfl) (table_Table_Size.calls k (m := m + 8) (Nat.add_pos_left hm0 _) B h3 (Nat.lt_add_right _ bj4) _ q12) ?_
  rintro e w14 ⟨c13, rfl, E15, B16⟩
  refine ⟨_, rfl, fun a F => ?_⟩
  have B := B16
  replace h3 := TB.ev h3 E15 (fun q => q.elim) (fun q => q.elim)
  replace E := E.trans E15 (fun x q => q.elim)
  replace H := bind_some H
  obtain ⟨t18, q19, H⟩ := H
  refine q_call F rfl rfl (by decide) (r_call F Try.func46 rfl (by kernel_rfl) rfl) (parcel_New.calls (m := m + 8) (Nat.add_pos_left hm0 _) B (m + 1) (Nat.add_lt_add_left (by decide) m) (m + 2) (Nat.add_lt_add_left (by decide) m) _ q19) ?_
  rintro e w21 ⟨c20, p24, rfl, E22, B23, h25⟩
  refine ⟨_, rfl, fun a F => ?_⟩
  have B := B23
  replace h3 := TB.ev h3 E22 (fun q => q.elim) (fun q => q.elim)
  replace E := E.trans E22 (fun x q => q.elim)
  refine q_eff F rfl rfl (by decide) (e_alloc F zv_97 c20 (m + 3)) ?_
  rintro v w28 a ⟨c27, qa29, rfl, E30, h31, B32⟩ F
  replace B := B32 _ B (Nat.add_lt_add_left (by decide) m)
  replace h3 := TB.ev h3 E30 (fun q => q.elim) (fun q => q.elim)
  replace h25 := WR.ev h25 E30 (fun q => q.elim) (fun q => q.elim) (fun q => q.elim)
  replace E := E.trans E30 (fun x q => q.elim)
  replace h31 : AT true (m + 3) c27 w28 qa29 [.pointer none] := h31
  refine q_eff0 F rfl rfl (e_store0 F rfl rfl sz_97 h31 (Nat.le_of_ble_eq_true rfl) rfl) ?_
  rintro w34 a ⟨E35, h31, Z36⟩ F
  replace B := B.size Z36
  replace h3 := TB.ev h3 E35 (ne_pm bj4) ne_zm
  replace h25 := WR.ev h25 E35 (ne_mm (by decide)) (ne_mm (by decide)) ne_zm
  replace E := E.trans E35 (fun x (q : x = m + 3) => Or.inr (le_col q))
  replace h31 : AT true (m + 3) c27 w34 qa29 [.pointer p24] := h31
  refine nil ?_
  refine hK10 _ _ ?_
  refine wp_seq_k fun K37 hK37 => ?_
  replace H := bind_some H
  obtain ⟨ob38, e39, H⟩ := H
  have z40 := h3
  rw [e39] at z40
  obtain ⟨ad41, p43, rfl, hat42, h44⟩ := TB.some z40
  refine regD (SB No c27 w34) 6 (.q 0 (.e 1 (.e 2 (.e 3 (.e 4 (.q 5 (.e 6 .nil))))))) Try_hm (by decide +kernel) ?_
  intro w46 w1_ w2_ w3_ w4_
  have E47 : Ev No c27 w34 c27 w46 := Ev.same w1_ w2_ w3_ w4_
  replace B := B.same w1_
  have zh3 := h3
  have zh25 := h25
  have zh31 := h31
  have zh44 := h44
  have zhat42 := hat42
  have ER : Ev No c27 w34 c27 w46 := Ev.same w1_ w2_ w3_ w4_
  replace h3 := TB.ev h3 E47 (fun q => q.elim) (fun q => q.elim)
  replace h25 := WR.ev h25 E47 (fun q => q.elim) (fun q => q.elim) (fun q => q.elim)
  replace h31 := AT.ev h31 E47 (fun q => q.elim)
  replace h44 := TR.ev h44 E47 (fun q => q.elim) (fun q => q.elim)
  replace hat42 := AT.ev hat42 E47 (fun q => q.elim)
  replace E := E.trans E47 (fun x q => q.elim)
  refine d_q F rfl rfl rfl (by decide) (fun wq hS => r_load F rfl ag_97 (AT.cell0 (AT.sb zh31 hS (fun q => q.elim)) rfl)) ER.sb fun a F => ?_
  refine d_e ?_
  refine o_val F rfl rfl rfl (by decide) (r_move F rfl) fun a F => ?_
  refine ⟨fun _ => ER.sb, ?_⟩
  refine d_e ?_
  refine o_val F rfl rfl rfl (by decide) (r_nil F rfl) fun a F => ?_
  refine ⟨fun _ => ER.sb, ?_⟩
  refine d_e ?_
  refine o_val F rfl rfl rfl (by decide) (r_fieldAddr F rfl ff_82_1) fun a F => ?_
  refine ⟨fun _ => ER.sb, ?_⟩
  refine d_e ?_
  refine o_val F rfl rfl rfl (by decide) (r_load F rfl ag_3 (AT.cell hat42 rfl)) fun a F => ?_
  refine ⟨fun _ => ER.sb, ?_⟩
  refine d_q F rfl rfl rfl (by decide) (fun wq hS => r_convi F Try.underlying55 rfl rfl) ER.sb fun a F => ?_
  refine d_e ?_
  replace H := bind_some H
  obtain ⟨t48, q49, H⟩ := H
  refine o_call F rfl (wanted_none rfl) rfl (by decide) (r_call F Try.func54 rfl (by kernel_rfl) rfl) (parcel_Writer_Num.calls k (m := m + 8) (Nat.add_pos_left hm0 _) B h25 ⟨(Nat.add_pos_left hm0 _), (Nat.add_lt_add_left (by decide) m)⟩ ⟨(Nat.add_pos_left hm0 _), (Nat.add_lt_add_left (by decide) m), (ne_mm (by decide))⟩ _ q49) ?_
  rintro e w51 ⟨c50, rfl, E52, B53, h54⟩
  refine ⟨_, rfl, fun a F => ?_⟩
  have B := B53
  replace h3 := TB.ev h3 E52 (nor (ne_pm bj4) (ne_pm bj4)) (nor ne_zm ne_zm)
  replace h31 := AT.ev h31 E52 (nor (ne_mm (by decide)) (ne_mm (by decide)))
  replace h44 := TR.ev h44 E52 (nor ne_zm ne_zm) (nor ne_zm ne_zm)
  replace hat42 := AT.ev hat42 E52 (nor (ne_pm bj4) (ne_pm bj4))
  replace E := E.trans E52 (fun x (q : x = m + 1 ∨ x = m + 2) => q.elim (fun q => Or.inr (le_col q)) (fun q => Or.inr (le_col q)))
  refine ⟨fun q => absurd rfl q, ?_⟩
  refine d_nil ?_
  refine hK37 _ _ ?_
  replace F : Fr a 54 [(0, .pointer (some ad41)), (3, .pointer (some qa29))] := F.sub ⟨rfl, rfl, trivial⟩
  refine wp_seq_k fun K56 hK56 => ?_
  refine regD (SB No c50 w51) 7 (.q 0 (.e 1 (.e 2 (.e 3 (.e 4 (.e 5 (.q 6 (.e 7 .nil)))))))) Try_hm (by decide +kernel) ?_
  intro w57 w1_ w2_ w3_ w4_
  have E58 : Ev No c50 w51 c50 w57 := Ev.same w1_ w2_ w3_ w4_
  replace B := B.same w1_
  have zh3 := h3
  have zh31 := h31
  have zh44 := h44
  have zhat42 := hat42
  have zh54 := h54
  have ER : Ev No c50 w51 c50 w57 := Ev.same w1_ w2_ w3_ w4_
  replace h3 := TB.ev h3 E58 (fun q => q.elim) (fun q => q.elim)
  replace h31 := AT.ev h31 E58 (fun q => q.elim)
  replace h44 := TR.ev h44 E58 (fun q => q.elim) (fun q => q.elim)
  replace hat42 := AT.ev hat42 E58 (fun q => q.elim)
  replace h54 := WR.ev h54 E58 (fun q => q.elim) (fun q => q.elim) (fun q => q.elim)
  replace E := E.trans E58 (fun x q => q.elim)
  refine d_q F rfl rfl rfl (by decide) (fun wq hS => r_load F rfl ag_97 (AT.cell0 (AT.sb zh31 hS (fun q => q.elim)) rfl)) ER.sb fun a F => ?_
  refine d_e ?_
  refine o_val F rfl rfl rfl (by decide) (r_move F rfl) fun a F => ?_
  refine ⟨fun _ => ER.sb, ?_⟩
  refine d_e ?_
  refine o_val F rfl rfl rfl (by decide) (r_nil F rfl) fun a F => ?_
  refine ⟨fun _ => ER.sb, ?_⟩
  refine d_e ?_
  refine o_val F rfl rfl rfl (by decide) (r_fieldAddr F rfl ff_82_0) fun a F => ?_
  refine ⟨fun _ => ER.sb, ?_⟩
  refine d_e ?_
  refine o_val F rfl rfl rfl (by decide) (r_load F rfl ag_77 (AT.cell hat42 rfl)) fun a F => ?_
  refine ⟨fun _ => ER.sb, ?_⟩
  refine d_e ?_
  replace H := bind_some H
  obtain ⟨t59, q60, H⟩ := H
  refine o_call F rfl (wanted_none rfl) rfl (by decide) (r_call F Try.func45 rfl (by kernel_rfl) rfl) (tree_Tree_Len.calls (m := m + 8) (Nat.add_pos_left hm0 _) B h44 _ q60) ?_
  rintro e w62 ⟨c61, rfl, E63, B64⟩
  refine ⟨_, rfl, fun a F => ?_⟩
  have B := B64
  replace ER := ER.trans E63 (fun x q => q.elim)
  replace h3 := TB.ev h3 E63 (fun q => q.elim) (fun q => q.elim)
  replace h31 := AT.ev h31 E63 (fun q => q.elim)
  replace h44 := TR.ev h44 E63 (fun q => q.elim) (fun q => q.elim)
  replace hat42 := AT.ev hat42 E63 (fun q => q.elim)
  replace h54 := WR.ev h54 E63 (fun q => q.elim) (fun q => q.elim) (fun q => q.elim)
  replace E := E.trans E63 (fun x q => q.elim)
  refine ⟨fun _ => ER.sb, ?_⟩
  refine d_q F rfl rfl rfl (by decide) (fun wq hS => r_convi F Try.underlying55 rfl rfl) ER.sb fun a F => ?_
  refine d_e ?_
  replace H := bind_some H
  obtain ⟨t66, q67, H⟩ := H
  refine o_call F rfl (wanted_none rfl) rfl (by decide) (r_call F Try.func54 rfl (by kernel_rfl) rfl) (parcel_Writer_Num.calls k (m := m + 8) (Nat.add_pos_left hm0 _) B h54 ⟨(Nat.add_pos_left hm0 _), (Nat.add_lt_add_left (by decide) m)⟩ ⟨(Nat.add_pos_left hm0 _), (Nat.add_lt_add_left (by decide) m), (ne_mm (by decide))⟩ _ q67) ?_
  rintro e w69 ⟨c68, rfl, E70, B71, h72⟩
  refine ⟨_, rfl, fun a F => ?_⟩
  have B := B71
  replace h3 := TB.ev h3 E70 (nor (ne_pm bj4) (ne_pm bj4)) (nor ne_zm ne_zm)
  replace h31 := AT.ev h31 E70 (nor (ne_mm (by decide)) (ne_mm (by decide)))
  replace h44 := TR.ev h44 E70 (nor ne_zm ne_zm) (nor ne_zm ne_zm)
  replace hat42 := AT.ev hat42 E70 (nor (ne_pm bj4) (ne_pm bj4))
  replace E := E.trans E70 (fun x (q : x = m + 1 ∨ x = m + 2) => q.elim (fun q => Or.inr (le_col q)) (fun q => Or.inr (le_col q)))
  refine ⟨fun q => absurd rfl q, ?_⟩
  refine d_nil ?_
  refine hK56 _ _ ?_
  replace F : Fr a 54 [(0, .pointer (some ad41)), (3, .pointer (some qa29))] := F.sub ⟨rfl, rfl, trivial⟩
  refine wp_seq_k fun K74 hK74 => ?_
  refine wp_seq_k fun K75 hK75 => ?_
  refine reg ?_
  refine q_val F rfl rfl (by decide) (r_move F rfl) fun a F => ?_
  refine q_val F rfl rfl (by decide) (r_nil F rfl) fun a F => ?_
  refine q_val F rfl rfl (by decide) (r_fieldAddr F rfl ff_82_0) fun a F => ?_
  refine q_val F rfl rfl (by decide) (r_load F rfl ag_77 (AT.cell hat42 rfl)) fun a F => ?_
  replace H := bind_some H
  obtain ⟨t76, q77, H⟩ := H
  refine q_call F rfl rfl (by decide) (r_call F Try.func44 rfl (by kernel_rfl) rfl) (tree_Tree_All.calls (m := m + 8) (Nat.add_pos_left hm0 _) B h44 (m + 4) (Nat.add_lt_add_left (by decide) m) _ q77) ?_
  rintro e w79 ⟨c78, vi82, rfl, E80, B81, h83⟩
  refine ⟨_, rfl, fun a F => ?_⟩
  have B := B81
  replace h3 := TB.ev h3 E80 (fun q => q.elim) (fun q => q.elim)
  replace h31 := AT.ev h31 E80 (fun q => q.elim)
  replace h44 := TR.ev h44 E80 (fun q => q.elim) (fun q => q.elim)
  replace hat42 := AT.ev hat42 E80 (fun q => q.elim)
  replace h72 := WR.ev h72 E80 (fun q => q.elim) (fun q => q.elim) (fun q => q.elim)
  replace E := E.trans E80 (fun x q => q.elim)
  refine nil ?_
  refine hK75 _ _ ?_
  refine wp_block ?_
  obtain ⟨x158, HL, HR159⟩ := bind_some H
  refine ITR.range h83 (m := m + 8) (y := m + 5) (z := m + 6) (M := fun x => False ∨ m ≤ x) (g := (fun (s_ : (Option Wri)) (k_ : ByteArray) (v_ : table_cell) => table_Table_Bytes.b1 k s_ k_ v_)) (fun (s_ : (Option Wri)) (c_ : Nat → Nat) (w_ : World) => Ev (fun x => False ∨ m ≤ x) c78 w79 c_ w_ ∧ ∃ (o150 : Option Wri), o150 = s_ ∧ AT true (m + 3) c_ w_ qa29 [.pointer p24] ∧ WR (m + 1) (m + 2) c_ w_ p24 o150) (fun (_ : Unit) _ _ => False) F rfl (by decide) (by decide) (by omega) (by omega) (by omega) (by omega) (by intro q; rcases q with q | q <;> first | exact q.elim | (replace q : False := q; omega) | (replace q : m ≤ 0 := q; omega)) B (fun _ _ _ h_ => h_.1) (fun _ _ _ h_ => h_.elim) (fun s_ c1_ w1_ c2_ w2_ ⟨E_, o150, e_, h31, h149⟩ E2_ => ⟨E_.trans E2_ (fun x q => by show False ∨ m ≤ x; replace q : x = m + 5 := q; omega), o150, e_, AT.ev h31 E2_ (ne_mm (by decide)), WR.ev h149 E2_ (ne_mm (by decide)) (ne_mm (by decide)) ne_zm⟩) (fun _ _ _ _ _ h_ _ => h_.elim) t66 ⟨Ev.refl, t66, rfl, h31, h72⟩ x158 HL ?_ ?_ ?_
  ·intro bd153 lo154 rec155 s_ s161 v162 c151 w152 A163 C164 rr160 ⟨E, o150, e_, h31, h149⟩ B hb156 hl157 h165 Hg a F
   clear HL H
   subst e_
   have H : table_Table_Bytes.b1 k o150 s161 v162 = some rr160 := Hg
   clear Hg
   unfold table_Table_Bytes.b1 at H
   refine wpIn_seq_k fun K166 hK166 => ?_
   refine regR ?_
   refine q_val F rfl rfl (by decide) (r_assign F rfl) fun a F => ?_
   refine nil ?_
   refine hK166 _ _ ?_
   refine regR ?_
   refine q_eff F rfl rfl (by decide) (e_alloc F zv_80 c151 (m + 7)) ?_
   rintro v w168 a ⟨c167, qa103, rfl, E169, h105, B170⟩ F
   replace B := B170 _ B (Nat.add_lt_add_left (by decide) m)
   replace h31 := AT.ev h31 E169 (fun q => q.elim)
   replace h149 := WR.ev h149 E169 (fun q => q.elim) (fun q => q.elim) (fun q => q.elim)
   replace h165 := SL.ev h165 E169 (fun q => q.elim) (fun q => q.elim)
   replace hb156 := OBJ.ev hb156 E169 (fun q => q.elim)
   replace hl157 := OBJ.ev hl157 E169 (fun q => q.elim)
   replace E := E.trans E169 (fun x q => q.elim)
   replace h105 : AT true (m + 7) c167 w168 qa103 [.slice none 0 0, .int .i64 0] := h105
   refine q_eff0 F rfl rfl (e_storeN0 (us := [.slice A163 v162.value.length C164, .int .i64 v162.rev]) F rfl rfl sz_80 h105 (Nat.le_of_ble_eq_true rfl) (one_all rfl)) ?_
   rintro w171 a ⟨E172, h105, Z173⟩ F
   replace B := B.size Z173
   replace h31 := AT.ev h31 E172 (ne_mm (by decide))
   replace h149 := WR.ev h149 E172 (ne_mm (by decide)) (ne_mm (by decide)) ne_zm
   replace h165 := SL.ev h165 E172 ne_zm ne_zm
   replace hb156 := OBJ.ev hb156 E172 (ne_mm (by decide))
   replace hl157 := OBJ.ev hl157 E172 (ne_mm (by decide))
   replace E := E.trans E172 (fun x (q : x = m + 7) => Or.inr (le_col q))
   replace h105 : AT true (m + 7) c167 w171 qa103 [.slice A163 v162.value.length C164, .int .i64 v162.rev] := h105
   refine nil ?_
   refine thenN ?_
   refine ⟨c167, hl157, fun w174 E175 hl157 Z176 => ?_⟩
   replace B := B.size Z176
   replace h31 := AT.ev h31 E175 (ne_mm (by decide))
   replace h149 := WR.ev h149 E175 (ne_mm (by decide)) (ne_mm (by decide)) ne_zm
   replace h165 := SL.ev h165 E175 ne_zm ne_zm
   replace hb156 := OBJ.ev hb156 E175 (ne_mm (by decide))
   replace h105 := AT.ev h105 E175 (ne_mm (by decide))
   replace E := E.trans E175 (fun x (q : x = m + 5) => Or.inr (le_col q))
   refine wpIn_block ?_
   refine wpIn_seq_k fun K177 hK177 => ?_
   refine regR ?_
   refine q_val F rfl rfl (by decide) (r_load F rfl ag_97 (AT.cell0 h31 rfl)) fun a F => ?_
   refine q_val F rfl rfl (by decide) (r_move F rfl) fun a F => ?_
   replace H := ifN H
   obtain ⟨g115, H⟩ := H
   refine q_eff F rfl rfl (by decide) (e_strBytes F Try.underlying9 Try.underlying28 Try.underlying5 rfl (by unfold maxLen; omega) c167 0 0) ?_
   rintro v w179 a ⟨c178, A180, C181, rfl, E182, h183, B184⟩ F
   replace B := B184 _ B (Nat.add_pos_left hm0 _)
   replace h31 := AT.ev h31 E182 (fun q => q.elim)
   replace h149 := WR.ev h149 E182 (fun q => q.elim) (fun q => q.elim) (fun q => q.elim)
   replace h165 := SL.ev h165 E182 (fun q => q.elim) (fun q => q.elim)
   replace hb156 := OBJ.ev hb156 E182 (fun q => q.elim)
   replace hl157 := OBJ.ev hl157 E182 (fun q => q.elim)
   replace h105 := AT.ev h105 E182 (fun q => q.elim)
   replace E := E.trans E182 (fun x q => q.elim)
   replace H := bind_some H
   obtain ⟨t123, q124, H⟩ := H
   refine q_call F rfl rfl (by decide) (r_call F Try.func47 rfl (by kernel_rfl) rfl) (parcel_Writer_Text.calls k (m := m + 8) (Nat.add_pos_left hm0 _) B h149 h183.r ⟨(Nat.add_pos_left hm0 _), (Nat.add_lt_add_left (by decide) m)⟩ ⟨(Nat.add_pos_left hm0 _), (Nat.add_lt_add_left (by decide) m), (ne_mm (by decide))⟩ _ q124) ?_
   rintro e w186 ⟨c185, rfl, E187, B188, h189⟩
   refine ⟨_, rfl, fun a F => ?_⟩
   have B := B188
   replace h31 := AT.ev h31 E187 (nor (ne_mm (by decide)) (ne_mm (by decide)))
   replace h165 := SL.ev h165 E187 (nor ne_zm ne_zm) (nor ne_zm ne_zm)
   replace hb156 := OBJ.ev hb156 E187 (nor (ne_mm (by decide)) (ne_mm (by decide)))
   replace hl157 := OBJ.ev hl157 E187 (nor (ne_mm (by decide)) (ne_mm (by decide)))
   replace h105 := AT.ev h105 E187 (nor (ne_mm (by decide)) (ne_mm (by decide)))
   replace h183 := SL.ev h183 E187 (nor ne_zm ne_zm) (nor ne_zm ne_zm)
   replace E := E.trans E187 (fun x (q : x = m + 1 ∨ x = m + 2) => q.elim (fun q => Or.inr (le_col q)) (fun q => Or.inr (le_col q)))
   refine nil ?_
   refine hK177 _ _ ?_
   refine wpIn_seq_k fun K191 hK191 => ?_
   refine regR ?_
   refine q_val F rfl rfl (by decide) (r_load F rfl ag_97 (AT.cell0 h31 rfl)) fun a F => ?_
   refine q_val F rfl rfl (by decide) (r_fieldAddr F rfl ff_80_0) fun a F => ?_
   refine q_val F rfl rfl (by decide) (r_load F rfl ag_28 (AT.cell h105 rfl)) fun a F => ?_
   replace H := bind_some H
   obtain ⟨t132, q133, H⟩ := H
   refine q_call F rfl rfl (by decide) (r_call F Try.func47 rfl (by kernel_rfl) rfl) (parcel_Writer_Text.calls k (m := m + 8) (Nat.add_pos_left hm0 _) B h189 h165 ⟨(Nat.add_pos_left hm0 _), (Nat.add_lt_add_left (by decide) m)⟩ ⟨(Nat.add_pos_left hm0 _), (Nat.add_lt_add_left (by decide) m), (ne_mm (by decide))⟩ _ q133) ?_
   rintro e w193 ⟨c192, rfl, E194, B195, h196⟩
   refine ⟨_, rfl, fun a F => ?_⟩
   have B := B195
   replace h31 := AT.ev h31 E194 (nor (ne_mm (by decide)) (ne_mm (by decide)))
   replace h165 := SL.ev h165 E194 (nor ne_zm ne_zm) (nor ne_zm ne_zm)
   replace hb156 := OBJ.ev hb156 E194 (nor (ne_mm (by decide)) (ne_mm (by decide)))
   replace hl157 := OBJ.ev hl157 E194 (nor (ne_mm (by decide)) (ne_mm (by decide)))
   replace h105 := AT.ev h105 E194 (nor (ne_mm (by decide)) (ne_mm (by decide)))
   replace h183 := SL.ev h183 E194 (nor ne_zm ne_zm) (nor ne_zm ne_zm)
   replace E := E.trans E194 (fun x (q : x = m + 1 ∨ x = m + 2) => q.elim (fun q => Or.inr (le_col q)) (fun q => Or.inr (le_col q)))
   refine nil ?_
   refine hK191 _ _ ?_
   replace F : Fr a 54 [(3, .pointer (some qa29)), (5, .pointer (some qa103))] := F.sub ⟨rfl, rfl, trivial⟩
   refine regR ?_
   refine q_val F rfl rfl (by decide) (r_load F rfl ag_97 (AT.cell0 h31 rfl)) fun a F => ?_
   refine q_val F rfl rfl (by decide) (r_fieldAddr F rfl ff_80_1) fun a F => ?_
   refine q_val F rfl rfl (by decide) (r_load F rfl ag_3 (AT.cell h105 rfl)) fun a F => ?_
   refine q_val F rfl rfl (by decide) (r_convi F Try.underlying55 rfl rfl) fun a F => ?_
   replace H := bind_some H
   obtain ⟨t140, q141, H⟩ := H
   refine q_call F rfl rfl (by decide) (r_call F Try.func54 rfl (by kernel_rfl) rfl) (parcel_Writer_Num.calls k (m := m + 8) (Nat.add_pos_left hm0 _) B h196 ⟨(Nat.add_pos_left hm0 _), (Nat.add_lt_add_left (by decide) m)⟩ ⟨(Nat.add_pos_left hm0 _), (Nat.add_lt_add_left (by decide) m), (ne_mm (by decide))⟩ _ q141) ?_
   rintro e w199 ⟨c198, rfl, E200, B201, h202⟩
   refine ⟨_, rfl, fun a F => ?_⟩
   have B := B201
   replace h31 := AT.ev h31 E200 (nor (ne_mm (by decide)) (ne_mm (by decide)))
   replace h165 := SL.ev h165 E200 (nor ne_zm ne_zm) (nor ne_zm ne_zm)
   replace hb156 := OBJ.ev hb156 E200 (nor (ne_mm (by decide)) (ne_mm (by decide)))
   replace hl157 := OBJ.ev hl157 E200 (nor (ne_mm (by decide)) (ne_mm (by decide)))
   replace h105 := AT.ev h105 E200 (nor (ne_mm (by decide)) (ne_mm (by decide)))
   replace h183 := SL.ev h183 E200 (nor ne_zm ne_zm) (nor ne_zm ne_zm)
   replace E := E.trans E200 (fun x (q : x = m + 1 ∨ x = m + 2) => q.elim (fun q => Or.inr (le_col q)) (fun q => Or.inr (le_col q)))
   refine nil ?_
   have hr_ := Option.some.inj H
   subst hr_
   first | refine REn c198 hl157 ?_ | refine inbN (REn c198 hl157 ?_) | refine inbN (inbN (REn c198 hl157 ?_))
   exact ⟨⟨E, t140, rfl, h31, h202⟩, B, hb156⟩
  ·intro s_ hx211 c207 w208 bd209 ⟨E212, o150, e_, h31, h149⟩ B hb210 a F
   subst e_
   rw [hx211] at HR159
   have H : table_Table_Bytes.j2 o150 = some r := HR159
   unfold table_Table_Bytes.j2 at H
   replace E := E.trans E212 (fun _ q => q)
   refine hK74 _ _ ?_
   refine wp_seq_k fun K213 hK213 => ?_
   refine reg ?_
   refine q_val F rfl rfl (by decide) (r_load F rfl ag_97 (AT.cell0 h31 rfl)) fun a F => ?_
   replace H := bind_some H
   obtain ⟨t214, q215, H⟩ := H
   refine q_call F rfl rfl (by decide) (r_call F Try.func50 rfl (by kernel_rfl) rfl) (parcel_Writer_Done.calls (m := m + 8) (Nat.add_pos_left hm0 _) B h149 (Nat.add_lt_add_left (by decide) m) ⟨(Nat.add_lt_add_left (by decide) m), (ne_mm (by decide))⟩ 0 (Nat.add_pos_left hm0 _) _ q215) ?_
   rintro e w217 ⟨c216, A220, C221, rfl, E218, B219, h222⟩
   refine ⟨_, rfl, fun a F => ?_⟩
   have B := B219
   replace h31 := AT.ev h31 E218 (fun q => q.elim)
   replace h149 := WR.ev h149 E218 (fun q => q.elim) (fun q => q.elim) (fun q => q.elim)
   replace hb210 := OBJ.ev hb210 E218 (fun q => q.elim)
   replace E := E.trans E218 (fun x q => q.elim)
   refine q_val F rfl rfl (by decide) (r_move F rfl) fun a F => ?_
   refine q_val F rfl rfl (by decide) (r_extract F rfl rfl) fun a F => ?_
   refine q_val F rfl rfl (by decide) (r_extract F rfl rfl) fun a F => ?_
   refine q_val F rfl rfl (by decide) (r_assign F rfl) fun a F => ?_
   refine q_val F rfl rfl (by decide) (r_assign F rfl) fun a F => ?_
   refine nil ?_
   refine hK213 _ _ ?_
   refine wp_seq_k fun K224 hK224 => ?_
   refine reg ?_
   refine q_val F rfl rfl (by decide) (r_move F rfl) fun a F => ?_
   refine q_val F rfl rfl (by decide) (r_assign F rfl) fun a F => ?_
   refine nil ?_
   refine hK224 _ _ ?_
   replace F : Fr a 54 [(2, .slice A220 t214.1.length C221)] ({ target := .collected bd209, args := #[] } :: []) := F.sub ⟨rfl, trivial⟩
   refine wp_ret ?_
   refine outM ?_
   refine endM F hb210 fun w225 E226 Z227 a F => ?_
   replace B := B.size Z227
   replace h31 := AT.ev h31 E226 (ne_mm (by decide))
   replace h149 := WR.ev h149 E226 (ne_mm (by decide)) (ne_mm (by decide)) ne_zm
   replace h222 := SL.ev h222 E226 ne_zm ne_zm
   replace E := E.trans E226 (fun x (q : x = m + 6) => Or.inr (le_col q))
   refine endM0 F ?_
   replace H := Option.some.inj H
   subst H
   refine out1 F rfl rfl ?_
   exact ⟨fun b_ => (fun x_ => if x_ < m then x_ else 0) (c216 b_), A220, C221, rfl, E.leave B0 (fun x_ => if x_ < m then x_ else 0) (by intro x_ hx_; show (if x_ < m then x_ else 0) = x_; ((repeat' split) <;> omega)), (fun b_ hb_ => by show (if (c216 b_) < m then (c216 b_) else 0) < m; ((repeat' split) <;> omega)), SL.rc h222.r (fun k_ hk_ => by show (if (c216 k_) < m then (c216 k_) else 0) = _; rw [hk_]; ((repeat' split) <;> omega)) (fun k_ hk_ => by show (if (c216 k_) < m then (c216 k_) else 0) = _; rw [hk_]; ((repeat' split) <;> omega))⟩
  ·intro s_ hx_ c_ w_ bd_ h_
   exact h_.elim
end Go.Proofs.Ythankpjbfpcldaa.G
namespace Go.Proofs.Ythankpjbfpcldaa.G
open Go Go.RowKit
set_option linter.unusedVariables false
set_option linter.unusedSimpArgs false
set_option maxRecDepth 100000 in
set_option maxHeartbeats 4000000 in
theorem shard_Shard_Export.calls (k : Nat) {m : Nat} {c0 : Nat → Nat} {w0 : World} {j4 : Nat} {j5 : Nat} {p2 : Option Addr} {a1 : Option Sha} (hm0 : 0 < m) (B0 : CB m c0 w0) (h3 : SH j4 j5 c0 w0 p2 a1) (bj4 : j4 < m) (bj5 : j5 < m ∧ j5 ≠ j4) (r : (List Int)) (H : shard_Shard_Export.f k a1 = some r) : Calls Try.prog 21 #[.pointer p2] w0 (fun e w_ => ∃ (c_ : Nat → Nat) (A0_ : Option Addr) (C0_ : Nat), e = .returned (.slice A0_ r.length C0_) ∧ Ev (fun x => False) c0 w0 c_ w_ ∧ CB m c_ w_ ∧ SL false (Kint .u8) 0 0 c_ w_ A0_ C0_ r) := by
 unfold shard_Shard_Export.f at H
 have B := B0.mono (show m ≤ m + 3 by omega)
 have E : Ev (fun x => False ∨ m ≤ x) c0 w0 c0 w0 := Ev.refl
 refine enter (N := 27) (l := [.pointer p2]) Try.func21 rfl rfl (Nat.le_of_ble_eq_true rfl) fun a F => ?_
 refine wp_seq_k fun K6 hK6 => ?_
 refine reg ?_
 refine q_val F rfl rfl (by decide) (r_assign F rfl) fun a F => ?_
 refine nil ?_
 refine hK6 _ _ ?_
 refine wp_seq_k fun K7 hK7 => ?_
 refine wp_seq_k fun K8 hK8 => ?_
 refine reg ?_
 refine q_val F rfl rfl (by decide) (r_move F rfl) fun a F => ?_
 refine q_val F rfl rfl (by decide) (r_peqlA F Try.underlying24 rfl rfl (SH.isNone h3)) fun a F => ?_
 refine nil ?_
 refine hK8 _ _ ?_
 by_cases hb9 : (Option.isNone a1) = true
 ·replace H := (if_pos hb9).symm.trans H
  refine wp_cond_true ((F.ev rfl).trans (congrArg Value.bool hb9)) ?_
  refine wp_seq_k fun K10 hK10 => ?_
  refine reg ?_
  refine q_val F rfl rfl (by decide) (r_assign F rfl) fun a F => ?_
  refine nil ?_
  refine hK10 _ _ ?_
  refine wp_ret ?_
  refine thenR ?_
  replace H := Option.some.inj H
  subst H
  refine out1 F rfl rfl ?_
  exact ⟨fun b_ => (fun x_ => if x_ < m then x_ else 0) (c0 b_), none, 0, rfl, E.leave B0 (fun x_ => if x_ < m then x_ else 0) (by intro x_ hx_; show (if x_ < m then x_ else 0) = x_; ((repeat' split) <;> omega)), (fun b_ hb_ => by show (if (c0 b_) < m then (c0 b_) else 0) < m; ((repeat' split) <;> omega)), SL.nil⟩
 ·replace H := (if_neg hb9).symm.trans H
  refine wp_cond_false ((F.ev rfl).trans (congrArg Value.bool (bfalse hb9))) ?_
  refine wp_skip ?_
  refine hK7 _ _ ?_
  refine wp_seq_k fun K11 hK11 => ?_
  refine reg ?_
  replace H := bind_some H
  obtain ⟨t12, q13, H⟩ := H
  refine q_call F rfl rfl (by decide) (r_call F Try.func46 rfl (by kernel_rfl) rfl) (parcel_New.calls (m := m + 3) (Nat.add_pos_left hm0 _) B (m + 1) (Nat.add_lt_add_left (by decide) m) (m + 2) (Nat.add_lt_add_left (by decide) m) _ q13) ?_
  rintro e w15 ⟨c14, p18, rfl, E16, B17, h19⟩
  refine ⟨_, rfl, fun a F => ?_⟩
  have B := B17
  replace h3 := SH.ev h3 E16 (fun q => q.elim) (fun q => q.elim) (fun q => q.elim)
  replace E := E.trans E16 (fun x q => q.elim)
  refine q_val F rfl rfl (by decide) (r_assign F rfl) fun a F => ?_
  refine nil ?_
  refine hK11 _ _ ?_
  refine wp_seq_k fun K21 hK21 => ?_
  refine reg ?_
  refine q_val F rfl rfl (by decide) (r_move F rfl) fun a F => ?_
  refine q_val F rfl rfl (by decide) (r_move F rfl) fun a F => ?_
  replace H := bind_some H
  obtain ⟨ob22, e23, H⟩ := H
  have z24 := h3
  rw [e23] at z24
  obtain ⟨ad25, p27, cs29, rfl, hat26, h28, h30⟩ := SH.some z24
  refine q_val F rfl rfl (by decide) (r_nil F rfl) fun a F => ?_
  refine q_val F rfl rfl (by decide) (r_fieldAddr F rfl ff_76_0) fun a F => ?_
  refine q_val F rfl rfl (by decide) (r_load F rfl ag_26 (AT.cell hat26 rfl)) fun a F => ?_
  replace H := bind_some H
  obtain ⟨t32, q33, H⟩ := H
  refine q_call F rfl rfl (by decide) (r_call F Try.func48 rfl (by kernel_rfl) rfl) (table_Table_Bytes.calls k (m := m + 3) (Nat.add_pos_left hm0 _) B h28 (Nat.lt_add_right _ bj5.1) _ q33) ?_
  rintro e w35 ⟨c34, A38, C39, rfl, E36, B37, h40⟩
  refine ⟨_, rfl, fun a F => ?_⟩
  have B := B37
  replace h3 := SH.ev h3 E36 (fun q => q.elim) (fun q => q.elim) (fun q => q.elim)
  replace h19 := WR.ev h19 E36 (fun q => q.elim) (fun q => q.elim) (fun q => q.elim)
  replace h28 := TB.ev h28 E36 (fun q => q.elim) (fun q => q.elim)
  replace h30 := AR.ev h30 E36 (fun q => q.elim)
  replace hat26 := AT.ev hat26 E36 (fun q => q.elim)
  replace E := E.trans E36 (fun x q => q.elim)
  replace H := bind_some H
  obtain ⟨t42, q43, H⟩ := H
  refine q_call F rfl rfl (by decide) (r_call F Try.func47 rfl (by kernel_rfl) rfl) (parcel_Writer_Text.calls k (m := m + 3) (Nat.add_pos_left hm0 _) B h19 h40 ⟨(Nat.add_pos_left hm0 _), (Nat.add_lt_add_left (by decide) m)⟩ ⟨(Nat.add_pos_left hm0 _), (Nat.add_lt_add_left (by decide) m), (ne_mm (by decide))⟩ _ q43) ?_
  rintro e w45 ⟨c44, rfl, E46, B47, h48⟩
  refine ⟨_, rfl, fun a F => ?_⟩
  have B := B47
  replace h3 := SH.ev h3 E46 (nor (ne_pm bj4) (ne_pm bj4)) (nor (ne_pm bj5.1) (ne_pm bj5.1)) (nor ne_zm ne_zm)
  replace h28 := TB.ev h28 E46 (nor (ne_pm bj5.1) (ne_pm bj5.1)) (nor ne_zm ne_zm)
  replace h30 := AR.ev h30 E46 (nor ne_zm ne_zm)
  replace hat26 := AT.ev hat26 E46 (nor (ne_pm bj4) (ne_pm bj4))
  replace h40 := SL.ev h40 E46 (nor ne_zm ne_zm) (nor ne_zm ne_zm)
  replace E := E.trans E46 (fun x (q : x = m + 1 ∨ x = m + 2) => q.elim (fun q => Or.inr (le_col q)) (fun q => Or.inr (le_col q)))
  refine nil ?_
  refine hK21 _ _ ?_
  replace F : Fr a 27 [(0, .pointer (some ad25)), (3, .pointer p18)] := F.sub ⟨rfl, rfl, trivial⟩
  refine wp_seq_k fun K50 hK50 => ?_
  refine reg ?_
  refine q_val F rfl rfl (by decide) (r_move F rfl) fun a F => ?_
  refine q_val F rfl rfl (by decide) (r_nil F rfl) fun a F => ?_
  refine q_val F rfl rfl (by decide) (r_fieldAddr F rfl ff_76_1) fun a F => ?_
  refine q_val F rfl rfl (by decide) (r_move F rfl) fun a F => ?_
  have h51 : SE j4 c44 w45 (some (ad25.add 1)) ob22.seats := SE.mk (AT.seg hat26 rfl (h30.1 : cs29.length = 112)) h30
  replace H := bind_some H
  obtain ⟨t52, q53, H⟩ := H
  refine q_call F rfl rfl (by decide) (r_call F Try.func49 rfl (by kernel_rfl) rfl) (shard_seats_lay.calls k (m := m + 3) (Nat.add_pos_left hm0 _) B h51 h48 ⟨(Nat.lt_add_right _ bj4), (ne_pm bj4), (ne_pm bj4)⟩ ⟨(Nat.add_pos_left hm0 _), (Nat.add_lt_add_left (by decide) m)⟩ ⟨(Nat.add_pos_left hm0 _), (Nat.add_lt_add_left (by decide) m), (ne_mm (by decide))⟩ _ q53) ?_
  rintro e w55 ⟨c54, rfl, E56, B57, h58⟩
  refine ⟨_, rfl, fun a F => ?_⟩
  have B := B57
  replace h3 := SH.ev h3 E56 (nor (ne_pm bj4) (ne_pm bj4)) (nor (ne_pm bj5.1) (ne_pm bj5.1)) (nor ne_zm ne_zm)
  replace h28 := TB.ev h28 E56 (nor (ne_pm bj5.1) (ne_pm bj5.1)) (nor ne_zm ne_zm)
  replace h30 := AR.ev h30 E56 (nor ne_zm ne_zm)
  replace hat26 := AT.ev hat26 E56 (nor (ne_pm bj4) (ne_pm bj4))
  replace h40 := SL.ev h40 E56 (nor ne_zm ne_zm) (nor ne_zm ne_zm)
  replace h51 := SE.ev h51 E56 (nor (ne_pm bj4) (ne_pm bj4)) (nor ne_zm ne_zm)
  replace E := E.trans E56 (fun x (q : x = m + 1 ∨ x = m + 2) => q.elim (fun q => Or.inr (le_col q)) (fun q => Or.inr (le_col q)))
  refine nil ?_
  refine hK50 _ _ ?_
  refine wp_seq_k fun K60 hK60 => ?_
  refine reg ?_
  refine q_val F rfl rfl (by decide) (r_move F rfl) fun a F => ?_
  replace H := bind_some H
  obtain ⟨t61, q62, H⟩ := H
  refine q_call F rfl rfl (by decide) (r_call F Try.func50 rfl (by kernel_rfl) rfl) (parcel_Writer_Done.calls (m := m + 3) (Nat.add_pos_left hm0 _) B h58 (Nat.add_lt_add_left (by decide) m) ⟨(Nat.add_lt_add_left (by decide) m), (ne_mm (by decide))⟩ 0 (Nat.add_pos_left hm0 _) _ q62) ?_
  rintro e w64 ⟨c63, A67, C68, rfl, E65, B66, h69⟩
  refine ⟨_, rfl, fun a F => ?_⟩
  have B := B66
  replace h3 := SH.ev h3 E65 (fun q => q.elim) (fun q => q.elim) (fun q => q.elim)
  replace h28 := TB.ev h28 E65 (fun q => q.elim) (fun q => q.elim)
  replace h30 := AR.ev h30 E65 (fun q => q.elim)
  replace hat26 := AT.ev hat26 E65 (fun q => q.elim)
  replace h40 := SL.ev h40 E65 (fun q => q.elim) (fun q => q.elim)
  replace h51 := SE.ev h51 E65 (fun q => q.elim) (fun q => q.elim)
  replace h58 := WR.ev h58 E65 (fun q => q.elim) (fun q => q.elim) (fun q => q.elim)
  replace E := E.trans E65 (fun x q => q.elim)
  refine q_val F rfl rfl (by decide) (r_move F rfl) fun a F => ?_
  refine q_val F rfl rfl (by decide) (r_extract F rfl rfl) fun a F => ?_
  refine q_val F rfl rfl (by decide) (r_extract F rfl rfl) fun a F => ?_
  refine q_val F rfl rfl (by decide) (r_assign F rfl) fun a F => ?_
  refine q_val F rfl rfl (by decide) (r_assign F rfl) fun a F => ?_
  refine nil ?_
  refine hK60 _ _ ?_
  replace F : Fr a 27 [(4, .slice A67 t61.1.length C68)] := F.sub ⟨rfl, trivial⟩
  refine wp_seq_k fun K71 hK71 => ?_
  refine reg ?_
  refine q_val F rfl rfl (by decide) (r_move F rfl) fun a F => ?_
  refine q_val F rfl rfl (by decide) (r_assign F rfl) fun a F => ?_
  refine nil ?_
  refine hK71 _ _ ?_
  refine wp_ret ?_
  replace H := Option.some.inj H
  subst H
  refine out1 F rfl rfl ?_
  exact ⟨fun b_ => (fun x_ => if x_ < m then x_ else 0) (c63 b_), A67, C68, rfl, E.leave B0 (fun x_ => if x_ < m then x_ else 0) (by intro x_ hx_; show (if x_ < m then x_ else 0) = x_; ((repeat' split) <;> omega)), (fun b_ hb_ => by show (if (c63 b_) < m then (c63 b_) else 0) < m; ((repeat' split) <;> omega)), SL.rc h69.r (fun k_ hk_ => by show (if (c63 k_) < m then (c63 k_) else 0) = _; rw [hk_]; ((repeat' split) <;> omega)) (fun k_ hk_ => by show (if (c63 k_) < m then (c63 k_) else 0) = _; rw [hk_]; ((repeat' split) <;> omega))⟩
end Go.Proofs.Ythankpjbfpcldaa.G
namespace Go.Proofs.Ythankpjbfpcldaa.G
open Go Go.RowKit
set_option linter.unusedVariables false
set_option linter.unusedSimpArgs false
set_option maxRecDepth 100000 in
set_option maxHeartbeats 4000000 in
theorem table_Table_Len.calls {m : Nat} {c0 : Nat → Nat} {w0 : World} {j4 : Nat} {p2 : Option Addr} {a1 : Option Tab} (hm0 : 0 < m) (B0 : CB m c0 w0) (h3 : TB j4 c0 w0 p2 a1) (bj4 : j4 < m) (r : Int) (H : table_Table_Len.f a1 = some r) : Calls Try.prog 20 #[.pointer p2] w0 (fun e w_ => ∃ (c_ : Nat → Nat), e = .returned (.int .i64 r) ∧ Ev (fun x => False) c0 w0 c_ w_ ∧ CB m c_ w_) := by
 unfold table_Table_Len.f at H
 have B := B0.mono (show m ≤ m + 1 by omega)
 have E : Ev (fun x => False ∨ m ≤ x) c0 w0 c0 w0 := Ev.refl
 refine enter (N := 10) (l := [.pointer p2]) Try.func20 rfl rfl (Nat.le_of_ble_eq_true rfl) fun a F => ?_
 refine wp_seq_k fun K5 hK5 => ?_
 refine reg ?_
 refine q_val F rfl rfl (by decide) (r_assign F rfl) fun a F => ?_
 refine nil ?_
 refine hK5 _ _ ?_
 refine wp_seq_k fun K6 hK6 => ?_
 refine wp_seq_k fun K7 hK7 => ?_
 refine reg ?_
 refine q_val F rfl rfl (by decide) (r_move F rfl) fun a F => ?_
 refine q_val F rfl rfl (by decide) (r_peqlA F Try.underlying26 rfl rfl (TB.isNone h3)) fun a F => ?_
 refine nil ?_
 refine hK7 _ _ ?_
 by_cases hb8 : (Option.isNone a1) = true
 ·replace H := (if_pos hb8).symm.trans H
  refine wp_cond_true ((F.ev rfl).trans (congrArg Value.bool hb8)) ?_
  refine wp_seq_k fun K9 hK9 => ?_
  refine reg ?_
  refine q_val F rfl rfl (by decide) (r_assign F rfl) fun a F => ?_
  refine nil ?_
  refine hK9 _ _ ?_
  refine wp_ret ?_
  refine thenR ?_
  replace H := Option.some.inj H
  subst H
  refine out1 F rfl rfl ?_
  exact ⟨fun b_ => (fun x_ => if x_ < m then x_ else 0) (c0 b_), rfl, E.leave B0 (fun x_ => if x_ < m then x_ else 0) (by intro x_ hx_; show (if x_ < m then x_ else 0) = x_; ((repeat' split) <;> omega)), (fun b_ hb_ => by show (if (c0 b_) < m then (c0 b_) else 0) < m; ((repeat' split) <;> omega))⟩
 ·replace H := (if_neg hb8).symm.trans H
  refine wp_cond_false ((F.ev rfl).trans (congrArg Value.bool (bfalse hb8))) ?_
  refine wp_skip ?_
  refine hK6 _ _ ?_
  refine wp_seq_k fun K10 hK10 => ?_
  refine reg ?_
  refine q_val F rfl rfl (by decide) (r_move F rfl) fun a F => ?_
  replace H := bind_some H
  obtain ⟨ob11, e12, H⟩ := H
  have z13 := h3
  rw [e12] at z13
  obtain ⟨ad14, p16, rfl, hat15, h17⟩ := TB.some z13
  refine q_val F rfl rfl (by decide) (r_nil F rfl) fun a F => ?_
  refine q_val F rfl rfl (by decide) (r_fieldAddr F rfl ff_82_0) fun a F => ?_
  refine q_val F rfl rfl (by decide) (r_load F rfl ag_77 (AT.cell hat15 rfl)) fun a F => ?_
  replace H := bind_some H
  obtain ⟨t19, q20, H⟩ := H
  refine q_call F rfl rfl (by decide) (r_call F Try.func45 rfl (by kernel_rfl) rfl) (tree_Tree_Len.calls (m := m + 1) (Nat.add_pos_left hm0 _) B h17 _ q20) ?_
  rintro e w22 ⟨c21, rfl, E23, B24⟩
  refine ⟨_, rfl, fun a F => ?_⟩
  have B := B24
  replace h3 := TB.ev h3 E23 (fun q => q.elim) (fun q => q.elim)
  replace h17 := TR.ev h17 E23 (fun q => q.elim) (fun q => q.elim)
  replace hat15 := AT.ev hat15 E23 (fun q => q.elim)
  replace E := E.trans E23 (fun x q => q.elim)
  refine q_val F rfl rfl (by decide) (r_assign F rfl) fun a F => ?_
  refine nil ?_
  refine hK10 _ _ ?_
  replace F : Fr a 10 [(2, .int .i64 t19)] := F.sub ⟨rfl, trivial⟩
  refine wp_ret ?_
  replace H := Option.some.inj H
  subst H
  refine out1 F rfl rfl ?_
  exact ⟨fun b_ => (fun x_ => if x_ < m then x_ else 0) (c21 b_), rfl, E.leave B0 (fun x_ => if x_ < m then x_ else 0) (by intro x_ hx_; show (if x_ < m then x_ else 0) = x_; ((repeat' split) <;> omega)), (fun b_ hb_ => by show (if (c21 b_) < m then (c21 b_) else 0) < m; ((repeat' split) <;> omega))⟩
end Go.Proofs.Ythankpjbfpcldaa.G
namespace Go.Proofs.Ythankpjbfpcldaa.G
open Go Go.RowKit
set_option linter.unusedVariables false
set_option linter.unusedSimpArgs false
set_option maxRecDepth 100000 in
set_option maxHeartbeats 4000000 in
theorem shard_Shard_Len.calls {m : Nat} {c0 : Nat → Nat} {w0 : World} {j4 : Nat} {j5 : Nat} {p2 : Option Addr} {a1 : Option Sha} (hm0 : 0 < m) (B0 : CB m c0 w0) (h3 : SH j4 j5 c0 w0 p2 a1) (bj4 : j4 < m) (bj5 : j5 < m ∧ j5 ≠ j4) (r : Int) (H : shard_Shard_Len.f a1 = some r) : Calls Try.prog 19 #[.pointer p2] w0 (fun e w_ => ∃ (c_ : Nat → Nat), e = .returned (.int .i64 r) ∧ Ev (fun x => False) c0 w0 c_ w_ ∧ CB m c_ w_) := by
 unfold shard_Shard_Len.f at H
 have B := B0.mono (show m ≤ m + 1 by omega)
 have E : Ev (fun x => False ∨ m ≤ x) c0 w0 c0 w0 := Ev.refl
 refine enter (N := 10) (l := [.pointer p2]) Try.func19 rfl rfl (Nat.le_of_ble_eq_true rfl) fun a F => ?_
 refine wp_seq_k fun K6 hK6 => ?_
 refine reg ?_
 refine q_val F rfl rfl (by decide) (r_assign F rfl) fun a F => ?_
 refine nil ?_
 refine hK6 _ _ ?_
 refine wp_seq_k fun K7 hK7 => ?_
 refine wp_seq_k fun K8 hK8 => ?_
 refine reg ?_
 refine q_val F rfl rfl (by decide) (r_move F rfl) fun a F => ?_
 refine q_val F rfl rfl (by decide) (r_peqlA F Try.underlying24 rfl rfl (SH.isNone h3)) fun a F => ?_
 refine nil ?_
 refine hK8 _ _ ?_
 by_cases hb9 : (Option.isNone a1) = true
 ·replace H := (if_pos hb9).symm.trans H
  refine wp_cond_true ((F.ev rfl).trans (congrArg Value.bool hb9)) ?_
  refine wp_seq_k fun K10 hK10 => ?_
  refine reg ?_
  refine q_val F rfl rfl (by decide) (r_assign F rfl) fun a F => ?_
  refine nil ?_
  refine hK10 _ _ ?_
  refine wp_ret ?_
  refine thenR ?_
  replace H := Option.some.inj H
  subst H
  refine out1 F rfl rfl ?_
  exact ⟨fun b_ => (fun x_ => if x_ < m then x_ else 0) (c0 b_), rfl, E.leave B0 (fun x_ => if x_ < m then x_ else 0) (by intro x_ hx_; show (if x_ < m then x_ else 0) = x_; ((repeat' split) <;> omega)), (fun b_ hb_ => by show (if (c0 b_) < m then (c0 b_) else 0) < m; ((repeat' split) <;> omega))⟩
 ·replace H := (if_neg hb9).symm.trans H
  refine wp_cond_false ((F.ev rfl).trans (congrArg Value.bool (bfalse hb9))) ?_
  refine wp_skip ?_
  refine hK7 _ _ ?_
  refine wp_seq_k fun K11 hK11 => ?_
  refine reg ?_
  refine q_val F rfl rfl (by decide) (r_move F rfl) fun a F => ?_
  replace H := bind_some H
  obtain ⟨ob12, e13, H⟩ := H
  have z14 := h3
  rw [e13] at z14
  obtain ⟨ad15, p17, cs19, rfl, hat16, h18, h20⟩ := SH.some z14
  refine q_val F rfl rfl (by decide) (r_nil F rfl) fun a F => ?_
  refine q_val F rfl rfl (by decide) (r_fieldAddr F rfl ff_76_0) fun a F => ?_
  refine q_val F rfl rfl (by decide) (r_load F rfl ag_26 (AT.cell hat16 rfl)) fun a F => ?_
  replace H := bind_some H
  obtain ⟨t22, q23, H⟩ := H
  refine q_call F rfl rfl (by decide) (r_call F Try.func20 rfl (by kernel_rfl) rfl) (table_Table_Len.calls (m := m + 1) (Nat.add_pos_left hm0 _) B h18 (Nat.lt_add_right _ bj5.1) _ q23) ?_
  rintro e w25 ⟨c24, rfl, E26, B27⟩
  refine ⟨_, rfl, fun a F => ?_⟩
  have B := B27
  replace h3 := SH.ev h3 E26 (fun q => q.elim) (fun q => q.elim) (fun q => q.elim)
  replace h18 := TB.ev h18 E26 (fun q => q.elim) (fun q => q.elim)
  replace h20 := AR.ev h20 E26 (fun q => q.elim)
  replace hat16 := AT.ev hat16 E26 (fun q => q.elim)
  replace E := E.trans E26 (fun x q => q.elim)
  refine q_val F rfl rfl (by decide) (r_assign F rfl) fun a F => ?_
  refine nil ?_
  refine hK11 _ _ ?_
  replace F : Fr a 10 [(2, .int .i64 t22)] := F.sub ⟨rfl, trivial⟩
  refine wp_ret ?_
  replace H := Option.some.inj H
  subst H
  refine out1 F rfl rfl ?_
  exact ⟨fun b_ => (fun x_ => if x_ < m then x_ else 0) (c24 b_), rfl, E.leave B0 (fun x_ => if x_ < m then x_ else 0) (by intro x_ hx_; show (if x_ < m then x_ else 0) = x_; ((repeat' split) <;> omega)), (fun b_ hb_ => by show (if (c24 b_) < m then (c24 b_) else 0) < m; ((repeat' split) <;> omega))⟩
end Go.Proofs.Ythankpjbfpcldaa.G
namespace Go.Proofs.Ythankpjbfpcldaa.G
open Go Go.RowKit
set_option linter.unusedVariables false
set_option linter.unusedSimpArgs false
set_option maxRecDepth 100000 in
set_option maxHeartbeats 4000000 in
theorem table_Table_Rev.calls {m : Nat} {c0 : Nat → Nat} {w0 : World} {j4 : Nat} {p2 : Option Addr} {a1 : Option Tab} (hm0 : 0 < m) (B0 : CB m c0 w0) (h3 : TB j4 c0 w0 p2 a1) (bj4 : j4 < m) (r : Int) (H : table_Table_Rev.f a1 = some r) : Calls Try.prog 18 #[.pointer p2] w0 (fun e w_ => ∃ (c_ : Nat → Nat), e = .returned (.int .i64 r) ∧ Ev (fun x => False) c0 w0 c_ w_ ∧ CB m c_ w_) := by
 unfold table_Table_Rev.f at H
 have B := B0.mono (show m ≤ m + 1 by omega)
 have E : Ev (fun x => False ∨ m ≤ x) c0 w0 c0 w0 := Ev.refl
 refine enter (N := 9) (l := [.pointer p2]) Try.func18 rfl rfl (Nat.le_of_ble_eq_true rfl) fun a F => ?_
 refine wp_seq_k fun K5 hK5 => ?_
 refine reg ?_
 refine q_val F rfl rfl (by decide) (r_assign F rfl) fun a F => ?_
 refine nil ?_
 refine hK5 _ _ ?_
 refine wp_seq_k fun K6 hK6 => ?_
 refine wp_seq_k fun K7 hK7 => ?_
 refine reg ?_
 refine q_val F rfl rfl (by decide) (r_move F rfl) fun a F => ?_
 refine q_val F rfl rfl (by decide) (r_peqlA F Try.underlying26 rfl rfl (TB.isNone h3)) fun a F => ?_
 refine nil ?_
 refine hK7 _ _ ?_
 by_cases hb8 : (Option.isNone a1) = true
 ·replace H := (if_pos hb8).symm.trans H
  refine wp_cond_true ((F.ev rfl).trans (congrArg Value.bool hb8)) ?_
  refine wp_seq_k fun K9 hK9 => ?_
  refine reg ?_
  refine q_val F rfl rfl (by decide) (r_assign F rfl) fun a F => ?_
  refine nil ?_
  refine hK9 _ _ ?_
  refine wp_ret ?_
  refine thenR ?_
  replace H := Option.some.inj H
  subst H
  refine out1 F rfl rfl ?_
  exact ⟨fun b_ => (fun x_ => if x_ < m then x_ else 0) (c0 b_), rfl, E.leave B0 (fun x_ => if x_ < m then x_ else 0) (by intro x_ hx_; show (if x_ < m then x_ else 0) = x_; ((repeat' split) <;> omega)), (fun b_ hb_ => by show (if (c0 b_) < m then (c0 b_) else 0) < m; ((repeat' split) <;> omega))⟩
 ·replace H := (if_neg hb8).symm.trans H
  refine wp_cond_false ((F.ev rfl).trans (congrArg Value.bool (bfalse hb8))) ?_
  refine wp_skip ?_
  refine hK6 _ _ ?_
  refine wp_seq_k fun K10 hK10 => ?_
  refine reg ?_
  refine q_val F rfl rfl (by decide) (r_move F rfl) fun a F => ?_
  replace H := bind_some H
  obtain ⟨ob11, e12, H⟩ := H
  have z13 := h3
  rw [e12] at z13
  obtain ⟨ad14, p16, rfl, hat15, h17⟩ := TB.some z13
  refine q_val F rfl rfl (by decide) (r_nil F rfl) fun a F => ?_
  refine q_val F rfl rfl (by decide) (r_fieldAddr F rfl ff_82_1) fun a F => ?_
  refine q_val F rfl rfl (by decide) (r_load F rfl ag_3 (AT.cell hat15 rfl)) fun a F => ?_
  refine q_val F rfl rfl (by decide) (r_assign F rfl) fun a F => ?_
  refine nil ?_
  refine hK10 _ _ ?_
  refine wp_ret ?_
  replace H := Option.some.inj H
  subst H
  refine out1 F rfl rfl ?_
  exact ⟨fun b_ => (fun x_ => if x_ < m then x_ else 0) (c0 b_), rfl, E.leave B0 (fun x_ => if x_ < m then x_ else 0) (by intro x_ hx_; show (if x_ < m then x_ else 0) = x_; ((repeat' split) <;> omega)), (fun b_ hb_ => by show (if (c0 b_) < m then (c0 b_) else 0) < m; ((repeat' split) <;> omega))⟩
end Go.Proofs.Ythankpjbfpcldaa.G
namespace Go.Proofs.Ythankpjbfpcldaa.G
open Go Go.RowKit
set_option linter.unusedVariables false
set_option linter.unusedSimpArgs false
set_option maxRecDepth 100000 in
set_option maxHeartbeats 4000000 in
theorem shard_Shard_Rev.calls {m : Nat} {c0 : Nat → Nat} {w0 : World} {j4 : Nat} {j5 : Nat} {p2 : Option Addr} {a1 : Option Sha} (hm0 : 0 < m) (B0 : CB m c0 w0) (h3 : SH j4 j5 c0 w0 p2 a1) (bj4 : j4 < m) (bj5 : j5 < m ∧ j5 ≠ j4) (r : Int) (H : shard_Shard_Rev.f a1 = some r) : Calls Try.prog 17 #[.pointer p2] w0 (fun e w_ => ∃ (c_ : Nat → Nat), e = .returned (.int .i64 r) ∧ Ev (fun x => False) c0 w0 c_ w_ ∧ CB m c_ w_) := by
 unfold shard_Shard_Rev.f at H
 have B := B0.mono (show m ≤ m + 1 by omega)
 have E : Ev (fun x => False ∨ m ≤ x) c0 w0 c0 w0 := Ev.refl
 refine enter (N := 10) (l := [.pointer p2]) Try.func17 rfl rfl (Nat.le_of_ble_eq_true rfl) fun a F => ?_
 refine wp_seq_k fun K6 hK6 => ?_
 refine reg ?_
 refine q_val F rfl rfl (by decide) (r_assign F rfl) fun a F => ?_
 refine nil ?_
 refine hK6 _ _ ?_
 refine wp_seq_k fun K7 hK7 => ?_
 refine wp_seq_k fun K8 hK8 => ?_
 refine reg ?_
 refine q_val F rfl rfl (by decide) (r_move F rfl) fun a F => ?_
 refine q_val F rfl rfl (by decide) (r_peqlA F Try.underlying24 rfl rfl (SH.isNone h3)) fun a F => ?_
 refine nil ?_
 refine hK8 _ _ ?_
 by_cases hb9 : (Option.isNone a1) = true
 ·replace H := (if_pos hb9).symm.trans H
  refine wp_cond_true ((F.ev rfl).trans (congrArg Value.bool hb9)) ?_
  refine wp_seq_k fun K10 hK10 => ?_
  refine reg ?_
  refine q_val F rfl rfl (by decide) (r_assign F rfl) fun a F => ?_
  refine nil ?_
  refine hK10 _ _ ?_
  refine wp_ret ?_
  refine thenR ?_
  replace H := Option.some.inj H
  subst H
  refine out1 F rfl rfl ?_
  exact ⟨fun b_ => (fun x_ => if x_ < m then x_ else 0) (c0 b_), rfl, E.leave B0 (fun x_ => if x_ < m then x_ else 0) (by intro x_ hx_; show (if x_ < m then x_ else 0) = x_; ((repeat' split) <;> omega)), (fun b_ hb_ => by show (if (c0 b_) < m then (c0 b_) else 0) < m; ((repeat' split) <;> omega))⟩
 ·replace H := (if_neg hb9).symm.trans H
  refine wp_cond_false ((F.ev rfl).trans (congrArg Value.bool (bfalse hb9))) ?_
  refine wp_skip ?_
  refine hK7 _ _ ?_
  refine wp_seq_k fun K11 hK11 => ?_
  refine reg ?_
  refine q_val F rfl rfl (by decide) (r_move F rfl) fun a F => ?_
  replace H := bind_some H
  obtain ⟨ob12, e13, H⟩ := H
  have z14 := h3
  rw [e13] at z14
  obtain ⟨ad15, p17, cs19, rfl, hat16, h18, h20⟩ := SH.some z14
  refine q_val F rfl rfl (by decide) (r_nil F rfl) fun a F => ?_
  refine q_val F rfl rfl (by decide) (r_fieldAddr F rfl ff_76_0) fun a F => ?_
  refine q_val F rfl rfl (by decide) (r_load F rfl ag_26 (AT.cell hat16 rfl)) fun a F => ?_
  replace H := bind_some H
  obtain ⟨t22, q23, H⟩ := H
  refine q_call F rfl rfl (by decide) (r_call F Try.func18 rfl (by kernel_rfl) rfl) (table_Table_Rev.calls (m := m + 1) (Nat.add_pos_left hm0 _) B h18 (Nat.lt_add_right _ bj5.1) _ q23) ?_
  rintro e w25 ⟨c24, rfl, E26, B27⟩
  refine ⟨_, rfl, fun a F => ?_⟩
  have B := B27
  replace h3 := SH.ev h3 E26 (fun q => q.elim) (fun q => q.elim) (fun q => q.elim)
  replace h18 := TB.ev h18 E26 (fun q => q.elim) (fun q => q.elim)
  replace h20 := AR.ev h20 E26 (fun q => q.elim)
  replace hat16 := AT.ev hat16 E26 (fun q => q.elim)
  replace E := E.trans E26 (fun x q => q.elim)
  refine q_val F rfl rfl (by decide) (r_assign F rfl) fun a F => ?_
  refine nil ?_
  refine hK11 _ _ ?_
  replace F : Fr a 10 [(2, .int .i64 t22)] := F.sub ⟨rfl, trivial⟩
  refine wp_ret ?_
  replace H := Option.some.inj H
  subst H
  refine out1 F rfl rfl ?_
  exact ⟨fun b_ => (fun x_ => if x_ < m then x_ else 0) (c24 b_), rfl, E.leave B0 (fun x_ => if x_ < m then x_ else 0) (by intro x_ hx_; show (if x_ < m then x_ else 0) = x_; ((repeat' split) <;> omega)), (fun b_ hb_ => by show (if (c24 b_) < m then (c24 b_) else 0) < m; ((repeat' split) <;> omega))⟩
end Go.Proofs.Ythankpjbfpcldaa.G
namespace Go.Proofs.Ythankpjbfpcldaa.G
open Go Go.RowKit
set_option linter.unusedVariables false
set_option linter.unusedSimpArgs false
set_option maxRecDepth 100000 in
set_option maxHeartbeats 4000000 in
theorem haulagelaw14_known.calls (k : Nat) {m : Nat} {c0 : Nat → Nat} {w0 : World} (hm0 : 0 < m) (B0 : CB m c0 w0) (r : Bool) (H : haulagelaw14_known.f k = some r) : Calls Try.prog 6 #[] w0 (fun e w_ => ∃ (c_ : Nat → Nat), e = .returned (.bool r) ∧ Ev (fun x => False) c0 w0 c_ w_ ∧ CB m c_ w_) := by
 unfold haulagelaw14_known.f at H
 have B := B0.mono (show m ≤ m + 8 by omega)
 have E : Ev (fun x => False ∨ m ≤ x) c0 w0 c0 w0 := Ev.refl
 refine enter (N := 122) (l := []) Try.func6 rfl rfl (Nat.le_of_ble_eq_true rfl) fun a F => ?_
 refine wp_seq_k fun K1 hK1 => ?_
 refine reg ?_
 refine q_val F rfl rfl (by decide) (r_assign F rfl) fun a F => ?_
 refine nil ?_
 refine hK1 _ _ ?_
 refine wp_seq_k fun K2 hK2 => ?_
 refine reg ?_
 replace H := bind_some H
 obtain ⟨t3, q4, H⟩ := H
 refine q_call F rfl rfl (by decide) (r_call F Try.func7 rfl (by kernel_rfl) rfl) (shard_New.calls (m := m + 8) (Nat.add_pos_left hm0 _) B (m + 1) (Nat.add_lt_add_left (by decide) m) (m + 2) (Nat.add_lt_add_left (by decide) m) _ q4) ?_
 rintro e w6 ⟨c5, p9, rfl, E7, B8, h10⟩
 refine ⟨_, rfl, fun a F => ?_⟩
 have B := B8
 replace E := E.trans E7 (fun x q => q.elim)
 refine q_val F rfl rfl (by decide) (r_assign F rfl) fun a F => ?_
 refine nil ?_
 refine hK2 _ _ ?_
 refine wp_seq_k fun K12 hK12 => ?_
 refine wp_seq_k fun K13 hK13 => ?_
 have J48 : ∀ (c49 : Nat → Nat) (w50 : World) (a : Act) (b47 : Bool), Fr a 122 [(1, .pointer p9), (25, .bool b47)] → Ev (fun x => False ∨ m ≤ x) c0 w0 c49 w50 → CB (m + 8) c49 w50 → SH (m + 1) (m + 2) c49 w50 p9 t3 → haulagelaw14_known.j1 k t3 b47 = some r → K13 a w50 := by
  intro c49 w50 a b47 F E B h10 H
  unfold haulagelaw14_known.j1 at H
  refine hK13 _ _ ?_
  by_cases hb51 : b47 = true
  ·replace H := (if_pos hb51).symm.trans H
   refine wp_cond_true ((F.ev rfl).trans (congrArg Value.bool hb51)) ?_
   refine wp_seq_k fun K52 hK52 => ?_
   refine reg ?_
   refine q_val F rfl rfl (by decide) (r_assign F rfl) fun a F => ?_
   refine nil ?_
   refine hK52 _ _ ?_
   refine wp_ret ?_
   refine thenR ?_
   replace H := Option.some.inj H
   subst H
   refine out1 F rfl rfl ?_
   exact ⟨fun b_ => (fun x_ => if x_ < m then x_ else 0) (c49 b_), rfl, E.leave B0 (fun x_ => if x_ < m then x_ else 0) (by intro x_ hx_; show (if x_ < m then x_ else 0) = x_; ((repeat' split) <;> omega)), (fun b_ hb_ => by show (if (c49 b_) < m then (c49 b_) else 0) < m; ((repeat' split) <;> omega))⟩
  ·replace H := (if_neg hb51).symm.trans H
   refine wp_cond_false ((F.ev rfl).trans (congrArg Value.bool (bfalse hb51))) ?_
   refine wp_skip ?_
   refine hK12 _ _ ?_
   refine wp_seq_k fun K53 hK53 => ?_
   refine reg ?_
   refine q_val F rfl rfl (by decide) (r_move F rfl) fun a F => ?_
   replace H := bind_some H
   obtain ⟨t54, q55, H⟩ := H
   refine q_call F rfl rfl (by decide) (r_call F Try.func33 rfl (by kernel_rfl) rfl) (haulagelaw14_put.calls (m := m + 8) (Nat.add_pos_left hm0 _) B _ q55) ?_
   rintro e w57 ⟨c56, A60, C61, A63, C64, rfl, E58, B59, h62, h65⟩
   refine ⟨_, rfl, fun a F => ?_⟩
   have B := B59
   replace h10 := SH.ev h10 E58 (fun q => q.elim) (fun q => q.elim) (fun q => q.elim)
   replace E := E.trans E58 (fun x q => q.elim)
   replace H := bind_some H
   obtain ⟨t67, q68, H⟩ := H
   refine q_call F rfl rfl (by decide) (r_call F Try.func10 rfl (by kernel_rfl) rfl) (shard_Shard_Do.calls k (m := m + 8) (Nat.add_pos_left hm0 _) B h10 h62 h65 ⟨(Nat.add_pos_left hm0 _), (Nat.add_lt_add_left (by decide) m)⟩ ⟨(Nat.add_pos_left hm0 _), (Nat.add_lt_add_left (by decide) m), (ne_mm (by decide))⟩ _ q68) ?_
   rintro e w70 ⟨c69, A73, C74, A76, C77, rfl, E71, B72, h75, h78, h79⟩
   refine ⟨_, rfl, fun a F => ?_⟩
   have B := B72
   replace h62 := SL.ev h62 E71 (nor ne_zm ne_zm) (nor ne_zm ne_zm)
   replace h65 := SL.ev h65 E71 (nor ne_zm ne_zm) (nor ne_zm ne_zm)
   replace E := E.trans E71 (fun x (q : x = m + 1 ∨ x = m + 2) => q.elim (fun q => Or.inr (le_col q)) (fun q => Or.inr (le_col q)))
   refine q_val F rfl rfl (by decide) (r_move F rfl) fun a F => ?_
   refine q_val F rfl rfl (by decide) (r_extract F rfl rfl) fun a F => ?_
   refine q_val F rfl rfl (by decide) (r_extract F rfl rfl) fun a F => ?_
   refine q_val F rfl rfl (by decide) (r_extract F rfl rfl) fun a F => ?_
   refine q_eff F rfl rfl (by decide) (e_alloc F zv_34 c69 (m + 3)) ?_
   rintro v w82 a ⟨c81, qa83, rfl, E84, h85, B86⟩ F
   replace B := B86 _ B (Nat.add_lt_add_left (by decide) m)
   replace h62 := SL.ev h62 E84 (fun q => q.elim) (fun q => q.elim)
   replace h65 := SL.ev h65 E84 (fun q => q.elim) (fun q => q.elim)
   replace h75 := SL.ev h75 E84 (fun q => q.elim) (fun q => q.elim)
   replace h78 := SL.ev h78 E84 (fun q => q.elim) (fun q => q.elim)
   replace h79 := SH.ev h79 E84 (fun q => q.elim) (fun q => q.elim) (fun q => q.elim)
   replace E := E.trans E84 (fun x q => q.elim)
   replace h85 : AT true (m + 3) c81 w82 qa83 [.bool false, .slice none 0 0, .slice none 0 0, .int .i64 0, .int .i64 0] := h85
   refine q_eff0 F rfl rfl (e_storeN0 (us := [.bool t67.1.Done, .slice A73 t67.1.Key.length C74, .slice A76 t67.1.Value.length C77, .int .i64 t67.1.Rev, .int .i64 t67.1.At]) F rfl rfl sz_34 h85 (Nat.le_of_ble_eq_true rfl) (one_all rfl)) ?_
   rintro w88 a ⟨E89, h85, Z90⟩ F
   replace B := B.size Z90
   replace h62 := SL.ev h62 E89 ne_zm ne_zm
   replace h65 := SL.ev h65 E89 ne_zm ne_zm
   replace h75 := SL.ev h75 E89 ne_zm ne_zm
   replace h78 := SL.ev h78 E89 ne_zm ne_zm
   replace h79 := SH.ev h79 E89 (ne_mm (by decide)) (ne_mm (by decide)) ne_zm
   replace E := E.trans E89 (fun x (q : x = m + 3) => Or.inr (le_col q))
   replace h85 : AT true (m + 3) c81 w88 qa83 [.bool t67.1.Done, .slice A73 t67.1.Key.length C74, .slice A76 t67.1.Value.length C77, .int .i64 t67.1.Rev, .int .i64 t67.1.At] := h85
   refine q_val F rfl rfl (by decide) (r_assign F rfl) fun a F => ?_
   refine q_val F rfl rfl (by decide) (r_assign F rfl) fun a F => ?_
   refine nil ?_
   refine hK53 _ _ ?_
   replace F : Fr a 122 [(1, .pointer p9), (2, .pointer (some qa83)), (3, .bool t67.2.1), (4, .int .i64 t67.2.2.1)] := F.sub ⟨rfl, rfl, rfl, rfl, trivial⟩
   refine wp_seq_k fun K91 hK91 => ?_
   refine reg ?_
   refine q_val F rfl rfl (by decide) (r_move F rfl) fun a F => ?_
   replace H := bind_some H
   obtain ⟨t92, q93, H⟩ := H
   refine q_call F rfl rfl (by decide) (r_call F Try.func33 rfl (by kernel_rfl) rfl) (haulagelaw14_put.calls (m := m + 8) (Nat.add_pos_left hm0 _) B _ q93) ?_
   rintro e w95 ⟨c94, A98, C99, A101, C102, rfl, E96, B97, h100, h103⟩
   refine ⟨_, rfl, fun a F => ?_⟩
   have B := B97
   replace h62 := SL.ev h62 E96 (fun q => q.elim) (fun q => q.elim)
   replace h65 := SL.ev h65 E96 (fun q => q.elim) (fun q => q.elim)
   replace h75 := SL.ev h75 E96 (fun q => q.elim) (fun q => q.elim)
   replace h78 := SL.ev h78 E96 (fun q => q.elim) (fun q => q.elim)
   replace h79 := SH.ev h79 E96 (fun q => q.elim) (fun q => q.elim) (fun q => q.elim)
   replace h85 := AT.ev h85 E96 (fun q => q.elim)
   replace E := E.trans E96 (fun x q => q.elim)
   replace H := bind_some H
   obtain ⟨t105, q106, H⟩ := H
   refine q_call F rfl rfl (by decide) (r_call F Try.func10 rfl (by kernel_rfl) rfl) (shard_Shard_Do.calls k (m := m + 8) (Nat.add_pos_left hm0 _) B h79 h100 h103 ⟨(Nat.add_pos_left hm0 _), (Nat.add_lt_add_left (by decide) m)⟩ ⟨(Nat.add_pos_left hm0 _), (Nat.add_lt_add_left (by decide) m), (ne_mm (by decide))⟩ _ q106) ?_
   rintro e w108 ⟨c107, A111, C112, A114, C115, rfl, E109, B110, h113, h116, h117⟩
   refine ⟨_, rfl, fun a F => ?_⟩
   have B := B110
   replace h62 := SL.ev h62 E109 (nor ne_zm ne_zm) (nor ne_zm ne_zm)
   replace h65 := SL.ev h65 E109 (nor ne_zm ne_zm) (nor ne_zm ne_zm)
   replace h75 := SL.ev h75 E109 (nor ne_zm ne_zm) (nor ne_zm ne_zm)
   replace h78 := SL.ev h78 E109 (nor ne_zm ne_zm) (nor ne_zm ne_zm)
   replace h85 := AT.ev h85 E109 (nor (ne_mm (by decide)) (ne_mm (by decide)))
   replace h100 := SL.ev h100 E109 (nor ne_zm ne_zm) (nor ne_zm ne_zm)
   replace h103 := SL.ev h103 E109 (nor ne_zm ne_zm) (nor ne_zm ne_zm)
   replace E := E.trans E109 (fun x (q : x = m + 1 ∨ x = m + 2) => q.elim (fun q => Or.inr (le_col q)) (fun q => Or.inr (le_col q)))
   refine q_val F rfl rfl (by decide) (r_move F rfl) fun a F => ?_
   refine q_val F rfl rfl (by decide) (r_extract F rfl rfl) fun a F => ?_
   refine q_val F rfl rfl (by decide) (r_extract F rfl rfl) fun a F => ?_
   refine q_val F rfl rfl (by decide) (r_extract F rfl rfl) fun a F => ?_
   refine q_eff F rfl rfl (by decide) (e_alloc F zv_34 c107 (m + 4)) ?_
   rintro v w120 a ⟨c119, qa121, rfl, E122, h123, B124⟩ F
   replace B := B124 _ B (Nat.add_lt_add_left (by decide) m)
   replace h62 := SL.ev h62 E122 (fun q => q.elim) (fun q => q.elim)
   replace h65 := SL.ev h65 E122 (fun q => q.elim) (fun q => q.elim)
   replace h75 := SL.ev h75 E122 (fun q => q.elim) (fun q => q.elim)
   replace h78 := SL.ev h78 E122 (fun q => q.elim) (fun q => q.elim)
   replace h85 := AT.ev h85 E122 (fun q => q.elim)
   replace h100 := SL.ev h100 E122 (fun q => q.elim) (fun q => q.elim)
   replace h103 := SL.ev h103 E122 (fun q => q.elim) (fun q => q.elim)
   replace h113 := SL.ev h113 E122 (fun q => q.elim) (fun q => q.elim)
   replace h116 := SL.ev h116 E122 (fun q => q.elim) (fun q => q.elim)
   replace h117 := SH.ev h117 E122 (fun q => q.elim) (fun q => q.elim) (fun q => q.elim)
   replace E := E.trans E122 (fun x q => q.elim)
   replace h123 : AT true (m + 4) c119 w120 qa121 [.bool false, .slice none 0 0, .slice none 0 0, .int .i64 0, .int .i64 0] := h123
   refine q_eff0 F rfl rfl (e_storeN0 (us := [.bool t105.1.Done, .slice A111 t105.1.Key.length C112, .slice A114 t105.1.Value.length C115, .int .i64 t105.1.Rev, .int .i64 t105.1.At]) F rfl rfl sz_34 h123 (Nat.le_of_ble_eq_true rfl) (one_all rfl)) ?_
   rintro w126 a ⟨E127, h123, Z128⟩ F
   replace B := B.size Z128
   replace h62 := SL.ev h62 E127 ne_zm ne_zm
   replace h65 := SL.ev h65 E127 ne_zm ne_zm
   replace h75 := SL.ev h75 E127 ne_zm ne_zm
   replace h78 := SL.ev h78 E127 ne_zm ne_zm
   replace h85 := AT.ev h85 E127 (ne_mm (by decide))
   replace h100 := SL.ev h100 E127 ne_zm ne_zm
   replace h103 := SL.ev h103 E127 ne_zm ne_zm
   replace h113 := SL.ev h113 E127 ne_zm ne_zm
   replace h116 := SL.ev h116 E127 ne_zm ne_zm
   replace h117 := SH.ev h117 E127 (ne_mm (by decide)) (ne_mm (by decide)) ne_zm
   replace E := E.trans E127 (fun x (q : x = m + 4) => Or.inr (le_col q))
   replace h123 : AT true (m + 4) c119 w126 qa121 [.bool t105.1.Done, .slice A111 t105.1.Key.length C112, .slice A114 t105.1.Value.length C115, .int .i64 t105.1.Rev, .int .i64 t105.1.At] := h123
   refine q_val F rfl rfl (by decide) (r_assign F rfl) fun a F => ?_
   refine q_val F rfl rfl (by decide) (r_assign F rfl) fun a F => ?_
   refine nil ?_
   refine hK91 _ _ ?_
   refine wp_seq_k fun K129 hK129 => ?_
   refine reg ?_
   refine q_val F rfl rfl (by decide) (r_move F rfl) fun a F => ?_
   replace H := bind_some H
   obtain ⟨t130, q131, H⟩ := H
   refine q_call F rfl rfl (by decide) (r_call F Try.func34 rfl (by kernel_rfl) rfl) (haulagelaw14_get.calls (m := m + 8) (Nat.add_pos_left hm0 _) B 0 (Nat.add_pos_left hm0 _) _ q131) ?_
   rintro e w133 ⟨c132, A136, C137, A139, C140, rfl, E134, B135, h138, h141⟩
   refine ⟨_, rfl, fun a F => ?_⟩
   have B := B135
   replace h62 := SL.ev h62 E134 (fun q => q.elim) (fun q => q.elim)
   replace h65 := SL.ev h65 E134 (fun q => q.elim) (fun q => q.elim)
   replace h75 := SL.ev h75 E134 (fun q => q.elim) (fun q => q.elim)
   replace h78 := SL.ev h78 E134 (fun q => q.elim) (fun q => q.elim)
   replace h85 := AT.ev h85 E134 (fun q => q.elim)
   replace h100 := SL.ev h100 E134 (fun q => q.elim) (fun q => q.elim)
   replace h103 := SL.ev h103 E134 (fun q => q.elim) (fun q => q.elim)
   replace h113 := SL.ev h113 E134 (fun q => q.elim) (fun q => q.elim)
   replace h116 := SL.ev h116 E134 (fun q => q.elim) (fun q => q.elim)
   replace h117 := SH.ev h117 E134 (fun q => q.elim) (fun q => q.elim) (fun q => q.elim)
   replace h123 := AT.ev h123 E134 (fun q => q.elim)
   replace E := E.trans E134 (fun x q => q.elim)
   replace H := bind_some H
   obtain ⟨t143, q144, H⟩ := H
   refine q_call F rfl rfl (by decide) (r_call F Try.func10 rfl (by kernel_rfl) rfl) (shard_Shard_Do.calls k (m := m + 8) (Nat.add_pos_left hm0 _) B h117 h138 h141.r ⟨(Nat.add_pos_left hm0 _), (Nat.add_lt_add_left (by decide) m)⟩ ⟨(Nat.add_pos_left hm0 _), (Nat.add_lt_add_left (by decide) m), (ne_mm (by decide))⟩ _ q144) ?_
   rintro e w146 ⟨c145, A149, C150, A152, C153, rfl, E147, B148, h151, h154, h155⟩
   refine ⟨_, rfl, fun a F => ?_⟩
   have B := B148
   replace h62 := SL.ev h62 E147 (nor ne_zm ne_zm) (nor ne_zm ne_zm)
   replace h65 := SL.ev h65 E147 (nor ne_zm ne_zm) (nor ne_zm ne_zm)
   replace h75 := SL.ev h75 E147 (nor ne_zm ne_zm) (nor ne_zm ne_zm)
   replace h78 := SL.ev h78 E147 (nor ne_zm ne_zm) (nor ne_zm ne_zm)
   replace h85 := AT.ev h85 E147 (nor (ne_mm (by decide)) (ne_mm (by decide)))
   replace h100 := SL.ev h100 E147 (nor ne_zm ne_zm) (nor ne_zm ne_zm)
   replace h103 := SL.ev h103 E147 (nor ne_zm ne_zm) (nor ne_zm ne_zm)
   replace h113 := SL.ev h113 E147 (nor ne_zm ne_zm) (nor ne_zm ne_zm)
   replace h116 := SL.ev h116 E147 (nor ne_zm ne_zm) (nor ne_zm ne_zm)
   replace h123 := AT.ev h123 E147 (nor (ne_mm (by decide)) (ne_mm (by decide)))
   replace h138 := SL.ev h138 E147 (nor ne_zm ne_zm) (nor ne_zm ne_zm)
   replace h141 := SL.ev h141 E147 (nor ne_zm ne_zm) (nor ne_zm ne_zm)
   replace E := E.trans E147 (fun x (q : x = m + 1 ∨ x = m + 2) => q.elim (fun q => Or.inr (le_col q)) (fun q => Or.inr (le_col q)))
   refine q_val F rfl rfl (by decide) (r_move F rfl) fun a F => ?_
   refine q_val F rfl rfl (by decide) (r_extract F rfl rfl) fun a F => ?_
   refine q_val F rfl rfl (by decide) (r_extract F rfl rfl) fun a F => ?_
   refine q_val F rfl rfl (by decide) (r_extract F rfl rfl) fun a F => ?_
   refine q_eff F rfl rfl (by decide) (e_alloc F zv_34 c145 (m + 5)) ?_
   rintro v w158 a ⟨c157, qa159, rfl, E160, h161, B162⟩ F
   replace B := B162 _ B (Nat.add_lt_add_left (by decide) m)
   replace h62 := SL.ev h62 E160 (fun q => q.elim) (fun q => q.elim)
   replace h65 := SL.ev h65 E160 (fun q => q.elim) (fun q => q.elim)
   replace h75 := SL.ev h75 E160 (fun q => q.elim) (fun q => q.elim)
   replace h78 := SL.ev h78 E160 (fun q => q.elim) (fun q => q.elim)
   replace h85 := AT.ev h85 E160 (fun q => q.elim)
   replace h100 := SL.ev h100 E160 (fun q => q.elim) (fun q => q.elim)
   replace h103 := SL.ev h103 E160 (fun q => q.elim) (fun q => q.elim)
   replace h113 := SL.ev h113 E160 (fun q => q.elim) (fun q => q.elim)
   replace h116 := SL.ev h116 E160 (fun q => q.elim) (fun q => q.elim)
   replace h123 := AT.ev h123 E160 (fun q => q.elim)
   replace h138 := SL.ev h138 E160 (fun q => q.elim) (fun q => q.elim)
   replace h141 := SL.ev h141 E160 (fun q => q.elim) (fun q => q.elim)
   replace h151 := SL.ev h151 E160 (fun q => q.elim) (fun q => q.elim)
   replace h154 := SL.ev h154 E160 (fun q => q.elim) (fun q => q.elim)
   replace h155 := SH.ev h155 E160 (fun q => q.elim) (fun q => q.elim) (fun q => q.elim)
   replace E := E.trans E160 (fun x q => q.elim)
   replace h161 : AT true (m + 5) c157 w158 qa159 [.bool false, .slice none 0 0, .slice none 0 0, .int .i64 0, .int .i64 0] := h161
   refine q_eff0 F rfl rfl (e_storeN0 (us := [.bool t143.1.Done, .slice A149 t143.1.Key.length C150, .slice A152 t143.1.Value.length C153, .int .i64 t143.1.Rev, .int .i64 t143.1.At]) F rfl rfl sz_34 h161 (Nat.le_of_ble_eq_true rfl) (one_all rfl)) ?_
   rintro w164 a ⟨E165, h161, Z166⟩ F
   replace B := B.size Z166
   replace h62 := SL.ev h62 E165 ne_zm ne_zm
   replace h65 := SL.ev h65 E165 ne_zm ne_zm
   replace h75 := SL.ev h75 E165 ne_zm ne_zm
   replace h78 := SL.ev h78 E165 ne_zm ne_zm
   replace h85 := AT.ev h85 E165 (ne_mm (by decide))
   replace h100 := SL.ev h100 E165 ne_zm ne_zm
   replace h103 := SL.ev h103 E165 ne_zm ne_zm
   replace h113 := SL.ev h113 E165 ne_zm ne_zm
   replace h116 := SL.ev h116 E165 ne_zm ne_zm
   replace h123 := AT.ev h123 E165 (ne_mm (by decide))
   replace h138 := SL.ev h138 E165 ne_zm ne_zm
   replace h141 := SL.ev h141 E165 ne_zm ne_zm
   replace h151 := SL.ev h151 E165 ne_zm ne_zm
   replace h154 := SL.ev h154 E165 ne_zm ne_zm
   replace h155 := SH.ev h155 E165 (ne_mm (by decide)) (ne_mm (by decide)) ne_zm
   replace E := E.trans E165 (fun x (q : x = m + 5) => Or.inr (le_col q))
   replace h161 : AT true (m + 5) c157 w164 qa159 [.bool t143.1.Done, .slice A149 t143.1.Key.length C150, .slice A152 t143.1.Value.length C153, .int .i64 t143.1.Rev, .int .i64 t143.1.At] := h161
   refine q_val F rfl rfl (by decide) (r_assign F rfl) fun a F => ?_
   refine q_val F rfl rfl (by decide) (r_assign F rfl) fun a F => ?_
   refine nil ?_
   refine hK129 _ _ ?_
   replace F : Fr a 122 [(1, .pointer p9), (2, .pointer (some qa83)), (3, .bool t67.2.1), (4, .int .i64 t67.2.2.1), (5, .pointer (some qa121)), (6, .bool t105.2.1), (7, .int .i64 t105.2.2.1), (8, .pointer (some qa159)), (9, .bool t143.2.1), (10, .int .i64 t143.2.2.1)] := F.sub ⟨rfl, rfl, rfl, rfl, rfl, rfl, rfl, rfl, rfl, rfl, trivial⟩
   refine wp_seq_k fun K167 hK167 => ?_
   refine wp_seq_k fun K168 hK168 => ?_
   have J206 : ∀ (c207 : Nat → Nat) (w208 : World) (a : Act) (b205 : Bool), Fr a 122 [(1, .pointer p9), (8, .pointer (some qa159)), (85, .bool b205)] → Ev (fun x => False ∨ m ≤ x) c0 w0 c207 w208 → CB (m + 8) c207 w208 → AT true (m + 5) c207 w208 qa159 [.bool t143.1.Done, .slice A149 t143.1.Key.length C150, .slice A152 t143.1.Value.length C153, .int .i64 t143.1.Rev, .int .i64 t143.1.At] → SH (m + 1) (m + 2) c207 w208 p9 t143.2.2.2 → SL false (Kint .u8) 0 0 c207 w208 A149 C150 t143.1.Key → SL false (Kint .u8) 0 0 c207 w208 A152 C153 t143.1.Value → haulagelaw14_known.j2 k t143 b205 = some r → K168 a w208 := by
    intro c207 w208 a b205 F E B h161 h155 h151 h154 H
    unfold haulagelaw14_known.j2 at H
    refine hK168 _ _ ?_
    by_cases hb209 : b205 = true
    ·replace H := (if_pos hb209).symm.trans H
     refine wp_cond_true ((F.ev rfl).trans (congrArg Value.bool hb209)) ?_
     refine wp_seq_k fun K210 hK210 => ?_
     refine reg ?_
     refine q_val F rfl rfl (by decide) (r_assign F rfl) fun a F => ?_
     refine nil ?_
     refine hK210 _ _ ?_
     refine wp_ret ?_
     refine thenR ?_
     replace H := Option.some.inj H
     subst H
     refine out1 F rfl rfl ?_
     exact ⟨fun b_ => (fun x_ => if x_ < m then x_ else 0) (c207 b_), rfl, E.leave B0 (fun x_ => if x_ < m then x_ else 0) (by intro x_ hx_; show (if x_ < m then x_ else 0) = x_; ((repeat' split) <;> omega)), (fun b_ hb_ => by show (if (c207 b_) < m then (c207 b_) else 0) < m; ((repeat' split) <;> omega))⟩
    ·replace H := (if_neg hb209).symm.trans H
     refine wp_cond_false ((F.ev rfl).trans (congrArg Value.bool (bfalse hb209))) ?_
     refine wp_skip ?_
     refine hK167 _ _ ?_
     refine wp_seq_k fun K211 hK211 => ?_
     refine reg ?_
     refine q_val F rfl rfl (by decide) (r_fieldAddr F rfl ff_34_0) fun a F => ?_
     refine q_val F rfl rfl (by decide) (r_load F rfl ag_4 (AT.cell h161 rfl)) fun a F => ?_
     refine q_val F rfl rfl (by decide) (r_move F rfl) fun a F => ?_
     by_cases hb212 : t143.1.Done = true
     ·replace H := (if_pos hb212).symm.trans H
      refine q_yes F rfl (by decide) rfl hb212 ?_
      refine q_val F rfl rfl (by decide) (r_fieldAddr F rfl ff_34_1) fun a F => ?_
      refine q_yes F rfl (by decide) rfl hb212 ?_
      refine q_val F rfl rfl (by decide) (r_load F rfl ag_28 (AT.cell h161 rfl)) fun a F => ?_
      refine q_yes F rfl (by decide) rfl hb212 ?_
      refine q_eff F rfl rfl (by decide) (e_buildSliceF (n := 1) (e := 5) (c := c207) (k := (Kint .u8)) (i := 0) F [(0, .int .u8 97)] [.int .u8 97] ([97] : List Int) (by exact ⟨rfl, rfl, trivial⟩) (fun w => by kernel_rfl) rfl (by decide) rfl ⟨rfl, trivial⟩ (fun q => q) (m + 6)) ?_
      rintro v w215 a ⟨c214, A216, C217, rfl, E218, h219, B220, hf213⟩ F
      replace B := B220 _ B (Nat.add_lt_add_left (by decide) m)
      replace h161 := AT.ev h161 E218 (fun q => q.elim)
      replace h155 := SH.ev h155 E218 (fun q => q.elim) (fun q => q.elim) (fun q => q.elim)
      replace h151 := SL.ev h151 E218 (fun q => q.elim) (fun q => q.elim)
      replace h154 := SL.ev h154 E218 (fun q => q.elim) (fun q => q.elim)
      replace E := E.trans E218 (fun x q => q.elim)
      refine q_yes F rfl (by decide) rfl hb212 ?_
      refine q_eff F rfl rfl (by decide) (e_convb F Try.underlying28 Try.underlying5 rfl h219 hf213) ?_
      rintro v w221 a ⟨rfl, E222, h219, Z223⟩ F
      replace B := B.size Z223
      replace h161 := AT.ev h161 E222 (ne_mm (by decide))
      replace h155 := SH.ev h155 E222 (ne_mm (by decide)) (ne_mm (by decide)) ne_zm
      replace h151 := SL.ev h151 E222 ne_zm ne_zm
      replace h154 := SL.ev h154 E222 ne_zm ne_zm
      replace E := E.trans E222 (fun x (q : x = m + 6) => Or.inr (le_col q))
      obtain ⟨c224, hc224⟩ : ∃ c', c' = fun k => if c214 k = m + 6 then 0 else c214 k := ⟨_, rfl⟩
      replace h161 := AT.rc (c' := c224) (j' := m + 5) h161 (fun k_ hk_ => by rw [hc224]; show (if c214 k_ = m + 6 then 0 else c214 k_) = _; rw [hk_]; ((repeat' split) <;> omega))
      replace h155 := SH.rc (c' := c224) (j' := m + 1) (i' := m + 2) h155 (fun k_ hk_ => by rw [hc224]; show (if c214 k_ = m + 6 then 0 else c214 k_) = _; rw [hk_]; ((repeat' split) <;> omega)) (fun k_ hk_ => by rw [hc224]; show (if c214 k_ = m + 6 then 0 else c214 k_) = _; rw [hk_]; ((repeat' split) <;> omega)) (fun k_ hk_ => by rw [hc224]; show (if c214 k_ = m + 6 then 0 else c214 k_) = _; rw [hk_]; ((repeat' split) <;> omega))
      replace h151 := SL.rc (c' := c224) (j' := 0) (i' := 0) h151 (fun k_ hk_ => by rw [hc224]; show (if c214 k_ = m + 6 then 0 else c214 k_) = _; rw [hk_]; ((repeat' split) <;> omega)) (fun k_ hk_ => by rw [hc224]; show (if c214 k_ = m + 6 then 0 else c214 k_) = _; rw [hk_]; ((repeat' split) <;> omega))
      replace h154 := SL.rc (c' := c224) (j' := 0) (i' := 0) h154 (fun k_ hk_ => by rw [hc224]; show (if c214 k_ = m + 6 then 0 else c214 k_) = _; rw [hk_]; ((repeat' split) <;> omega)) (fun k_ hk_ => by rw [hc224]; show (if c214 k_ = m + 6 then 0 else c214 k_) = _; rw [hk_]; ((repeat' split) <;> omega))
      replace h219 := SL.rc (c' := c224) (j' := 0) (i' := 0) h219.r (fun k_ hk_ => by rw [hc224]; show (if c214 k_ = m + 6 then 0 else c214 k_) = _; rw [hk_]; ((repeat' split) <;> omega)) (fun k_ hk_ => by rw [hc224]; show (if c214 k_ = m + 6 then 0 else c214 k_) = _; rw [hk_]; ((repeat' split) <;> omega))
      have E : Ev (fun x => False ∨ m ≤ x) c0 w0 c224 w221 := by rw [hc224]; exact E.freeze B0 (by omega)
      have B : CB (m + 8) c224 w221 := by rw [hc224]; exact B.freeze (by omega)
      replace H := bind_some H
      obtain ⟨t225, q226, H⟩ := H
      refine q_yes F rfl (by decide) rfl hb212 ?_
      refine q_call F rfl rfl (by decide) (r_call F Try.func23 rfl (by kernel_rfl) rfl) (haulagelaw14_same.calls k (m := m + 8) (Nat.add_pos_left hm0 _) B h151 h219 _ q226) ?_
      rintro e w228 ⟨c227, rfl, E229, B230⟩
      refine ⟨_, rfl, fun a F => ?_⟩
      have B := B230
      replace h161 := AT.ev h161 E229 (fun q => q.elim)
      replace h155 := SH.ev h155 E229 (fun q => q.elim) (fun q => q.elim) (fun q => q.elim)
      replace h151 := SL.ev h151 E229 (fun q => q.elim) (fun q => q.elim)
      replace h154 := SL.ev h154 E229 (fun q => q.elim) (fun q => q.elim)
      replace h219 := SL.ev h219 E229 (fun q => q.elim) (fun q => q.elim)
      replace E := E.trans E229 (fun x q => q.elim)
      refine q_val F rfl rfl (by decide) (r_pick_t F rfl hb212 rfl) fun a F => ?_
      refine q_val F rfl rfl (by decide) (r_move F rfl) fun a F => ?_
      by_cases hb232 : t225 = true
      ·replace H := (if_pos hb232).symm.trans H
       refine q_yes F rfl (by decide) rfl hb232 ?_
       refine q_val F rfl rfl (by decide) (r_fieldAddr F rfl ff_34_2) fun a F => ?_
       refine q_yes F rfl (by decide) rfl hb232 ?_
       refine q_val F rfl rfl (by decide) (r_load F rfl ag_28 (AT.cell h161 rfl)) fun a F => ?_
       refine q_yes F rfl (by decide) rfl hb232 ?_
       refine q_eff F rfl rfl (by decide) (e_buildSliceF (n := 1) (e := 5) (c := c227) (k := (Kint .u8)) (i := 0) F [(0, .int .u8 49)] [.int .u8 49] ([49] : List Int) (by exact ⟨rfl, rfl, trivial⟩) (fun w => by kernel_rfl) rfl (by decide) rfl ⟨rfl, trivial⟩ (fun q => q) (m + 7)) ?_
       rintro v w235 a ⟨c234, A236, C237, rfl, E238, h239, B240, hf233⟩ F
       replace B := B240 _ B (Nat.add_lt_add_left (by decide) m)
       replace h161 := AT.ev h161 E238 (fun q => q.elim)
       replace h155 := SH.ev h155 E238 (fun q => q.elim) (fun q => q.elim) (fun q => q.elim)
       replace h151 := SL.ev h151 E238 (fun q => q.elim) (fun q => q.elim)
       replace h154 := SL.ev h154 E238 (fun q => q.elim) (fun q => q.elim)
       replace h219 := SL.ev h219 E238 (fun q => q.elim) (fun q => q.elim)
       replace E := E.trans E238 (fun x q => q.elim)
       refine q_yes F rfl (by decide) rfl hb232 ?_
       refine q_eff F rfl rfl (by decide) (e_convb F Try.underlying28 Try.underlying5 rfl h239 hf233) ?_
       rintro v w241 a ⟨rfl, E242, h239, Z243⟩ F
       replace B := B.size Z243
       replace h161 := AT.ev h161 E242 (ne_mm (by decide))
       replace h155 := SH.ev h155 E242 (ne_mm (by decide)) (ne_mm (by decide)) ne_zm
       replace h151 := SL.ev h151 E242 ne_zm ne_zm
       replace h154 := SL.ev h154 E242 ne_zm ne_zm
       replace h219 := SL.ev h219 E242 ne_zm ne_zm
       replace E := E.trans E242 (fun x (q : x = m + 7) => Or.inr (le_col q))
       obtain ⟨c244, hc244⟩ : ∃ c', c' = fun k => if c234 k = m + 7 then 0 else c234 k := ⟨_, rfl⟩
       replace h161 := AT.rc (c' := c244) (j' := m + 5) h161 (fun k_ hk_ => by rw [hc244]; show (if c234 k_ = m + 7 then 0 else c234 k_) = _; rw [hk_]; ((repeat' split) <;> omega))
       replace h155 := SH.rc (c' := c244) (j' := m + 1) (i' := m + 2) h155 (fun k_ hk_ => by rw [hc244]; show (if c234 k_ = m + 7 then 0 else c234 k_) = _; rw [hk_]; ((repeat' split) <;> omega)) (fun k_ hk_ => by rw [hc244]; show (if c234 k_ = m + 7 then 0 else c234 k_) = _; rw [hk_]; ((repeat' split) <;> omega)) (fun k_ hk_ => by rw [hc244]; show (if c234 k_ = m + 7 then 0 else c234 k_) = _; rw [hk_]; ((repeat' split) <;> omega))
       replace h151 := SL.rc (c' := c244) (j' := 0) (i' := 0) h151 (fun k_ hk_ => by rw [hc244]; show (if c234 k_ = m + 7 then 0 else c234 k_) = _; rw [hk_]; ((repeat' split) <;> omega)) (fun k_ hk_ => by rw [hc244]; show (if c234 k_ = m + 7 then 0 else c234 k_) = _; rw [hk_]; ((repeat' split) <;> omega))
       replace h154 := SL.rc (c' := c244) (j' := 0) (i' := 0) h154 (fun k_ hk_ => by rw [hc244]; show (if c234 k_ = m + 7 then 0 else c234 k_) = _; rw [hk_]; ((repeat' split) <;> omega)) (fun k_ hk_ => by rw [hc244]; show (if c234 k_ = m + 7 then 0 else c234 k_) = _; rw [hk_]; ((repeat' split) <;> omega))
       replace h219 := SL.rc (c' := c244) (j' := 0) (i' := 0) h219 (fun k_ hk_ => by rw [hc244]; show (if c234 k_ = m + 7 then 0 else c234 k_) = _; rw [hk_]; ((repeat' split) <;> omega)) (fun k_ hk_ => by rw [hc244]; show (if c234 k_ = m + 7 then 0 else c234 k_) = _; rw [hk_]; ((repeat' split) <;> omega))
       replace h239 := SL.rc (c' := c244) (j' := 0) (i' := 0) h239.r (fun k_ hk_ => by rw [hc244]; show (if c234 k_ = m + 7 then 0 else c234 k_) = _; rw [hk_]; ((repeat' split) <;> omega)) (fun k_ hk_ => by rw [hc244]; show (if c234 k_ = m + 7 then 0 else c234 k_) = _; rw [hk_]; ((repeat' split) <;> omega))
       have E : Ev (fun x => False ∨ m ≤ x) c0 w0 c244 w241 := by rw [hc244]; exact E.freeze B0 (by omega)
       have B : CB (m + 8) c244 w241 := by rw [hc244]; exact B.freeze (by omega)
       replace H := bind_some H
       obtain ⟨t245, q246, H⟩ := H
       refine q_yes F rfl (by decide) rfl hb232 ?_
       refine q_call F rfl rfl (by decide) (r_call F Try.func23 rfl (by kernel_rfl) rfl) (haulagelaw14_same.calls k (m := m + 8) (Nat.add_pos_left hm0 _) B h154 h239 _ q246) ?_
       rintro e w248 ⟨c247, rfl, E249, B250⟩
       refine ⟨_, rfl, fun a F => ?_⟩
       have B := B250
       replace h161 := AT.ev h161 E249 (fun q => q.elim)
       replace h155 := SH.ev h155 E249 (fun q => q.elim) (fun q => q.elim) (fun q => q.elim)
       replace h151 := SL.ev h151 E249 (fun q => q.elim) (fun q => q.elim)
       replace h154 := SL.ev h154 E249 (fun q => q.elim) (fun q => q.elim)
       replace h219 := SL.ev h219 E249 (fun q => q.elim) (fun q => q.elim)
       replace h239 := SL.ev h239 E249 (fun q => q.elim) (fun q => q.elim)
       replace E := E.trans E249 (fun x q => q.elim)
       refine q_val F rfl rfl (by decide) (r_pick_t F rfl hb232 rfl) fun a F => ?_
       refine q_val F rfl rfl (by decide) (r_move F rfl) fun a F => ?_
       by_cases hb252 : t245 = true
       ·replace H := (if_pos hb252).symm.trans H
        refine q_yes F rfl (by decide) rfl hb252 ?_
        refine q_val F rfl rfl (by decide) (r_fieldAddr F rfl ff_34_3) fun a F => ?_
        refine q_yes F rfl (by decide) rfl hb252 ?_
        refine q_val F rfl rfl (by decide) (r_load F rfl ag_3 (AT.cell h161 rfl)) fun a F => ?_
        refine q_yes F rfl (by decide) rfl hb252 ?_
        refine q_val F rfl rfl (by decide) (r_eql F rfl rfl) fun a F => ?_
        refine q_val F rfl rfl (by decide) (r_pick_t F rfl hb252 rfl) fun a F => ?_
        refine q_val F rfl rfl (by decide) (r_move F rfl) fun a F => ?_
        by_cases hb253 : t143.1.Rev = 1
        ·replace H := (if_pos hb253).symm.trans H
         refine q_yes F rfl (by decide) rfl (decide_eq_true hb253) ?_
         refine q_val F rfl rfl (by decide) (r_fieldAddr F rfl ff_34_4) fun a F => ?_
         refine q_yes F rfl (by decide) rfl (decide_eq_true hb253) ?_
         refine q_val F rfl rfl (by decide) (r_load F rfl ag_3 (AT.cell h161 rfl)) fun a F => ?_
         refine q_yes F rfl (by decide) rfl (decide_eq_true hb253) ?_
         refine q_val F rfl rfl (by decide) (r_eql F rfl rfl) fun a F => ?_
         refine q_val F rfl rfl (by decide) (r_pick_t F rfl (decide_eq_true hb253) rfl) fun a F => ?_
         refine q_val F rfl rfl (by decide) (r_move F rfl) fun a F => ?_
         by_cases hb254 : t143.1.At = 1
         ·replace H := (if_pos hb254).symm.trans H
          refine q_yes F rfl (by decide) rfl (decide_eq_true hb254) ?_
          refine q_val F rfl rfl (by decide) (r_move F rfl) fun a F => ?_
          replace H := bind_some H
          obtain ⟨t255, q256, H⟩ := H
          refine q_yes F rfl (by decide) rfl (decide_eq_true hb254) ?_
          refine q_call F rfl rfl (by decide) (r_call F Try.func17 rfl (by kernel_rfl) rfl) (shard_Shard_Rev.calls (m := m + 8) (Nat.add_pos_left hm0 _) B h155 (Nat.add_lt_add_left (by decide) m) ⟨(Nat.add_lt_add_left (by decide) m), (ne_mm (by decide))⟩ _ q256) ?_
          rintro e w258 ⟨c257, rfl, E259, B260⟩
          refine ⟨_, rfl, fun a F => ?_⟩
          have B := B260
          replace h161 := AT.ev h161 E259 (fun q => q.elim)
          replace h155 := SH.ev h155 E259 (fun q => q.elim) (fun q => q.elim) (fun q => q.elim)
          replace h151 := SL.ev h151 E259 (fun q => q.elim) (fun q => q.elim)
          replace h154 := SL.ev h154 E259 (fun q => q.elim) (fun q => q.elim)
          replace h219 := SL.ev h219 E259 (fun q => q.elim) (fun q => q.elim)
          replace h239 := SL.ev h239 E259 (fun q => q.elim) (fun q => q.elim)
          replace E := E.trans E259 (fun x q => q.elim)
          refine q_yes F rfl (by decide) rfl (decide_eq_true hb254) ?_
          refine q_val F rfl rfl (by decide) (r_eql F rfl rfl) fun a F => ?_
          refine q_val F rfl rfl (by decide) (r_pick_t F rfl (decide_eq_true hb254) rfl) fun a F => ?_
          refine q_val F rfl rfl (by decide) (r_move F rfl) fun a F => ?_
          by_cases hb262 : t255 = 1
          ·replace H := (if_pos hb262).symm.trans H
           refine q_yes F rfl (by decide) rfl (decide_eq_true hb262) ?_
           refine q_val F rfl rfl (by decide) (r_move F rfl) fun a F => ?_
           replace H := bind_some H
           obtain ⟨t263, q264, H⟩ := H
           refine q_yes F rfl (by decide) rfl (decide_eq_true hb262) ?_
           refine q_call F rfl rfl (by decide) (r_call F Try.func19 rfl (by kernel_rfl) rfl) (shard_Shard_Len.calls (m := m + 8) (Nat.add_pos_left hm0 _) B h155 (Nat.add_lt_add_left (by decide) m) ⟨(Nat.add_lt_add_left (by decide) m), (ne_mm (by decide))⟩ _ q264) ?_
           rintro e w266 ⟨c265, rfl, E267, B268⟩
           refine ⟨_, rfl, fun a F => ?_⟩
           have B := B268
           replace h161 := AT.ev h161 E267 (fun q => q.elim)
           replace h155 := SH.ev h155 E267 (fun q => q.elim) (fun q => q.elim) (fun q => q.elim)
           replace h151 := SL.ev h151 E267 (fun q => q.elim) (fun q => q.elim)
           replace h154 := SL.ev h154 E267 (fun q => q.elim) (fun q => q.elim)
           replace h219 := SL.ev h219 E267 (fun q => q.elim) (fun q => q.elim)
           replace h239 := SL.ev h239 E267 (fun q => q.elim) (fun q => q.elim)
           replace E := E.trans E267 (fun x q => q.elim)
           refine q_yes F rfl (by decide) rfl (decide_eq_true hb262) ?_
           refine q_val F rfl rfl (by decide) (r_eql F rfl rfl) fun a F => ?_
           refine q_val F rfl rfl (by decide) (r_pick_t F rfl (decide_eq_true hb262) rfl) fun a F => ?_
           refine q_val F rfl rfl (by decide) (r_assign F rfl) fun a F => ?_
           refine nil ?_
           refine hK211 _ _ ?_
           replace F : Fr a 122 [(0, .bool (decide (t263 = 1)))] := F.sub ⟨rfl, trivial⟩
           refine wp_ret ?_
           replace H := Option.some.inj H
           subst H
           refine out1 F rfl rfl ?_
           exact ⟨fun b_ => (fun x_ => if x_ < m then x_ else 0) (c265 b_), rfl, E.leave B0 (fun x_ => if x_ < m then x_ else 0) (by intro x_ hx_; show (if x_ < m then x_ else 0) = x_; ((repeat' split) <;> omega)), (fun b_ hb_ => by show (if (c265 b_) < m then (c265 b_) else 0) < m; ((repeat' split) <;> omega))⟩
          ·replace H := (if_neg hb262).symm.trans H
           refine q_no F rfl (by decide) rfl (decide_eq_false hb262) (by decide) fun a F => ?_
           refine q_no F rfl (by decide) rfl (decide_eq_false hb262) (by decide) fun a F => ?_
           refine q_no F rfl (by decide) rfl (decide_eq_false hb262) (by decide) fun a F => ?_
           refine q_val F rfl rfl (by decide) (r_pick_f F rfl (decide_eq_false hb262) rfl) fun a F => ?_
           refine q_val F rfl rfl (by decide) (r_assign F rfl) fun a F => ?_
           refine nil ?_
           refine hK211 _ _ ?_
           replace F : Fr a 122 [(0, .bool false)] := F.sub ⟨rfl, trivial⟩
           refine wp_ret ?_
           replace H := Option.some.inj H
           subst H
           refine out1 F rfl rfl ?_
           exact ⟨fun b_ => (fun x_ => if x_ < m then x_ else 0) (c257 b_), rfl, E.leave B0 (fun x_ => if x_ < m then x_ else 0) (by intro x_ hx_; show (if x_ < m then x_ else 0) = x_; ((repeat' split) <;> omega)), (fun b_ hb_ => by show (if (c257 b_) < m then (c257 b_) else 0) < m; ((repeat' split) <;> omega))⟩
         ·replace H := (if_neg hb254).symm.trans H
          refine q_no F rfl (by decide) rfl (decide_eq_false hb254) (by decide) fun a F => ?_
          refine q_no F rfl (by decide) rfl (decide_eq_false hb254) (by decide) fun a F => ?_
          refine q_no F rfl (by decide) rfl (decide_eq_false hb254) (by decide) fun a F => ?_
          refine q_val F rfl rfl (by decide) (r_pick_f F rfl (decide_eq_false hb254) rfl) fun a F => ?_
          refine q_val F rfl rfl (by decide) (r_move F rfl) fun a F => ?_
          refine q_no F rfl (by decide) rfl rfl (by decide) fun a F => ?_
          refine q_no F rfl (by decide) rfl rfl (by decide) fun a F => ?_
          refine q_no F rfl (by decide) rfl rfl (by decide) fun a F => ?_
          refine q_val F rfl rfl (by decide) (r_pick_f F rfl rfl rfl) fun a F => ?_
          refine q_val F rfl rfl (by decide) (r_assign F rfl) fun a F => ?_
          refine nil ?_
          refine hK211 _ _ ?_
          replace F : Fr a 122 [(0, .bool false)] := F.sub ⟨rfl, trivial⟩
          refine wp_ret ?_
          replace H := Option.some.inj H
          subst H
          refine out1 F rfl rfl ?_
          exact ⟨fun b_ => (fun x_ => if x_ < m then x_ else 0) (c247 b_), rfl, E.leave B0 (fun x_ => if x_ < m then x_ else 0) (by intro x_ hx_; show (if x_ < m then x_ else 0) = x_; ((repeat' split) <;> omega)), (fun b_ hb_ => by show (if (c247 b_) < m then (c247 b_) else 0) < m; ((repeat' split) <;> omega))⟩
        ·replace H := (if_neg hb253).symm.trans H
         refine q_no F rfl (by decide) rfl (decide_eq_false hb253) (by decide) fun a F => ?_
         refine q_no F rfl (by decide) rfl (decide_eq_false hb253) (by decide) fun a F => ?_
         refine q_no F rfl (by decide) rfl (decide_eq_false hb253) (by decide) fun a F => ?_
         refine q_val F rfl rfl (by decide) (r_pick_f F rfl (decide_eq_false hb253) rfl) fun a F => ?_
         refine q_val F rfl rfl (by decide) (r_move F rfl) fun a F => ?_
         refine q_no F rfl (by decide) rfl rfl (by decide) fun a F => ?_
         refine q_no F rfl (by decide) rfl rfl (by decide) fun a F => ?_
         refine q_no F rfl (by decide) rfl rfl (by decide) fun a F => ?_
         refine q_val F rfl rfl (by decide) (r_pick_f F rfl rfl rfl) fun a F => ?_
         refine q_val F rfl rfl (by decide) (r_move F rfl) fun a F => ?_
         refine q_no F rfl (by decide) rfl rfl (by decide) fun a F => ?_
         refine q_no F rfl (by decide) rfl rfl (by decide) fun a F => ?_
         refine q_no F rfl (by decide) rfl rfl (by decide) fun a F => ?_
         refine q_val F rfl rfl (by decide) (r_pick_f F rfl rfl rfl) fun a F => ?_
         refine q_val F rfl rfl (by decide) (r_assign F rfl) fun a F => ?_
         refine nil ?_
         refine hK211 _ _ ?_
         replace F : Fr a 122 [(0, .bool false)] := F.sub ⟨rfl, trivial⟩
         refine wp_ret ?_
         replace H := Option.some.inj H
         subst H
         refine out1 F rfl rfl ?_
         exact ⟨fun b_ => (fun x_ => if x_ < m then x_ else 0) (c247 b_), rfl, E.leave B0 (fun x_ => if x_ < m then x_ else 0) (by intro x_ hx_; show (if x_ < m then x_ else 0) = x_; ((repeat' split) <;> omega)), (fun b_ hb_ => by show (if (c247 b_) < m then (c247 b_) else 0) < m; ((repeat' split) <;> omega))⟩
       ·replace H := (if_neg hb252).symm.trans H
        refine q_no F rfl (by decide) rfl (bfalse hb252) (by decide) fun a F => ?_
        refine q_no F rfl (by decide) rfl (bfalse hb252) (by decide) fun a F => ?_
        refine q_no F rfl (by decide) rfl (bfalse hb252) (by decide) fun a F => ?_
        refine q_val F rfl rfl (by decide) (r_pick_f F rfl (bfalse hb252) rfl) fun a F => ?_
        refine q_val F rfl rfl (by decide) (r_move F rfl) fun a F => ?_
        refine q_no F rfl (by decide) rfl rfl (by decide) fun a F => ?_
        refine q_no F rfl (by decide) rfl rfl (by decide) fun a F => ?_
        refine q_no F rfl (by decide) rfl rfl (by decide) fun a F => ?_
        refine q_val F rfl rfl (by decide) (r_pick_f F rfl rfl rfl) fun a F => ?_
        refine q_val F rfl rfl (by decide) (r_move F rfl) fun a F => ?_
        refine q_no F rfl (by decide) rfl rfl (by decide) fun a F => ?_
        refine q_no F rfl (by decide) rfl rfl (by decide) fun a F => ?_
        refine q_no F rfl (by decide) rfl rfl (by decide) fun a F => ?_
        refine q_val F rfl rfl (by decide) (r_pick_f F rfl rfl rfl) fun a F => ?_
        refine q_val F rfl rfl (by decide) (r_move F rfl) fun a F => ?_
        refine q_no F rfl (by decide) rfl rfl (by decide) fun a F => ?_
        refine q_no F rfl (by decide) rfl rfl (by decide) fun a F => ?_
        refine q_no F rfl (by decide) rfl rfl (by decide) fun a F => ?_
        refine q_val F rfl rfl (by decide) (r_pick_f F rfl rfl rfl) fun a F => ?_
        refine q_val F rfl rfl (by decide) (r_assign F rfl) fun a F => ?_
        refine nil ?_
        refine hK211 _ _ ?_
        replace F : Fr a 122 [(0, .bool false)] := F.sub ⟨rfl, trivial⟩
        refine wp_ret ?_
        replace H := Option.some.inj H
        subst H
        refine out1 F rfl rfl ?_
        exact ⟨fun b_ => (fun x_ => if x_ < m then x_ else 0) (c247 b_), rfl, E.leave B0 (fun x_ => if x_ < m then x_ else 0) (by intro x_ hx_; show (if x_ < m then x_ else 0) = x_; ((repeat' split) <;> omega)), (fun b_ hb_ => by show (if (c247 b_) < m then (c247 b_) else 0) < m; ((repeat' split) <;> omega))⟩
      ·replace H := (if_neg hb232).symm.trans H
       refine q_no F rfl (by decide) rfl (bfalse hb232) (by decide) fun a F => ?_
       refine q_no F rfl (by decide) rfl (bfalse hb232) (by decide) fun a F => ?_
       refine q_no F rfl (by decide) rfl (bfalse hb232) (by decide) fun a F => ?_
       refine q_no F rfl (by decide) rfl (bfalse hb232) (by decide) fun a F => ?_
       refine q_no F rfl (by decide) rfl (bfalse hb232) (by decide) fun a F => ?_
       refine q_val F rfl rfl (by decide) (r_pick_f F rfl (bfalse hb232) rfl) fun a F => ?_
       refine q_val F rfl rfl (by decide) (r_move F rfl) fun a F => ?_
       refine q_no F rfl (by decide) rfl rfl (by decide) fun a F => ?_
       refine q_no F rfl (by decide) rfl rfl (by decide) fun a F => ?_
       refine q_no F rfl (by decide) rfl rfl (by decide) fun a F => ?_
       refine q_val F rfl rfl (by decide) (r_pick_f F rfl rfl rfl) fun a F => ?_
       refine q_val F rfl rfl (by decide) (r_move F rfl) fun a F => ?_
       refine q_no F rfl (by decide) rfl rfl (by decide) fun a F => ?_
       refine q_no F rfl (by decide) rfl rfl (by decide) fun a F => ?_
       refine q_no F rfl (by decide) rfl rfl (by decide) fun a F => ?_
       refine q_val F rfl rfl (by decide) (r_pick_f F rfl rfl rfl) fun a F => ?_
       refine q_val F rfl rfl (by decide) (r_move F rfl) fun a F => ?_
       refine q_no F rfl (by decide) rfl rfl (by decide) fun a F => ?_
       refine q_no F rfl (by decide) rfl rfl (by decide) fun a F => ?_
       refine q_no F rfl (by decide) rfl rfl (by decide) fun a F => ?_
       refine q_val F rfl rfl (by decide) (r_pick_f F rfl rfl rfl) fun a F => ?_
       refine q_val F rfl rfl (by decide) (r_move F rfl) fun a F => ?_
       refine q_no F rfl (by decide) rfl rfl (by decide) fun a F => ?_
       refine q_no F rfl (by decide) rfl rfl (by decide) fun a F => ?_
       refine q_no F rfl (by decide) rfl rfl (by decide) fun a F => ?_
       refine q_val F rfl rfl (by decide) (r_pick_f F rfl rfl rfl) fun a F => ?_
       refine q_val F rfl rfl (by decide) (r_assign F rfl) fun a F => ?_
       refine nil ?_
       refine hK211 _ _ ?_
       replace F : Fr a 122 [(0, .bool false)] := F.sub ⟨rfl, trivial⟩
       refine wp_ret ?_
       replace H := Option.some.inj H
       subst H
       refine out1 F rfl rfl ?_
       exact ⟨fun b_ => (fun x_ => if x_ < m then x_ else 0) (c227 b_), rfl, E.leave B0 (fun x_ => if x_ < m then x_ else 0) (by intro x_ hx_; show (if x_ < m then x_ else 0) = x_; ((repeat' split) <;> omega)), (fun b_ hb_ => by show (if (c227 b_) < m then (c227 b_) else 0) < m; ((repeat' split) <;> omega))⟩
     ·replace H := (if_neg hb212).symm.trans H
      refine q_no F rfl (by decide) rfl (bfalse hb212) (by decide) fun a F => ?_
      refine q_no F rfl (by decide) rfl (bfalse hb212) (by decide) fun a F => ?_
      refine q_no F rfl (by decide) rfl (bfalse hb212) (by decide) fun a F => ?_
      refine q_no F rfl (by decide) rfl (bfalse hb212) (by decide) fun a F => ?_
      refine q_no F rfl (by decide) rfl (bfalse hb212) (by decide) fun a F => ?_
      refine q_val F rfl rfl (by decide) (r_pick_f F rfl (bfalse hb212) rfl) fun a F => ?_
      refine q_val F rfl rfl (by decide) (r_move F rfl) fun a F => ?_
      refine q_no F rfl (by decide) rfl rfl (by decide) fun a F => ?_
      refine q_no F rfl (by decide) rfl rfl (by decide) fun a F => ?_
      refine q_no F rfl (by decide) rfl rfl (by decide) fun a F => ?_
      refine q_no F rfl (by decide) rfl rfl (by decide) fun a F => ?_
      refine q_no F rfl (by decide) rfl rfl (by decide) fun a F => ?_
      refine q_val F rfl rfl (by decide) (r_pick_f F rfl rfl rfl) fun a F => ?_
      refine q_val F rfl rfl (by decide) (r_move F rfl) fun a F => ?_
      refine q_no F rfl (by decide) rfl rfl (by decide) fun a F => ?_
      refine q_no F rfl (by decide) rfl rfl (by decide) fun a F => ?_
      refine q_no F rfl (by decide) rfl rfl (by decide) fun a F => ?_
      refine q_val F rfl rfl (by decide) (r_pick_f F rfl rfl rfl) fun a F => ?_
      refine q_val F rfl rfl (by decide) (r_move F rfl) fun a F => ?_
      refine q_no F rfl (by decide) rfl rfl (by decide) fun a F => ?_
      refine q_no F rfl (by decide) rfl rfl (by decide) fun a F => ?_
      refine q_no F rfl (by decide) rfl rfl (by decide) fun a F => ?_
      refine q_val F rfl rfl (by decide) (r_pick_f F rfl rfl rfl) fun a F => ?_
      refine q_val F rfl rfl (by decide) (r_move F rfl) fun a F => ?_
      refine q_no F rfl (by decide) rfl rfl (by decide) fun a F => ?_
      refine q_no F rfl (by decide) rfl rfl (by decide) fun a F => ?_
      refine q_no F rfl (by decide) rfl rfl (by decide) fun a F => ?_
      refine q_val F rfl rfl (by decide) (r_pick_f F rfl rfl rfl) fun a F => ?_
      refine q_val F rfl rfl (by decide) (r_move F rfl) fun a F => ?_
      refine q_no F rfl (by decide) rfl rfl (by decide) fun a F => ?_
      refine q_no F rfl (by decide) rfl rfl (by decide) fun a F => ?_
      refine q_no F rfl (by decide) rfl rfl (by decide) fun a F => ?_
      refine q_val F rfl rfl (by decide) (r_pick_f F rfl rfl rfl) fun a F => ?_
      refine q_val F rfl rfl (by decide) (r_assign F rfl) fun a F => ?_
      refine nil ?_
      refine hK211 _ _ ?_
      replace F : Fr a 122 [(0, .bool false)] := F.sub ⟨rfl, trivial⟩
      refine wp_ret ?_
      replace H := Option.some.inj H
      subst H
      refine out1 F rfl rfl ?_
      exact ⟨fun b_ => (fun x_ => if x_ < m then x_ else 0) (c207 b_), rfl, E.leave B0 (fun x_ => if x_ < m then x_ else 0) (by intro x_ hx_; show (if x_ < m then x_ else 0) = x_; ((repeat' split) <;> omega)), (fun b_ hb_ => by show (if (c207 b_) < m then (c207 b_) else 0) < m; ((repeat' split) <;> omega))⟩
   refine reg ?_
   refine q_val F rfl rfl (by decide) (r_move F rfl) fun a F => ?_
   replace H := bind_some H
   obtain ⟨t169, q170, H⟩ := H
   refine q_call F rfl rfl (by decide) (r_call F Try.func11 rfl (by kernel_rfl) rfl) (haulagelaw14_num.calls (m := m + 8) (Nat.add_pos_left hm0 _) B _ q170) ?_
   rintro e w172 ⟨c171, rfl, E173, B174⟩
   refine ⟨_, rfl, fun a F => ?_⟩
   have B := B174
   replace h62 := SL.ev h62 E173 (fun q => q.elim) (fun q => q.elim)
   replace h65 := SL.ev h65 E173 (fun q => q.elim) (fun q => q.elim)
   replace h75 := SL.ev h75 E173 (fun q => q.elim) (fun q => q.elim)
   replace h78 := SL.ev h78 E173 (fun q => q.elim) (fun q => q.elim)
   replace h85 := AT.ev h85 E173 (fun q => q.elim)
   replace h100 := SL.ev h100 E173 (fun q => q.elim) (fun q => q.elim)
   replace h103 := SL.ev h103 E173 (fun q => q.elim) (fun q => q.elim)
   replace h113 := SL.ev h113 E173 (fun q => q.elim) (fun q => q.elim)
   replace h116 := SL.ev h116 E173 (fun q => q.elim) (fun q => q.elim)
   replace h123 := AT.ev h123 E173 (fun q => q.elim)
   replace h138 := SL.ev h138 E173 (fun q => q.elim) (fun q => q.elim)
   replace h141 := SL.ev h141 E173 (fun q => q.elim) (fun q => q.elim)
   replace h151 := SL.ev h151 E173 (fun q => q.elim) (fun q => q.elim)
   replace h154 := SL.ev h154 E173 (fun q => q.elim) (fun q => q.elim)
   replace h155 := SH.ev h155 E173 (fun q => q.elim) (fun q => q.elim) (fun q => q.elim)
   replace h161 := AT.ev h161 E173 (fun q => q.elim)
   replace E := E.trans E173 (fun x q => q.elim)
   refine q_val F rfl rfl (by decide) (r_neq F rfl rfl) fun a F => ?_
   refine q_val F rfl rfl (by decide) (r_move F rfl) fun a F => ?_
   by_cases hb176 : t169 = 0
   ·replace H := (if_pos hb176).symm.trans H
    refine q_yes F rfl (by decide) rfl (congrArg not (decide_eq_true hb176)) ?_
    refine q_val F rfl rfl (by decide) (r_move F rfl) fun a F => ?_
    replace H := bind_some H
    obtain ⟨t177, q178, H⟩ := H
    refine q_yes F rfl (by decide) rfl (congrArg not (decide_eq_true hb176)) ?_
    refine q_call F rfl rfl (by decide) (r_call F Try.func11 rfl (by kernel_rfl) rfl) (haulagelaw14_num.calls (m := m + 8) (Nat.add_pos_left hm0 _) B _ q178) ?_
    rintro e w180 ⟨c179, rfl, E181, B182⟩
    refine ⟨_, rfl, fun a F => ?_⟩
    have B := B182
    replace h62 := SL.ev h62 E181 (fun q => q.elim) (fun q => q.elim)
    replace h65 := SL.ev h65 E181 (fun q => q.elim) (fun q => q.elim)
    replace h75 := SL.ev h75 E181 (fun q => q.elim) (fun q => q.elim)
    replace h78 := SL.ev h78 E181 (fun q => q.elim) (fun q => q.elim)
    replace h85 := AT.ev h85 E181 (fun q => q.elim)
    replace h100 := SL.ev h100 E181 (fun q => q.elim) (fun q => q.elim)
    replace h103 := SL.ev h103 E181 (fun q => q.elim) (fun q => q.elim)
    replace h113 := SL.ev h113 E181 (fun q => q.elim) (fun q => q.elim)
    replace h116 := SL.ev h116 E181 (fun q => q.elim) (fun q => q.elim)
    replace h123 := AT.ev h123 E181 (fun q => q.elim)
    replace h138 := SL.ev h138 E181 (fun q => q.elim) (fun q => q.elim)
    replace h141 := SL.ev h141 E181 (fun q => q.elim) (fun q => q.elim)
    replace h151 := SL.ev h151 E181 (fun q => q.elim) (fun q => q.elim)
    replace h154 := SL.ev h154 E181 (fun q => q.elim) (fun q => q.elim)
    replace h155 := SH.ev h155 E181 (fun q => q.elim) (fun q => q.elim) (fun q => q.elim)
    replace h161 := AT.ev h161 E181 (fun q => q.elim)
    replace E := E.trans E181 (fun x q => q.elim)
    refine q_yes F rfl (by decide) rfl (congrArg not (decide_eq_true hb176)) ?_
    refine q_val F rfl rfl (by decide) (r_neq F rfl rfl) fun a F => ?_
    refine q_val F rfl rfl (by decide) (r_pick_f F rfl (congrArg not (decide_eq_true hb176)) rfl) fun a F => ?_
    refine q_val F rfl rfl (by decide) (r_move F rfl) fun a F => ?_
    by_cases hb184 : t177 = 0
    ·replace H := (if_pos hb184).symm.trans H
     refine q_yes F rfl (by decide) rfl (congrArg not (decide_eq_true hb184)) ?_
     refine q_val F rfl rfl (by decide) (r_move F rfl) fun a F => ?_
     replace H := bind_some H
     obtain ⟨t185, q186, H⟩ := H
     refine q_yes F rfl (by decide) rfl (congrArg not (decide_eq_true hb184)) ?_
     refine q_call F rfl rfl (by decide) (r_call F Try.func11 rfl (by kernel_rfl) rfl) (haulagelaw14_num.calls (m := m + 8) (Nat.add_pos_left hm0 _) B _ q186) ?_
     rintro e w188 ⟨c187, rfl, E189, B190⟩
     refine ⟨_, rfl, fun a F => ?_⟩
     have B := B190
     replace h62 := SL.ev h62 E189 (fun q => q.elim) (fun q => q.elim)
     replace h65 := SL.ev h65 E189 (fun q => q.elim) (fun q => q.elim)
     replace h75 := SL.ev h75 E189 (fun q => q.elim) (fun q => q.elim)
     replace h78 := SL.ev h78 E189 (fun q => q.elim) (fun q => q.elim)
     replace h85 := AT.ev h85 E189 (fun q => q.elim)
     replace h100 := SL.ev h100 E189 (fun q => q.elim) (fun q => q.elim)
     replace h103 := SL.ev h103 E189 (fun q => q.elim) (fun q => q.elim)
     replace h113 := SL.ev h113 E189 (fun q => q.elim) (fun q => q.elim)
     replace h116 := SL.ev h116 E189 (fun q => q.elim) (fun q => q.elim)
     replace h123 := AT.ev h123 E189 (fun q => q.elim)
     replace h138 := SL.ev h138 E189 (fun q => q.elim) (fun q => q.elim)
     replace h141 := SL.ev h141 E189 (fun q => q.elim) (fun q => q.elim)
     replace h151 := SL.ev h151 E189 (fun q => q.elim) (fun q => q.elim)
     replace h154 := SL.ev h154 E189 (fun q => q.elim) (fun q => q.elim)
     replace h155 := SH.ev h155 E189 (fun q => q.elim) (fun q => q.elim) (fun q => q.elim)
     replace h161 := AT.ev h161 E189 (fun q => q.elim)
     replace E := E.trans E189 (fun x q => q.elim)
     refine q_yes F rfl (by decide) rfl (congrArg not (decide_eq_true hb184)) ?_
     refine q_val F rfl rfl (by decide) (r_neq F rfl rfl) fun a F => ?_
     refine q_val F rfl rfl (by decide) (r_pick_f F rfl (congrArg not (decide_eq_true hb184)) rfl) fun a F => ?_
     refine q_val F rfl rfl (by decide) (r_move F rfl) fun a F => ?_
     by_cases hb192 : t185 = 0
     ·replace H := (if_pos hb192).symm.trans H
      refine q_yes F rfl (by decide) rfl (congrArg not (decide_eq_true hb192)) ?_
      refine q_val F rfl rfl (by decide) (r_move F rfl) fun a F => ?_
      refine q_yes F rfl (by decide) rfl (congrArg not (decide_eq_true hb192)) ?_
      refine q_val F rfl rfl (by decide) (r_not F rfl) fun a F => ?_
      refine q_val F rfl rfl (by decide) (r_pick_f F rfl (congrArg not (decide_eq_true hb192)) rfl) fun a F => ?_
      refine q_val F rfl rfl (by decide) (r_move F rfl) fun a F => ?_
      by_cases hb193 : t67.2.1 = true
      ·replace H := (if_pos hb193).symm.trans H
       refine q_yes F rfl (by decide) rfl (congrArg not hb193) ?_
       refine q_val F rfl rfl (by decide) (r_move F rfl) fun a F => ?_
       refine q_val F rfl rfl (by decide) (r_pick_f F rfl (congrArg not hb193) rfl) fun a F => ?_
       refine q_val F rfl rfl (by decide) (r_move F rfl) fun a F => ?_
       by_cases hb194 : t105.2.1 = true
       ·replace H := (if_pos hb194).symm.trans H
        refine q_no F rfl (by decide) rfl hb194 (by decide) fun a F => ?_
        refine q_val F rfl rfl (by decide) (r_pick_t F rfl hb194 rfl) fun a F => ?_
        refine q_val F rfl rfl (by decide) (r_move F rfl) fun a F => ?_
        refine q_no F rfl (by decide) rfl rfl (by decide) fun a F => ?_
        refine q_no F rfl (by decide) rfl rfl (by decide) fun a F => ?_
        refine q_no F rfl (by decide) rfl rfl (by decide) fun a F => ?_
        refine q_val F rfl rfl (by decide) (r_pick_t F rfl rfl rfl) fun a F => ?_
        refine q_val F rfl rfl (by decide) (r_move F rfl) fun a F => ?_
        refine q_no F rfl (by decide) rfl rfl (by decide) fun a F => ?_
        refine q_no F rfl (by decide) rfl rfl (by decide) fun a F => ?_
        refine q_no F rfl (by decide) rfl rfl (by decide) fun a F => ?_
        refine q_val F rfl rfl (by decide) (r_pick_t F rfl rfl rfl) fun a F => ?_
        refine q_val F rfl rfl (by decide) (r_move F rfl) fun a F => ?_
        refine q_no F rfl (by decide) rfl rfl (by decide) fun a F => ?_
        refine q_no F rfl (by decide) rfl rfl (by decide) fun a F => ?_
        refine q_no F rfl (by decide) rfl rfl (by decide) fun a F => ?_
        refine q_no F rfl (by decide) rfl rfl (by decide) fun a F => ?_
        refine q_val F rfl rfl (by decide) (r_pick_t F rfl rfl rfl) fun a F => ?_
        refine nil ?_
        exact J206 c187 w188 a true (F.sub ⟨rfl, rfl, rfl, trivial⟩) E B h161 h155 h151 h154 H
       ·replace H := (if_neg hb194).symm.trans H
        refine q_yes F rfl (by decide) rfl (bfalse hb194) ?_
        refine q_val F rfl rfl (by decide) (r_move F rfl) fun a F => ?_
        refine q_val F rfl rfl (by decide) (r_pick_f F rfl (bfalse hb194) rfl) fun a F => ?_
        refine q_val F rfl rfl (by decide) (r_move F rfl) fun a F => ?_
        by_cases hb195 : t143.2.1 = true
        ·replace H := (if_pos hb195).symm.trans H
         refine q_no F rfl (by decide) rfl hb195 (by decide) fun a F => ?_
         refine q_no F rfl (by decide) rfl hb195 (by decide) fun a F => ?_
         refine q_no F rfl (by decide) rfl hb195 (by decide) fun a F => ?_
         refine q_val F rfl rfl (by decide) (r_pick_t F rfl hb195 rfl) fun a F => ?_
         refine q_val F rfl rfl (by decide) (r_move F rfl) fun a F => ?_
         refine q_no F rfl (by decide) rfl rfl (by decide) fun a F => ?_
         refine q_no F rfl (by decide) rfl rfl (by decide) fun a F => ?_
         refine q_no F rfl (by decide) rfl rfl (by decide) fun a F => ?_
         refine q_val F rfl rfl (by decide) (r_pick_t F rfl rfl rfl) fun a F => ?_
         refine q_val F rfl rfl (by decide) (r_move F rfl) fun a F => ?_
         refine q_no F rfl (by decide) rfl rfl (by decide) fun a F => ?_
         refine q_no F rfl (by decide) rfl rfl (by decide) fun a F => ?_
         refine q_no F rfl (by decide) rfl rfl (by decide) fun a F => ?_
         refine q_no F rfl (by decide) rfl rfl (by decide) fun a F => ?_
         refine q_val F rfl rfl (by decide) (r_pick_t F rfl rfl rfl) fun a F => ?_
         refine nil ?_
         exact J206 c187 w188 a true (F.sub ⟨rfl, rfl, rfl, trivial⟩) E B h161 h155 h151 h154 H
        ·replace H := (if_neg hb195).symm.trans H
         refine q_yes F rfl (by decide) rfl (bfalse hb195) ?_
         refine q_val F rfl rfl (by decide) (r_fieldAddr F rfl ff_34_0) fun a F => ?_
         refine q_yes F rfl (by decide) rfl (bfalse hb195) ?_
         refine q_val F rfl rfl (by decide) (r_load F rfl ag_4 (AT.cell h85 rfl)) fun a F => ?_
         refine q_yes F rfl (by decide) rfl (bfalse hb195) ?_
         refine q_val F rfl rfl (by decide) (r_not F rfl) fun a F => ?_
         refine q_val F rfl rfl (by decide) (r_pick_f F rfl (bfalse hb195) rfl) fun a F => ?_
         refine q_val F rfl rfl (by decide) (r_move F rfl) fun a F => ?_
         by_cases hb196 : t67.1.Done = true
         ·replace H := (if_pos hb196).symm.trans H
          refine q_yes F rfl (by decide) rfl (congrArg not hb196) ?_
          refine q_val F rfl rfl (by decide) (r_fieldAddr F rfl ff_34_4) fun a F => ?_
          refine q_yes F rfl (by decide) rfl (congrArg not hb196) ?_
          refine q_val F rfl rfl (by decide) (r_load F rfl ag_3 (AT.cell h85 rfl)) fun a F => ?_
          refine q_yes F rfl (by decide) rfl (congrArg not hb196) ?_
          refine q_val F rfl rfl (by decide) (r_neq F rfl rfl) fun a F => ?_
          refine q_val F rfl rfl (by decide) (r_pick_f F rfl (congrArg not hb196) rfl) fun a F => ?_
          refine q_val F rfl rfl (by decide) (r_move F rfl) fun a F => ?_
          by_cases hb197 : t67.1.At = 1
          ·replace H := (if_pos hb197).symm.trans H
           refine q_yes F rfl (by decide) rfl (congrArg not (decide_eq_true hb197)) ?_
           refine q_val F rfl rfl (by decide) (r_loads (cs := [.bool t67.1.Done, .slice A73 t67.1.Key.length C74, .slice A76 t67.1.Value.length C77, .int .i64 t67.1.Rev, .int .i64 t67.1.At]) F rfl ag_34 sz_34 h85) fun a F => ?_
           refine q_yes F rfl (by decide) rfl (congrArg not (decide_eq_true hb197)) ?_
           refine q_val F rfl rfl (by decide) (r_loads (cs := [.bool t105.1.Done, .slice A111 t105.1.Key.length C112, .slice A114 t105.1.Value.length C115, .int .i64 t105.1.Rev, .int .i64 t105.1.At]) F rfl ag_34 sz_34 h123) fun a F => ?_
           replace H := bind_some H
           obtain ⟨t198, q199, H⟩ := H
           refine q_yes F rfl (by decide) rfl (congrArg not (decide_eq_true hb197)) ?_
           refine q_call F rfl rfl (by decide) (r_call F Try.func13 rfl (by kernel_rfl) rfl) (haulagelaw14_sameAnswer.calls k (m := m + 8) (Nat.add_pos_left hm0 _) B h75 h78 h113 h116 _ q199) ?_
           rintro e w201 ⟨c200, rfl, E202, B203⟩
           refine ⟨_, rfl, fun a F => ?_⟩
           have B := B203
           replace h62 := SL.ev h62 E202 (fun q => q.elim) (fun q => q.elim)
           replace h65 := SL.ev h65 E202 (fun q => q.elim) (fun q => q.elim)
           replace h75 := SL.ev h75 E202 (fun q => q.elim) (fun q => q.elim)
           replace h78 := SL.ev h78 E202 (fun q => q.elim) (fun q => q.elim)
           replace h85 := AT.ev h85 E202 (fun q => q.elim)
           replace h100 := SL.ev h100 E202 (fun q => q.elim) (fun q => q.elim)
           replace h103 := SL.ev h103 E202 (fun q => q.elim) (fun q => q.elim)
           replace h113 := SL.ev h113 E202 (fun q => q.elim) (fun q => q.elim)
           replace h116 := SL.ev h116 E202 (fun q => q.elim) (fun q => q.elim)
           replace h123 := AT.ev h123 E202 (fun q => q.elim)
           replace h138 := SL.ev h138 E202 (fun q => q.elim) (fun q => q.elim)
           replace h141 := SL.ev h141 E202 (fun q => q.elim) (fun q => q.elim)
           replace h151 := SL.ev h151 E202 (fun q => q.elim) (fun q => q.elim)
           replace h154 := SL.ev h154 E202 (fun q => q.elim) (fun q => q.elim)
           replace h155 := SH.ev h155 E202 (fun q => q.elim) (fun q => q.elim) (fun q => q.elim)
           replace h161 := AT.ev h161 E202 (fun q => q.elim)
           replace E := E.trans E202 (fun x q => q.elim)
           refine q_yes F rfl (by decide) rfl (congrArg not (decide_eq_true hb197)) ?_
           refine q_val F rfl rfl (by decide) (r_not F rfl) fun a F => ?_
           refine q_val F rfl rfl (by decide) (r_pick_f F rfl (congrArg not (decide_eq_true hb197)) rfl) fun a F => ?_
           refine nil ?_
           exact J206 c200 w201 a (!t198) (F.sub ⟨rfl, rfl, rfl, trivial⟩) E B h161 h155 h151 h154 H
          ·replace H := (if_neg hb197).symm.trans H
           refine q_no F rfl (by decide) rfl (congrArg not (decide_eq_false hb197)) (by decide) fun a F => ?_
           refine q_no F rfl (by decide) rfl (congrArg not (decide_eq_false hb197)) (by decide) fun a F => ?_
           refine q_no F rfl (by decide) rfl (congrArg not (decide_eq_false hb197)) (by decide) fun a F => ?_
           refine q_no F rfl (by decide) rfl (congrArg not (decide_eq_false hb197)) (by decide) fun a F => ?_
           refine q_val F rfl rfl (by decide) (r_pick_t F rfl (congrArg not (decide_eq_false hb197)) rfl) fun a F => ?_
           refine nil ?_
           exact J206 c187 w188 a true (F.sub ⟨rfl, rfl, rfl, trivial⟩) E B h161 h155 h151 h154 H
         ·replace H := (if_neg hb196).symm.trans H
          refine q_no F rfl (by decide) rfl (congrArg not (bfalse hb196)) (by decide) fun a F => ?_
          refine q_no F rfl (by decide) rfl (congrArg not (bfalse hb196)) (by decide) fun a F => ?_
          refine q_no F rfl (by decide) rfl (congrArg not (bfalse hb196)) (by decide) fun a F => ?_
          refine q_val F rfl rfl (by decide) (r_pick_t F rfl (congrArg not (bfalse hb196)) rfl) fun a F => ?_
          refine q_val F rfl rfl (by decide) (r_move F rfl) fun a F => ?_
          refine q_no F rfl (by decide) rfl rfl (by decide) fun a F => ?_
          refine q_no F rfl (by decide) rfl rfl (by decide) fun a F => ?_
          refine q_no F rfl (by decide) rfl rfl (by decide) fun a F => ?_
          refine q_no F rfl (by decide) rfl rfl (by decide) fun a F => ?_
          refine q_val F rfl rfl (by decide) (r_pick_t F rfl rfl rfl) fun a F => ?_
          refine nil ?_
          exact J206 c187 w188 a true (F.sub ⟨rfl, rfl, rfl, trivial⟩) E B h161 h155 h151 h154 H
      ·replace H := (if_neg hb193).symm.trans H
       refine q_no F rfl (by decide) rfl (congrArg not (bfalse hb193)) (by decide) fun a F => ?_
       refine q_val F rfl rfl (by decide) (r_pick_t F rfl (congrArg not (bfalse hb193)) rfl) fun a F => ?_
       refine q_val F rfl rfl (by decide) (r_move F rfl) fun a F => ?_
       refine q_no F rfl (by decide) rfl rfl (by decide) fun a F => ?_
       refine q_val F rfl rfl (by decide) (r_pick_t F rfl rfl rfl) fun a F => ?_
       refine q_val F rfl rfl (by decide) (r_move F rfl) fun a F => ?_
       refine q_no F rfl (by decide) rfl rfl (by decide) fun a F => ?_
       refine q_no F rfl (by decide) rfl rfl (by decide) fun a F => ?_
       refine q_no F rfl (by decide) rfl rfl (by decide) fun a F => ?_
       refine q_val F rfl rfl (by decide) (r_pick_t F rfl rfl rfl) fun a F => ?_
       refine q_val F rfl rfl (by decide) (r_move F rfl) fun a F => ?_
       refine q_no F rfl (by decide) rfl rfl (by decide) fun a F => ?_
       refine q_no F rfl (by decide) rfl rfl (by decide) fun a F => ?_
       refine q_no F rfl (by decide) rfl rfl (by decide) fun a F => ?_
       refine q_val F rfl rfl (by decide) (r_pick_t F rfl rfl rfl) fun a F => ?_
       refine q_val F rfl rfl (by decide) (r_move F rfl) fun a F => ?_
       refine q_no F rfl (by decide) rfl rfl (by decide) fun a F => ?_
       refine q_no F rfl (by decide) rfl rfl (by decide) fun a F => ?_
       refine q_no F rfl (by decide) rfl rfl (by decide) fun a F => ?_
       refine q_no F rfl (by decide) rfl rfl (by decide) fun a F => ?_
       refine q_val F rfl rfl (by decide) (r_pick_t F rfl rfl rfl) fun a F => ?_
       refine nil ?_
       exact J206 c187 w188 a true (F.sub ⟨rfl, rfl, rfl, trivial⟩) E B h161 h155 h151 h154 H
     ·replace H := (if_neg hb192).symm.trans H
      refine q_no F rfl (by decide) rfl (congrArg not (decide_eq_false hb192)) (by decide) fun a F => ?_
      refine q_no F rfl (by decide) rfl (congrArg not (decide_eq_false hb192)) (by decide) fun a F => ?_
      refine q_val F rfl rfl (by decide) (r_pick_t F rfl (congrArg not (decide_eq_false hb192)) rfl) fun a F => ?_
      refine q_val F rfl rfl (by decide) (r_move F rfl) fun a F => ?_
      refine q_no F rfl (by decide) rfl rfl (by decide) fun a F => ?_
      refine q_val F rfl rfl (by decide) (r_pick_t F rfl rfl rfl) fun a F => ?_
      refine q_val F rfl rfl (by decide) (r_move F rfl) fun a F => ?_
      refine q_no F rfl (by decide) rfl rfl (by decide) fun a F => ?_
      refine q_val F rfl rfl (by decide) (r_pick_t F rfl rfl rfl) fun a F => ?_
      refine q_val F rfl rfl (by decide) (r_move F rfl) fun a F => ?_
      refine q_no F rfl (by decide) rfl rfl (by decide) fun a F => ?_
      refine q_no F rfl (by decide) rfl rfl (by decide) fun a F => ?_
      refine q_no F rfl (by decide) rfl rfl (by decide) fun a F => ?_
      refine q_val F rfl rfl (by decide) (r_pick_t F rfl rfl rfl) fun a F => ?_
      refine q_val F rfl rfl (by decide) (r_move F rfl) fun a F => ?_
      refine q_no F rfl (by decide) rfl rfl (by decide) fun a F => ?_
      refine q_no F rfl (by decide) rfl rfl (by decide) fun a F => ?_
      refine q_no F rfl (by decide) rfl rfl (by decide) fun a F => ?_
      refine q_val F rfl rfl (by decide) (r_pick_t F rfl rfl rfl) fun a F => ?_
      refine q_val F rfl rfl (by decide) (r_move F rfl) fun a F => ?_
      refine q_no F rfl (by decide) rfl rfl (by decide) fun a F => ?_
      refine q_no F rfl (by decide) rfl rfl (by decide) fun a F => ?_
      refine q_no F rfl (by decide) rfl rfl (by decide) fun a F => ?_
      refine q_no F rfl (by decide) rfl rfl (by decide) fun a F => ?_
      refine q_val F rfl rfl (by decide) (r_pick_t F rfl rfl rfl) fun a F => ?_
      refine nil ?_
      exact J206 c187 w188 a true (F.sub ⟨rfl, rfl, rfl, trivial⟩) E B h161 h155 h151 h154 H
    ·replace H := (if_neg hb184).symm.trans H
     refine q_no F rfl (by decide) rfl (congrArg not (decide_eq_false hb184)) (by decide) fun a F => ?_
     refine q_no F rfl (by decide) rfl (congrArg not (decide_eq_false hb184)) (by decide) fun a F => ?_
     refine q_no F rfl (by decide) rfl (congrArg not (decide_eq_false hb184)) (by decide) fun a F => ?_
     refine q_val F rfl rfl (by decide) (r_pick_t F rfl (congrArg not (decide_eq_false hb184)) rfl) fun a F => ?_
     refine q_val F rfl rfl (by decide) (r_move F rfl) fun a F => ?_
     refine q_no F rfl (by decide) rfl rfl (by decide) fun a F => ?_
     refine q_no F rfl (by decide) rfl rfl (by decide) fun a F => ?_
     refine q_val F rfl rfl (by decide) (r_pick_t F rfl rfl rfl) fun a F => ?_
     refine q_val F rfl rfl (by decide) (r_move F rfl) fun a F => ?_
     refine q_no F rfl (by decide) rfl rfl (by decide) fun a F => ?_
     refine q_val F rfl rfl (by decide) (r_pick_t F rfl rfl rfl) fun a F => ?_
     refine q_val F rfl rfl (by decide) (r_move F rfl) fun a F => ?_
     refine q_no F rfl (by decide) rfl rfl (by decide) fun a F => ?_
     refine q_val F rfl rfl (by decide) (r_pick_t F rfl rfl rfl) fun a F => ?_
     refine q_val F rfl rfl (by decide) (r_move F rfl) fun a F => ?_
     refine q_no F rfl (by decide) rfl rfl (by decide) fun a F => ?_
     refine q_no F rfl (by decide) rfl rfl (by decide) fun a F => ?_
     refine q_no F rfl (by decide) rfl rfl (by decide) fun a F => ?_
     refine q_val F rfl rfl (by decide) (r_pick_t F rfl rfl rfl) fun a F => ?_
     refine q_val F rfl rfl (by decide) (r_move F rfl) fun a F => ?_
     refine q_no F rfl (by decide) rfl rfl (by decide) fun a F => ?_
     refine q_no F rfl (by decide) rfl rfl (by decide) fun a F => ?_
     refine q_no F rfl (by decide) rfl rfl (by decide) fun a F => ?_
     refine q_val F rfl rfl (by decide) (r_pick_t F rfl rfl rfl) fun a F => ?_
     refine q_val F rfl rfl (by decide) (r_move F rfl) fun a F => ?_
     refine q_no F rfl (by decide) rfl rfl (by decide) fun a F => ?_
     refine q_no F rfl (by decide) rfl rfl (by decide) fun a F => ?_
     refine q_no F rfl (by decide) rfl rfl (by decide) fun a F => ?_
     refine q_no F rfl (by decide) rfl rfl (by decide) fun a F => ?_
     refine q_val F rfl rfl (by decide) (r_pick_t F rfl rfl rfl) fun a F => ?_
     refine nil ?_
     exact J206 c179 w180 a true (F.sub ⟨rfl, rfl, rfl, trivial⟩) E B h161 h155 h151 h154 H
   ·replace H := (if_neg hb176).symm.trans H
    refine q_no F rfl (by decide) rfl (congrArg not (decide_eq_false hb176)) (by decide) fun a F => ?_
    refine q_no F rfl (by decide) rfl (congrArg not (decide_eq_false hb176)) (by decide) fun a F => ?_
    refine q_no F rfl (by decide) rfl (congrArg not (decide_eq_false hb176)) (by decide) fun a F => ?_
    refine q_val F rfl rfl (by decide) (r_pick_t F rfl (congrArg not (decide_eq_false hb176)) rfl) fun a F => ?_
    refine q_val F rfl rfl (by decide) (r_move F rfl) fun a F => ?_
    refine q_no F rfl (by decide) rfl rfl (by decide) fun a F => ?_
    refine q_no F rfl (by decide) rfl rfl (by decide) fun a F => ?_
    refine q_no F rfl (by decide) rfl rfl (by decide) fun a F => ?_
    refine q_val F rfl rfl (by decide) (r_pick_t F rfl rfl rfl) fun a F => ?_
    refine q_val F rfl rfl (by decide) (r_move F rfl) fun a F => ?_
    refine q_no F rfl (by decide) rfl rfl (by decide) fun a F => ?_
    refine q_no F rfl (by decide) rfl rfl (by decide) fun a F => ?_
    refine q_val F rfl rfl (by decide) (r_pick_t F rfl rfl rfl) fun a F => ?_
    refine q_val F rfl rfl (by decide) (r_move F rfl) fun a F => ?_
    refine q_no F rfl (by decide) rfl rfl (by decide) fun a F => ?_
    refine q_val F rfl rfl (by decide) (r_pick_t F rfl rfl rfl) fun a F => ?_
    refine q_val F rfl rfl (by decide) (r_move F rfl) fun a F => ?_
    refine q_no F rfl (by decide) rfl rfl (by decide) fun a F => ?_
    refine q_val F rfl rfl (by decide) (r_pick_t F rfl rfl rfl) fun a F => ?_
    refine q_val F rfl rfl (by decide) (r_move F rfl) fun a F => ?_
    refine q_no F rfl (by decide) rfl rfl (by decide) fun a F => ?_
    refine q_no F rfl (by decide) rfl rfl (by decide) fun a F => ?_
    refine q_no F rfl (by decide) rfl rfl (by decide) fun a F => ?_
    refine q_val F rfl rfl (by decide) (r_pick_t F rfl rfl rfl) fun a F => ?_
    refine q_val F rfl rfl (by decide) (r_move F rfl) fun a F => ?_
    refine q_no F rfl (by decide) rfl rfl (by decide) fun a F => ?_
    refine q_no F rfl (by decide) rfl rfl (by decide) fun a F => ?_
    refine q_no F rfl (by decide) rfl rfl (by decide) fun a F => ?_
    refine q_val F rfl rfl (by decide) (r_pick_t F rfl rfl rfl) fun a F => ?_
    refine q_val F rfl rfl (by decide) (r_move F rfl) fun a F => ?_
    refine q_no F rfl (by decide) rfl rfl (by decide) fun a F => ?_
    refine q_no F rfl (by decide) rfl rfl (by decide) fun a F => ?_
    refine q_no F rfl (by decide) rfl rfl (by decide) fun a F => ?_
    refine q_no F rfl (by decide) rfl rfl (by decide) fun a F => ?_
    refine q_val F rfl rfl (by decide) (r_pick_t F rfl rfl rfl) fun a F => ?_
    refine nil ?_
    exact J206 c171 w172 a true (F.sub ⟨rfl, rfl, rfl, trivial⟩) E B h161 h155 h151 h154 H
 refine reg ?_
 refine q_val F rfl rfl (by decide) (r_move F rfl) fun a F => ?_
 refine q_val F rfl rfl (by decide) (r_peqlA F Try.underlying24 rfl rfl (SH.isNone h10)) fun a F => ?_
 refine q_val F rfl rfl (by decide) (r_move F rfl) fun a F => ?_
 by_cases hb14 : (Option.isNone t3) = true
 ·replace H := (if_pos hb14).symm.trans H
  refine q_no F rfl (by decide) rfl hb14 (by decide) fun a F => ?_
  refine q_no F rfl (by decide) rfl hb14 (by decide) fun a F => ?_
  refine q_no F rfl (by decide) rfl hb14 (by decide) fun a F => ?_
  refine q_no F rfl (by decide) rfl hb14 (by decide) fun a F => ?_
  refine q_no F rfl (by decide) rfl hb14 (by decide) fun a F => ?_
  refine q_val F rfl rfl (by decide) (r_pick_t F rfl hb14 rfl) fun a F => ?_
  refine q_val F rfl rfl (by decide) (r_move F rfl) fun a F => ?_
  refine q_no F rfl (by decide) rfl rfl (by decide) fun a F => ?_
  refine q_no F rfl (by decide) rfl rfl (by decide) fun a F => ?_
  refine q_no F rfl (by decide) rfl rfl (by decide) fun a F => ?_
  refine q_val F rfl rfl (by decide) (r_pick_t F rfl rfl rfl) fun a F => ?_
  refine nil ?_
  exact J48 c5 w6 a true (F.sub ⟨rfl, rfl, trivial⟩) E B h10 H
 ·replace H := (if_neg hb14).symm.trans H
  refine q_yes F rfl (by decide) rfl (bfalse hb14) ?_
  refine q_val F rfl rfl (by decide) (r_move F rfl) fun a F => ?_
  replace H := bind_some H
  obtain ⟨t15, q16, H⟩ := H
  refine q_yes F rfl (by decide) rfl (bfalse hb14) ?_
  refine q_call F rfl rfl (by decide) (r_call F Try.func21 rfl (by kernel_rfl) rfl) (shard_Shard_Export.calls k (m := m + 8) (Nat.add_pos_left hm0 _) B h10 (Nat.add_lt_add_left (by decide) m) ⟨(Nat.add_lt_add_left (by decide) m), (ne_mm (by decide))⟩ _ q16) ?_
  rintro e w18 ⟨c17, A21, C22, rfl, E19, B20, h23⟩
  refine ⟨_, rfl, fun a F => ?_⟩
  have B := B20
  replace h10 := SH.ev h10 E19 (fun q => q.elim) (fun q => q.elim) (fun q => q.elim)
  replace E := E.trans E19 (fun x q => q.elim)
  refine q_yes F rfl (by decide) rfl (bfalse hb14) ?_
  refine q_eff F rfl rfl (by decide) (e_buildSlice (n := 4) (e := 5) (c := c17) (k := (Kint .u8)) (i := 0) F [(0, .int .u8 2), (1, .int .u8 0), (2, .int .u8 0), (3, .int .u8 0)] [.int .u8 2, .int .u8 0, .int .u8 0, .int .u8 0] ([2, 0, 0, 0] : List Int) (by exact ⟨rfl, rfl, rfl, rfl, rfl, rfl, rfl, rfl, trivial⟩) (fun w => by kernel_rfl) rfl (by decide) rfl ⟨rfl, rfl, rfl, rfl, trivial⟩ (fun q => q) 0) ?_
  rintro v w26 a ⟨c25, A27, C28, rfl, E29, h30, B31⟩ F
  replace B := B31 _ B (Nat.add_pos_left hm0 _)
  replace h10 := SH.ev h10 E29 (fun q => q.elim) (fun q => q.elim) (fun q => q.elim)
  replace h23 := SL.ev h23 E29 (fun q => q.elim) (fun q => q.elim)
  replace E := E.trans E29 (fun x q => q.elim)
  replace H := bind_some H
  obtain ⟨t32, q33, H⟩ := H
  refine q_yes F rfl (by decide) rfl (bfalse hb14) ?_
  refine q_call F rfl rfl (by decide) (r_call F Try.func23 rfl (by kernel_rfl) rfl) (haulagelaw14_same.calls k (m := m + 8) (Nat.add_pos_left hm0 _) B h23 h30.r _ q33) ?_
  rintro e w35 ⟨c34, rfl, E36, B37⟩
  refine ⟨_, rfl, fun a F => ?_⟩
  have B := B37
  replace h10 := SH.ev h10 E36 (fun q => q.elim) (fun q => q.elim) (fun q => q.elim)
  replace h23 := SL.ev h23 E36 (fun q => q.elim) (fun q => q.elim)
  replace h30 := SL.ev h30 E36 (fun q => q.elim) (fun q => q.elim)
  replace E := E.trans E36 (fun x q => q.elim)
  refine q_yes F rfl (by decide) rfl (bfalse hb14) ?_
  refine q_val F rfl rfl (by decide) (r_not F rfl) fun a F => ?_
  refine q_val F rfl rfl (by decide) (r_pick_f F rfl (bfalse hb14) rfl) fun a F => ?_
  refine q_val F rfl rfl (by decide) (r_move F rfl) fun a F => ?_
  by_cases hb39 : t32 = true
  ·replace H := (if_pos hb39).symm.trans H
   refine q_yes F rfl (by decide) rfl (congrArg not hb39) ?_
   refine q_val F rfl rfl (by decide) (r_move F rfl) fun a F => ?_
   replace H := bind_some H
   obtain ⟨t40, q41, H⟩ := H
   refine q_yes F rfl (by decide) rfl (congrArg not hb39) ?_
   refine q_call F rfl rfl (by decide) (r_call F Try.func32 rfl (by kernel_rfl) rfl) (shard_Shard_Size.calls k (m := m + 8) (Nat.add_pos_left hm0 _) B h10 (Nat.add_lt_add_left (by decide) m) ⟨(Nat.add_lt_add_left (by decide) m), (ne_mm (by decide))⟩ _ q41) ?_
   rintro e w43 ⟨c42, rfl, E44, B45⟩
   refine ⟨_, rfl, fun a F => ?_⟩
   have B := B45
   replace h10 := SH.ev h10 E44 (fun q => q.elim) (fun q => q.elim) (fun q => q.elim)
   replace h23 := SL.ev h23 E44 (fun q => q.elim) (fun q => q.elim)
   replace h30 := SL.ev h30 E44 (fun q => q.elim) (fun q => q.elim)
   replace E := E.trans E44 (fun x q => q.elim)
   refine q_yes F rfl (by decide) rfl (congrArg not hb39) ?_
   refine q_val F rfl rfl (by decide) (r_neq F rfl rfl) fun a F => ?_
   refine q_val F rfl rfl (by decide) (r_pick_f F rfl (congrArg not hb39) rfl) fun a F => ?_
   refine nil ?_
   exact J48 c42 w43 a (!decide (t40 = 4)) (F.sub ⟨rfl, rfl, trivial⟩) E B h10 H
  ·replace H := (if_neg hb39).symm.trans H
   refine q_no F rfl (by decide) rfl (congrArg not (bfalse hb39)) (by decide) fun a F => ?_
   refine q_no F rfl (by decide) rfl (congrArg not (bfalse hb39)) (by decide) fun a F => ?_
   refine q_no F rfl (by decide) rfl (congrArg not (bfalse hb39)) (by decide) fun a F => ?_
   refine q_val F rfl rfl (by decide) (r_pick_t F rfl (congrArg not (bfalse hb39)) rfl) fun a F => ?_
   refine nil ?_
   exact J48 c34 w35 a true (F.sub ⟨rfl, rfl, trivial⟩) E B h10 H
end Go.Proofs.Ythankpjbfpcldaa.G
