/- Words, contracts and plain laws on which the row of 'ShardKnown' hangs (its '..UptoSaid': inputs of bulk at most 1048576). -/
import Derived.Test.YthankpjbfpcldaaGreatHShardKnownA
import Derived.Test.YthankpjbfpcldaaGreatHShardKnownB
import Derived.Test.YthankpjbfpcldaaGreatHShardKnownC
import Derived.Laws.Panics
import Derived.Recover
import Derived.WideLaws
namespace Go.Proofs.YthankpjbfpcldaaGreat.G
open Go Go.RowKit
set_option linter.unusedVariables false
set_option linter.unusedSimpArgs false
set_option maxRecDepth 100000
set_option maxHeartbeats 40000000
theorem shard_Shard_Export.calls (k : Nat) {m : Nat} {c0 : Nat → Nat} {w0 : World} {j4 : Nat} {j5 : Nat} {p2 : Option Addr} {a1 : Option Sha} (hm0 : 0 < m) (B0 : CB m c0 w0) (h3 : SH j4 j5 c0 w0 p2 a1) (bj4 : j4 < m) (bj5 : j5 < m ∧ j5 ≠ j4) (r : (List Int)) (H : shard_Shard_Export.f k a1 = some r) : Calls Tryz.prog 23 #[.pointer p2] w0 (fun e w_ => ∃ (c_ : Nat → Nat) (A0_ : Option Addr) (C0_ : Nat), e = .returned (.slice A0_ r.length C0_) ∧ Ev (fun x => False) c0 w0 c_ w_ ∧ CB m c_ w_ ∧ SL false (Kint .u8) 0 0 c_ w_ A0_ C0_ r) := by
 unfold shard_Shard_Export.f at H
 have B := B0.mono (show m ≤ m + 3 by omega)
 have E : Ev (fun x => False ∨ m ≤ x) c0 w0 c0 w0 := Ev.refl
 refine enter (N := 27) (l := [.pointer p2]) Tryz.func23 rfl rfl (nb rfl) fun a F => ?_
 refine wp_seq_k fun K6 hK6 => reg ?_
 refine qa F fun a F => ?_
 refine nil (hK6 _ _ ?_)
 refine wp_seq_k fun K7 hK7 => ?_
 refine wp_seq_k fun K8 hK8 => reg ?_
 refine qm F fun a F => ?_
 refine qv F (r_peqlA F Tryz.underlying23 rfl rfl (SH.isNone h3)) fun a F => ?_
 refine nil (hK8 _ _ ?_)
 by_cases hb9 : (Option.isNone a1) = true
 ·replace H := ip hb9 H
  refine wp_cond_true (fb F hb9) ?_
  refine wp_seq_k fun K10 hK10 => reg ?_
  refine qa F fun a F => ?_
  refine nil (hK10 _ _ ?_)
  refine wp_ret ?_
  refine thenR ?_
  replace H := si H
  subst H
  refine out1 F rfl rfl ?_
  exact ⟨cf (fun x_ => if x_ < m then x_ else 0) c0, none, 0, rfl, E.lv B0, cfb, SL.nil⟩
 replace H := im hb9 H
 refine wp_cond_false (fb F (bfalse hb9)) (wp_skip (hK7 _ _ ?_))
 refine wp_seq_k fun K11 hK11 => reg ?_
 obtain ⟨t12, q13, H⟩ := bind_some H
 refine qc F Tryz.func71 (parcel_New.calls (m := m + 3) (pl hm0) B (m + 1) lm (m + 2) lm _ q13) ?_
 rintro e w15 ⟨c14, p18, rfl, E16, B17, h19⟩
 refine ⟨_, rfl, fun a F => ?_⟩
 have B := B17
 replace h3 := h3.ev E16 nq nq nq
 replace E := E.trans E16 nx
 refine qa F fun a F => ?_
 refine nil (hK11 _ _ ?_)
 refine wp_seq_k fun K21 hK21 => reg ?_
 refine qm F fun a F => ?_
 refine qm F fun a F => ?_
 obtain ⟨ob22, e23, H⟩ := bind_some H
 have z24 := h3
 rw [e23] at z24
 obtain ⟨ad25, p27, cs29, rfl, hat26, h28, h30⟩ := SH.some z24
 refine qv F (r_nil F rfl) fun a F => ?_
 refine qf F ff_80_0 fun a F => ?_
 refine qv F (r_load F rfl ag_75 (AT.cell hat26 rfl)) fun a F => ?_
 obtain ⟨t32, q33, H⟩ := bind_some H
 refine qc F Tryz.func73 (table_Table_Bytes.calls k (m := m + 3) (pl hm0) B h28 (Nat.lt_add_right _ bj5.1) _ q33) ?_
 rintro e w35 ⟨c34, A38, C39, rfl, E36, B37, h40⟩
 refine ⟨_, rfl, fun a F => ?_⟩
 have B := B37
 replace h19 := h19.ev E36 nq nq nq
 replace h30 := h30.ev E36 nq
 replace hat26 := hat26.ev E36 nq
 replace E := E.trans E36 nx
 obtain ⟨t42, q43, H⟩ := bind_some H
 refine qc F Tryz.func72 (parcel_Writer_Text.calls k (m := m + 3) (pl hm0) B h19 h40 ⟨(pl hm0), lm⟩ ⟨(pl hm0), lm, mm⟩ _ q43) ?_
 rintro e w45 ⟨c44, rfl, E46, B47, h48⟩
 refine ⟨_, rfl, fun a F => ?_⟩
 have B := B47
 replace h30 := h30.ev E46 (nor ne_zm ne_zm)
 replace hat26 := hat26.ev E46 (nor (ne_pm bj4) (ne_pm bj4))
 replace E := E.trans E46 lc2
 refine nil (hK21 _ _ ?_)
 replace F : Fr a 27 [(0, .pointer (some ad25)), (3, .pointer p18)] := F.sub ⟨rfl, rfl, trivial⟩
 refine wp_seq_k fun K50 hK50 => reg ?_
 refine qm F fun a F => ?_
 refine qv F (r_nil F rfl) fun a F => ?_
 refine qf F ff_80_1 fun a F => ?_
 refine qm F fun a F => ?_
 have h51 : SE j4 c44 w45 (some (ad25.add 1)) ob22.seats := SE.mk (AT.seg hat26 rfl (h30.1 : cs29.length = 112)) h30
 obtain ⟨t52, q53, H⟩ := bind_some H
 refine qc F Tryz.func74 (shard_seats_lay.calls k (m := m + 3) (pl hm0) B h51 h48 ⟨(Nat.lt_add_right _ bj4), (ne_pm bj4), (ne_pm bj4)⟩ ⟨(pl hm0), lm⟩ ⟨(pl hm0), lm, mm⟩ _ q53) ?_
 rintro e w55 ⟨c54, rfl, E56, B57, h58⟩
 refine ⟨_, rfl, fun a F => ?_⟩
 have B := B57
 replace E := E.trans E56 lc2
 refine nil (hK50 _ _ ?_)
 refine wp_seq_k fun K60 hK60 => reg ?_
 refine qm F fun a F => ?_
 obtain ⟨t61, q62, H⟩ := bind_some H
 refine qc F Tryz.func75 (parcel_Writer_Done.calls (m := m + 3) (pl hm0) B h58 lm ⟨lm, mm⟩ 0 (pl hm0) _ q62) ?_
 rintro e w64 ⟨c63, A67, C68, rfl, E65, B66, h69⟩
 refine ⟨_, rfl, fun a F => ?_⟩
 have B := B66
 replace E := E.trans E65 nx
 refine qm F fun a F => ?_
 refine qv F (r_extract F rfl rfl) fun a F => ?_
 refine qv F (r_extract F rfl rfl) fun a F => ?_
 refine qa F fun a F => ?_
 refine qa F fun a F => ?_
 refine nil (hK60 _ _ ?_)
 replace F : Fr a 27 [(4, .slice A67 t61.1.length C68)] := F.sub ⟨rfl, trivial⟩
 refine wp_seq_k fun K71 hK71 => reg ?_
 refine qm F fun a F => ?_
 refine qa F fun a F => ?_
 refine nil (hK71 _ _ ?_)
 refine wp_ret ?_
 replace H := si H
 subst H
 refine out1 F rfl rfl ?_
 exact ⟨cf (fun x_ => if x_ < m then x_ else 0) c63, A67, C68, rfl, E.lv B0, cfb, SL.rc h69.r cfk cfk⟩
theorem table_Table_Len.calls {m : Nat} {c0 : Nat → Nat} {w0 : World} {j4 : Nat} {p2 : Option Addr} {a1 : Option Tab} (hm0 : 0 < m) (B0 : CB m c0 w0) (h3 : TB j4 c0 w0 p2 a1) (bj4 : j4 < m) (r : Int) (H : table_Table_Len.f a1 = some r) : Calls Tryz.prog 92 #[.pointer p2] w0 (fun e w_ => ∃ (c_ : Nat → Nat), e = .returned (.int .i64 r) ∧ Ev (fun x => False) c0 w0 c_ w_ ∧ CB m c_ w_) := by
 unfold table_Table_Len.f at H
 have B := B0.mono (show m ≤ m + 1 by omega)
 have E : Ev (fun x => False ∨ m ≤ x) c0 w0 c0 w0 := Ev.refl
 refine enter (N := 10) (l := [.pointer p2]) Tryz.func92 rfl rfl (nb rfl) fun a F => ?_
 refine wp_seq_k fun K5 hK5 => reg ?_
 refine qa F fun a F => ?_
 refine nil (hK5 _ _ ?_)
 refine wp_seq_k fun K6 hK6 => ?_
 refine wp_seq_k fun K7 hK7 => reg ?_
 refine qm F fun a F => ?_
 refine qv F (r_peqlA F Tryz.underlying75 rfl rfl (TB.isNone h3)) fun a F => ?_
 refine nil (hK7 _ _ ?_)
 by_cases hb8 : (Option.isNone a1) = true
 ·replace H := ip hb8 H
  refine wp_cond_true (fb F hb8) ?_
  refine wp_seq_k fun K9 hK9 => reg ?_
  refine qa F fun a F => ?_
  refine nil (hK9 _ _ ?_)
  refine wp_ret ?_
  refine thenR ?_
  replace H := si H
  subst H
  refine out1 F rfl rfl ?_
  exact ⟨cf (fun x_ => if x_ < m then x_ else 0) c0, rfl, E.lv B0, cfb⟩
 replace H := im hb8 H
 refine wp_cond_false (fb F (bfalse hb8)) (wp_skip (hK6 _ _ ?_))
 refine wp_seq_k fun K10 hK10 => reg ?_
 refine qm F fun a F => ?_
 obtain ⟨ob11, e12, H⟩ := bind_some H
 have z13 := h3
 rw [e12] at z13
 obtain ⟨ad14, p16, rfl, hat15, h17⟩ := TB.some z13
 refine qv F (r_nil F rfl) fun a F => ?_
 refine qf F ff_135_0 fun a F => ?_
 refine qv F (r_load F rfl ag_130 (AT.cell hat15 rfl)) fun a F => ?_
 obtain ⟨t19, q20, H⟩ := bind_some H
 refine qc F Tryz.func127 (tree_Tree_Len.calls (m := m + 1) (pl hm0) B h17 _ q20) ?_
 rintro e w22 ⟨c21, rfl, E23, B24⟩
 refine ⟨_, rfl, fun a F => ?_⟩
 have B := B24
 replace E := E.trans E23 nx
 refine qa F fun a F => ?_
 refine nil (hK10 _ _ ?_)
 replace F : Fr a 10 [(2, .int .i64 t19)] := F.sub ⟨rfl, trivial⟩
 refine wp_ret ?_
 replace H := si H
 subst H
 refine out1 F rfl rfl ?_
 exact ⟨cf (fun x_ => if x_ < m then x_ else 0) c21, rfl, E.lv B0, cfb⟩
theorem shard_Shard_Len.calls {m : Nat} {c0 : Nat → Nat} {w0 : World} {j4 : Nat} {j5 : Nat} {p2 : Option Addr} {a1 : Option Sha} (hm0 : 0 < m) (B0 : CB m c0 w0) (h3 : SH j4 j5 c0 w0 p2 a1) (bj4 : j4 < m) (bj5 : j5 < m ∧ j5 ≠ j4) (r : Int) (H : shard_Shard_Len.f a1 = some r) : Calls Tryz.prog 38 #[.pointer p2] w0 (fun e w_ => ∃ (c_ : Nat → Nat), e = .returned (.int .i64 r) ∧ Ev (fun x => False) c0 w0 c_ w_ ∧ CB m c_ w_) := by
 unfold shard_Shard_Len.f at H
 have B := B0.mono (show m ≤ m + 1 by omega)
 have E : Ev (fun x => False ∨ m ≤ x) c0 w0 c0 w0 := Ev.refl
 refine enter (N := 10) (l := [.pointer p2]) Tryz.func38 rfl rfl (nb rfl) fun a F => ?_
 refine wp_seq_k fun K6 hK6 => reg ?_
 refine qa F fun a F => ?_
 refine nil (hK6 _ _ ?_)
 refine wp_seq_k fun K7 hK7 => ?_
 refine wp_seq_k fun K8 hK8 => reg ?_
 refine qm F fun a F => ?_
 refine qv F (r_peqlA F Tryz.underlying23 rfl rfl (SH.isNone h3)) fun a F => ?_
 refine nil (hK8 _ _ ?_)
 by_cases hb9 : (Option.isNone a1) = true
 ·replace H := ip hb9 H
  refine wp_cond_true (fb F hb9) ?_
  refine wp_seq_k fun K10 hK10 => reg ?_
  refine qa F fun a F => ?_
  refine nil (hK10 _ _ ?_)
  refine wp_ret ?_
  refine thenR ?_
  replace H := si H
  subst H
  refine out1 F rfl rfl ?_
  exact ⟨cf (fun x_ => if x_ < m then x_ else 0) c0, rfl, E.lv B0, cfb⟩
 replace H := im hb9 H
 refine wp_cond_false (fb F (bfalse hb9)) (wp_skip (hK7 _ _ ?_))
 refine wp_seq_k fun K11 hK11 => reg ?_
 refine qm F fun a F => ?_
 obtain ⟨ob12, e13, H⟩ := bind_some H
 have z14 := h3
 rw [e13] at z14
 obtain ⟨ad15, p17, cs19, rfl, hat16, h18, h20⟩ := SH.some z14
 refine qv F (r_nil F rfl) fun a F => ?_
 refine qf F ff_80_0 fun a F => ?_
 refine qv F (r_load F rfl ag_75 (AT.cell hat16 rfl)) fun a F => ?_
 obtain ⟨t22, q23, H⟩ := bind_some H
 refine qc F Tryz.func92 (table_Table_Len.calls (m := m + 1) (pl hm0) B h18 (Nat.lt_add_right _ bj5.1) _ q23) ?_
 rintro e w25 ⟨c24, rfl, E26, B27⟩
 refine ⟨_, rfl, fun a F => ?_⟩
 have B := B27
 replace E := E.trans E26 nx
 refine qa F fun a F => ?_
 refine nil (hK11 _ _ ?_)
 replace F : Fr a 10 [(2, .int .i64 t22)] := F.sub ⟨rfl, trivial⟩
 refine wp_ret ?_
 replace H := si H
 subst H
 refine out1 F rfl rfl ?_
 exact ⟨cf (fun x_ => if x_ < m then x_ else 0) c24, rfl, E.lv B0, cfb⟩
theorem table_Table_Rev.calls {m : Nat} {c0 : Nat → Nat} {w0 : World} {j4 : Nat} {p2 : Option Addr} {a1 : Option Tab} (hm0 : 0 < m) (B0 : CB m c0 w0) (h3 : TB j4 c0 w0 p2 a1) (bj4 : j4 < m) (r : Int) (H : table_Table_Rev.f a1 = some r) : Calls Tryz.prog 69 #[.pointer p2] w0 (fun e w_ => ∃ (c_ : Nat → Nat), e = .returned (.int .i64 r) ∧ Ev (fun x => False) c0 w0 c_ w_ ∧ CB m c_ w_) := by
 unfold table_Table_Rev.f at H
 have B := B0.mono (show m ≤ m + 1 by omega)
 have E : Ev (fun x => False ∨ m ≤ x) c0 w0 c0 w0 := Ev.refl
 refine enter (N := 9) (l := [.pointer p2]) Tryz.func69 rfl rfl (nb rfl) fun a F => ?_
 refine wp_seq_k fun K5 hK5 => reg ?_
 refine qa F fun a F => ?_
 refine nil (hK5 _ _ ?_)
 refine wp_seq_k fun K6 hK6 => ?_
 refine wp_seq_k fun K7 hK7 => reg ?_
 refine qm F fun a F => ?_
 refine qv F (r_peqlA F Tryz.underlying75 rfl rfl (TB.isNone h3)) fun a F => ?_
 refine nil (hK7 _ _ ?_)
 by_cases hb8 : (Option.isNone a1) = true
 ·replace H := ip hb8 H
  refine wp_cond_true (fb F hb8) ?_
  refine wp_seq_k fun K9 hK9 => reg ?_
  refine qa F fun a F => ?_
  refine nil (hK9 _ _ ?_)
  refine wp_ret ?_
  refine thenR ?_
  replace H := si H
  subst H
  refine out1 F rfl rfl ?_
  exact ⟨cf (fun x_ => if x_ < m then x_ else 0) c0, rfl, E.lv B0, cfb⟩
 replace H := im hb8 H
 refine wp_cond_false (fb F (bfalse hb8)) (wp_skip (hK6 _ _ ?_))
 refine wp_seq_k fun K10 hK10 => reg ?_
 refine qm F fun a F => ?_
 obtain ⟨ob11, e12, H⟩ := bind_some H
 have z13 := h3
 rw [e12] at z13
 obtain ⟨ad14, p16, rfl, hat15, h17⟩ := TB.some z13
 refine qv F (r_nil F rfl) fun a F => ?_
 refine qf F ff_135_1 fun a F => ?_
 refine qv F (r_load F rfl ag_3 (AT.cell hat15 rfl)) fun a F => ?_
 refine qa F fun a F => ?_
 refine nil (hK10 _ _ ?_)
 refine wp_ret ?_
 replace H := si H
 subst H
 refine out1 F rfl rfl ?_
 exact ⟨cf (fun x_ => if x_ < m then x_ else 0) c0, rfl, E.lv B0, cfb⟩
theorem shard_Shard_Rev.calls {m : Nat} {c0 : Nat → Nat} {w0 : World} {j4 : Nat} {j5 : Nat} {p2 : Option Addr} {a1 : Option Sha} (hm0 : 0 < m) (B0 : CB m c0 w0) (h3 : SH j4 j5 c0 w0 p2 a1) (bj4 : j4 < m) (bj5 : j5 < m ∧ j5 ≠ j4) (r : Int) (H : shard_Shard_Rev.f a1 = some r) : Calls Tryz.prog 37 #[.pointer p2] w0 (fun e w_ => ∃ (c_ : Nat → Nat), e = .returned (.int .i64 r) ∧ Ev (fun x => False) c0 w0 c_ w_ ∧ CB m c_ w_) := by
 unfold shard_Shard_Rev.f at H
 have B := B0.mono (show m ≤ m + 1 by omega)
 have E : Ev (fun x => False ∨ m ≤ x) c0 w0 c0 w0 := Ev.refl
 refine enter (N := 10) (l := [.pointer p2]) Tryz.func37 rfl rfl (nb rfl) fun a F => ?_
 refine wp_seq_k fun K6 hK6 => reg ?_
 refine qa F fun a F => ?_
 refine nil (hK6 _ _ ?_)
 refine wp_seq_k fun K7 hK7 => ?_
 refine wp_seq_k fun K8 hK8 => reg ?_
 refine qm F fun a F => ?_
 refine qv F (r_peqlA F Tryz.underlying23 rfl rfl (SH.isNone h3)) fun a F => ?_
 refine nil (hK8 _ _ ?_)
 by_cases hb9 : (Option.isNone a1) = true
 ·replace H := ip hb9 H
  refine wp_cond_true (fb F hb9) ?_
  refine wp_seq_k fun K10 hK10 => reg ?_
  refine qa F fun a F => ?_
  refine nil (hK10 _ _ ?_)
  refine wp_ret ?_
  refine thenR ?_
  replace H := si H
  subst H
  refine out1 F rfl rfl ?_
  exact ⟨cf (fun x_ => if x_ < m then x_ else 0) c0, rfl, E.lv B0, cfb⟩
 replace H := im hb9 H
 refine wp_cond_false (fb F (bfalse hb9)) (wp_skip (hK7 _ _ ?_))
 refine wp_seq_k fun K11 hK11 => reg ?_
 refine qm F fun a F => ?_
 obtain ⟨ob12, e13, H⟩ := bind_some H
 have z14 := h3
 rw [e13] at z14
 obtain ⟨ad15, p17, cs19, rfl, hat16, h18, h20⟩ := SH.some z14
 refine qv F (r_nil F rfl) fun a F => ?_
 refine qf F ff_80_0 fun a F => ?_
 refine qv F (r_load F rfl ag_75 (AT.cell hat16 rfl)) fun a F => ?_
 obtain ⟨t22, q23, H⟩ := bind_some H
 refine qc F Tryz.func69 (table_Table_Rev.calls (m := m + 1) (pl hm0) B h18 (Nat.lt_add_right _ bj5.1) _ q23) ?_
 rintro e w25 ⟨c24, rfl, E26, B27⟩
 refine ⟨_, rfl, fun a F => ?_⟩
 have B := B27
 replace E := E.trans E26 nx
 refine qa F fun a F => ?_
 refine nil (hK11 _ _ ?_)
 replace F : Fr a 10 [(2, .int .i64 t22)] := F.sub ⟨rfl, trivial⟩
 refine wp_ret ?_
 replace H := si H
 subst H
 refine out1 F rfl rfl ?_
 exact ⟨cf (fun x_ => if x_ < m then x_ else 0) c24, rfl, E.lv B0, cfb⟩
theorem haulagelaw14_known.calls (k : Nat) {m : Nat} {c0 : Nat → Nat} {w0 : World} (hm0 : 0 < m) (B0 : CB m c0 w0) (r : Bool) (H : haulagelaw14_known.f k = some r) : Calls Tryz.prog 21 #[] w0 (fun e w_ => ∃ (c_ : Nat → Nat), e = .returned (.bool r) ∧ Ev (fun x => False) c0 w0 c_ w_ ∧ CB m c_ w_) := by
 unfold haulagelaw14_known.f at H
 have B := B0.mono (show m ≤ m + 8 by omega)
 have E : Ev (fun x => False ∨ m ≤ x) c0 w0 c0 w0 := Ev.refl
 refine enter (N := 122) (l := []) Tryz.func21 rfl rfl (nb rfl) fun a F => ?_
 refine wp_seq_k fun K1 hK1 => reg ?_
 refine qa F fun a F => ?_
 refine nil (hK1 _ _ ?_)
 refine wp_seq_k fun K2 hK2 => reg ?_
 obtain ⟨t3, q4, H⟩ := bind_some H
 refine qc F Tryz.func8 (shard_New.calls (m := m + 8) (pl hm0) B (m + 1) lm (m + 2) lm _ q4) ?_
 rintro e w6 ⟨c5, p9, rfl, E7, B8, h10⟩
 refine ⟨_, rfl, fun a F => ?_⟩
 have B := B8
 replace E := E.trans E7 nx
 refine qa F fun a F => ?_
 refine nil (hK2 _ _ ?_)
 refine wp_seq_k fun K12 hK12 => ?_
 refine wp_seq_k fun K13 hK13 => ?_
 have J48 : ∀ (c49 : Nat → Nat) (w50 : World) (a : Act) (b47 : Bool), Fr a 122 [(1, .pointer p9), (25, .bool b47)] → Ev (fun x => False ∨ m ≤ x) c0 w0 c49 w50 → CB (m + 8) c49 w50 → SH (m + 1) (m + 2) c49 w50 p9 t3 → haulagelaw14_known.j1 k t3 b47 = some r → K13 a w50 := by
  intro c49 w50 a b47 F E B h10 H
  unfold haulagelaw14_known.j1 at H
  as_aux_lemma =>
  refine hK13 _ _ ?_
  by_cases hb51 : b47 = true
  ·replace H := ip hb51 H
   refine wp_cond_true (fb F hb51) ?_
   refine wp_seq_k fun K52 hK52 => reg ?_
   refine qa F fun a F => ?_
   refine nil (hK52 _ _ ?_)
   refine wp_ret ?_
   refine thenR ?_
   replace H := si H
   subst H
   refine out1 F rfl rfl ?_
   exact ⟨cf (fun x_ => if x_ < m then x_ else 0) c49, rfl, E.lv B0, cfb⟩
  replace H := im hb51 H
  refine wp_cond_false (fb F (bfalse hb51)) (wp_skip (hK12 _ _ ?_))
  refine wp_seq_k fun K53 hK53 => reg ?_
  refine qm F fun a F => ?_
  obtain ⟨t54, q55, H⟩ := bind_some H
  refine qc F Tryz.func34 (haulagelaw14_put.calls (m := m + 8) (pl hm0) B _ q55) ?_
  rintro e w57 ⟨c56, A60, C61, A63, C64, rfl, E58, B59, h62, h65⟩
  refine ⟨_, rfl, fun a F => ?_⟩
  have B := B59
  replace h10 := h10.ev E58 nq nq nq
  as_aux_lemma =>
  replace E := E.trans E58 nx
  obtain ⟨t67, q68, H⟩ := bind_some H
  refine qc F Tryz.func11 (shard_Shard_Do.calls k (m := m + 8) (pl hm0) B h10 h62 h65 ⟨(pl hm0), lm⟩ ⟨(pl hm0), lm, mm⟩ _ q68) ?_
  rintro e w70 ⟨c69, A73, C74, A76, C77, rfl, E71, B72, h75, h78, h79⟩
  refine ⟨_, rfl, fun a F => ?_⟩
  have B := B72
  replace E := E.trans E71 lc2
  refine qm F fun a F => ?_
  refine qv F (r_extract F rfl rfl) fun a F => ?_
  refine qv F (r_extract F rfl rfl) fun a F => ?_
  refine qv F (r_extract F rfl rfl) fun a F => ?_
  refine q_eff F rfl rfl (by decide) (e_alloc F zv_32 c69 (m + 3)) ?_
  rintro v w82 a ⟨c81, qa83, rfl, E84, h85, B86⟩ F
  replace B := B86 _ B lm
  replace h75 := h75.ev E84 nq nq
  replace h78 := h78.ev E84 nq nq
  replace h79 := h79.ev E84 nq nq nq
  replace E := E.trans E84 nx
  replace h85 : AT true (m + 3) c81 w82 qa83 [.bool false, .slice none 0 0, .slice none 0 0, .int .i64 0, .int .i64 0] := h85
  refine q_eff0 F rfl rfl (e_storeN0 (us := [.bool t67.1.Done, .slice A73 t67.1.Key.length C74, .slice A76 t67.1.Value.length C77, .int .i64 t67.1.Rev, .int .i64 t67.1.At]) F rfl rfl sz_32 h85 (nb rfl) (one_all rfl)) ?_
  rintro w88 a ⟨E89, h85, Z90⟩ F
  replace B := B.size Z90
  as_aux_lemma =>
  replace h75 := h75.ev E89 ne_zm ne_zm
  replace h78 := h78.ev E89 ne_zm ne_zm
  replace h79 := h79.ev E89 mm mm ne_zm
  replace E := E.trans E89 lc1
  replace h85 : AT true (m + 3) c81 w88 qa83 [.bool t67.1.Done, .slice A73 t67.1.Key.length C74, .slice A76 t67.1.Value.length C77, .int .i64 t67.1.Rev, .int .i64 t67.1.At] := h85
  refine qa F fun a F => ?_
  refine qa F fun a F => ?_
  refine nil (hK53 _ _ ?_)
  replace F : Fr a 122 [(1, .pointer p9), (2, .pointer (some qa83)), (3, .bool t67.2.1), (4, .int .i64 t67.2.2.1)] := F.sub ⟨rfl, rfl, rfl, rfl, trivial⟩
  refine wp_seq_k fun K91 hK91 => reg ?_
  refine qm F fun a F => ?_
  obtain ⟨t92, q93, H⟩ := bind_some H
  refine qc F Tryz.func34 (haulagelaw14_put.calls (m := m + 8) (pl hm0) B _ q93) ?_
  rintro e w95 ⟨c94, A98, C99, A101, C102, rfl, E96, B97, h100, h103⟩
  refine ⟨_, rfl, fun a F => ?_⟩
  have B := B97
  replace h75 := h75.ev E96 nq nq
  replace h78 := h78.ev E96 nq nq
  replace h79 := h79.ev E96 nq nq nq
  replace h85 := h85.ev E96 nq
  replace E := E.trans E96 nx
  obtain ⟨t105, q106, H⟩ := bind_some H
  as_aux_lemma =>
  refine qc F Tryz.func11 (shard_Shard_Do.calls k (m := m + 8) (pl hm0) B h79 h100 h103 ⟨(pl hm0), lm⟩ ⟨(pl hm0), lm, mm⟩ _ q106) ?_
  rintro e w108 ⟨c107, A111, C112, A114, C115, rfl, E109, B110, h113, h116, h117⟩
  refine ⟨_, rfl, fun a F => ?_⟩
  have B := B110
  replace h75 := h75.ev E109 (nor ne_zm ne_zm) (nor ne_zm ne_zm)
  replace h78 := h78.ev E109 (nor ne_zm ne_zm) (nor ne_zm ne_zm)
  replace h85 := h85.ev E109 (nor mm mm)
  replace E := E.trans E109 lc2
  refine qm F fun a F => ?_
  refine qv F (r_extract F rfl rfl) fun a F => ?_
  refine qv F (r_extract F rfl rfl) fun a F => ?_
  refine qv F (r_extract F rfl rfl) fun a F => ?_
  refine q_eff F rfl rfl (by decide) (e_alloc F zv_32 c107 (m + 4)) ?_
  rintro v w120 a ⟨c119, qa121, rfl, E122, h123, B124⟩ F
  replace B := B124 _ B lm
  replace h75 := h75.ev E122 nq nq
  replace h78 := h78.ev E122 nq nq
  replace h85 := h85.ev E122 nq
  replace h113 := h113.ev E122 nq nq
  replace h116 := h116.ev E122 nq nq
  replace h117 := h117.ev E122 nq nq nq
  replace E := E.trans E122 nx
  as_aux_lemma =>
  replace h123 : AT true (m + 4) c119 w120 qa121 [.bool false, .slice none 0 0, .slice none 0 0, .int .i64 0, .int .i64 0] := h123
  refine q_eff0 F rfl rfl (e_storeN0 (us := [.bool t105.1.Done, .slice A111 t105.1.Key.length C112, .slice A114 t105.1.Value.length C115, .int .i64 t105.1.Rev, .int .i64 t105.1.At]) F rfl rfl sz_32 h123 (nb rfl) (one_all rfl)) ?_
  rintro w126 a ⟨E127, h123, Z128⟩ F
  replace B := B.size Z128
  replace h75 := h75.ev E127 ne_zm ne_zm
  replace h78 := h78.ev E127 ne_zm ne_zm
  replace h85 := h85.ev E127 mm
  replace h113 := h113.ev E127 ne_zm ne_zm
  replace h116 := h116.ev E127 ne_zm ne_zm
  replace h117 := h117.ev E127 mm mm ne_zm
  replace E := E.trans E127 lc1
  replace h123 : AT true (m + 4) c119 w126 qa121 [.bool t105.1.Done, .slice A111 t105.1.Key.length C112, .slice A114 t105.1.Value.length C115, .int .i64 t105.1.Rev, .int .i64 t105.1.At] := h123
  refine qa F fun a F => ?_
  refine qa F fun a F => ?_
  refine nil (hK91 _ _ ?_)
  refine wp_seq_k fun K129 hK129 => reg ?_
  refine qm F fun a F => ?_
  obtain ⟨t130, q131, H⟩ := bind_some H
  refine qc F Tryz.func35 (haulagelaw14_get.calls (m := m + 8) (pl hm0) B 0 (pl hm0) _ q131) ?_
  rintro e w133 ⟨c132, A136, C137, A139, C140, rfl, E134, B135, h138, h141⟩
  refine ⟨_, rfl, fun a F => ?_⟩
  have B := B135
  as_aux_lemma =>
  replace h75 := h75.ev E134 nq nq
  replace h78 := h78.ev E134 nq nq
  replace h85 := h85.ev E134 nq
  replace h113 := h113.ev E134 nq nq
  replace h116 := h116.ev E134 nq nq
  replace h117 := h117.ev E134 nq nq nq
  replace h123 := h123.ev E134 nq
  replace E := E.trans E134 nx
  obtain ⟨t143, q144, H⟩ := bind_some H
  refine qc F Tryz.func11 (shard_Shard_Do.calls k (m := m + 8) (pl hm0) B h117 h138 h141.r ⟨(pl hm0), lm⟩ ⟨(pl hm0), lm, mm⟩ _ q144) ?_
  rintro e w146 ⟨c145, A149, C150, A152, C153, rfl, E147, B148, h151, h154, h155⟩
  refine ⟨_, rfl, fun a F => ?_⟩
  have B := B148
  replace h75 := h75.ev E147 (nor ne_zm ne_zm) (nor ne_zm ne_zm)
  replace h78 := h78.ev E147 (nor ne_zm ne_zm) (nor ne_zm ne_zm)
  replace h85 := h85.ev E147 (nor mm mm)
  replace h113 := h113.ev E147 (nor ne_zm ne_zm) (nor ne_zm ne_zm)
  replace h116 := h116.ev E147 (nor ne_zm ne_zm) (nor ne_zm ne_zm)
  replace h123 := h123.ev E147 (nor mm mm)
  replace E := E.trans E147 lc2
  refine qm F fun a F => ?_
  refine qv F (r_extract F rfl rfl) fun a F => ?_
  as_aux_lemma =>
  refine qv F (r_extract F rfl rfl) fun a F => ?_
  refine qv F (r_extract F rfl rfl) fun a F => ?_
  refine q_eff F rfl rfl (by decide) (e_alloc F zv_32 c145 (m + 5)) ?_
  rintro v w158 a ⟨c157, qa159, rfl, E160, h161, B162⟩ F
  replace B := B162 _ B lm
  replace h75 := h75.ev E160 nq nq
  replace h78 := h78.ev E160 nq nq
  replace h85 := h85.ev E160 nq
  replace h113 := h113.ev E160 nq nq
  replace h116 := h116.ev E160 nq nq
  replace h123 := h123.ev E160 nq
  replace h151 := h151.ev E160 nq nq
  replace h154 := h154.ev E160 nq nq
  replace h155 := h155.ev E160 nq nq nq
  replace E := E.trans E160 nx
  replace h161 : AT true (m + 5) c157 w158 qa159 [.bool false, .slice none 0 0, .slice none 0 0, .int .i64 0, .int .i64 0] := h161
  refine q_eff0 F rfl rfl (e_storeN0 (us := [.bool t143.1.Done, .slice A149 t143.1.Key.length C150, .slice A152 t143.1.Value.length C153, .int .i64 t143.1.Rev, .int .i64 t143.1.At]) F rfl rfl sz_32 h161 (nb rfl) (one_all rfl)) ?_
  rintro w164 a ⟨E165, h161, Z166⟩ F
  replace B := B.size Z166
  replace h75 := h75.ev E165 ne_zm ne_zm
  replace h78 := h78.ev E165 ne_zm ne_zm
  replace h85 := h85.ev E165 mm
  as_aux_lemma =>
  replace h113 := h113.ev E165 ne_zm ne_zm
  replace h116 := h116.ev E165 ne_zm ne_zm
  replace h123 := h123.ev E165 mm
  replace h151 := h151.ev E165 ne_zm ne_zm
  replace h154 := h154.ev E165 ne_zm ne_zm
  replace h155 := h155.ev E165 mm mm ne_zm
  replace E := E.trans E165 lc1
  replace h161 : AT true (m + 5) c157 w164 qa159 [.bool t143.1.Done, .slice A149 t143.1.Key.length C150, .slice A152 t143.1.Value.length C153, .int .i64 t143.1.Rev, .int .i64 t143.1.At] := h161
  refine qa F fun a F => ?_
  refine qa F fun a F => ?_
  refine nil (hK129 _ _ ?_)
  replace F : Fr a 122 [(1, .pointer p9), (2, .pointer (some qa83)), (3, .bool t67.2.1), (4, .int .i64 t67.2.2.1), (5, .pointer (some qa121)), (6, .bool t105.2.1), (7, .int .i64 t105.2.2.1), (8, .pointer (some qa159)), (9, .bool t143.2.1), (10, .int .i64 t143.2.2.1)] := F.sub ⟨rfl, rfl, rfl, rfl, rfl, rfl, rfl, rfl, rfl, rfl, trivial⟩
  refine wp_seq_k fun K167 hK167 => ?_
  refine wp_seq_k fun K168 hK168 => ?_
  have J206 : ∀ (c207 : Nat → Nat) (w208 : World) (a : Act) (b205 : Bool), Fr a 122 [(1, .pointer p9), (8, .pointer (some qa159)), (85, .bool b205)] → Ev (fun x => False ∨ m ≤ x) c0 w0 c207 w208 → CB (m + 8) c207 w208 → AT true (m + 5) c207 w208 qa159 [.bool t143.1.Done, .slice A149 t143.1.Key.length C150, .slice A152 t143.1.Value.length C153, .int .i64 t143.1.Rev, .int .i64 t143.1.At] → SH (m + 1) (m + 2) c207 w208 p9 t143.2.2.2 → SL false (Kint .u8) 0 0 c207 w208 A149 C150 t143.1.Key → SL false (Kint .u8) 0 0 c207 w208 A152 C153 t143.1.Value → haulagelaw14_known.j2 k t143 b205 = some r → K168 a w208 := by
   intro c207 w208 a b205 F E B h161 h155 h151 h154 H
   unfold haulagelaw14_known.j2 at H
   refine hK168 _ _ ?_
   by_cases hb209 : b205 = true
   ·replace H := ip hb209 H
    refine wp_cond_true (fb F hb209) ?_
    refine wp_seq_k fun K210 hK210 => reg ?_
    refine qa F fun a F => ?_
    as_aux_lemma =>
    refine nil (hK210 _ _ ?_)
    refine wp_ret ?_
    refine thenR ?_
    replace H := si H
    subst H
    refine out1 F rfl rfl ?_
    exact ⟨cf (fun x_ => if x_ < m then x_ else 0) c207, rfl, E.lv B0, cfb⟩
   replace H := im hb209 H
   refine wp_cond_false (fb F (bfalse hb209)) (wp_skip (hK167 _ _ ?_))
   refine wp_seq_k fun K211 hK211 => reg ?_
   refine qf F ff_32_0 fun a F => ?_
   refine qv F (r_load F rfl ag_4 (AT.cell h161 rfl)) fun a F => ?_
   refine qm F fun a F => ?_
   by_cases hb212 : t143.1.Done = true
   ·replace H := ip hb212 H
    refine qy F hb212 ?_
    refine qf F ff_32_1 fun a F => ?_
    refine qy F hb212 ?_
    refine qv F (r_load F rfl ag_27 (AT.cell h161 rfl)) fun a F => ?_
    refine qy F hb212 ?_
    refine q_eff F rfl rfl (by decide) (e_buildSliceF (n := 1) (e := 5) (c := c207) (k := (Kint .u8)) (i := 0) F [(0, .int .u8 97)] [.int .u8 97] ([97] : List Int) (by exact ⟨rfl, rfl, trivial⟩) (fun w => by kernel_rfl) rfl (by decide) rfl ⟨rfl, trivial⟩ (fun q => q) (m + 6)) ?_
    rintro v w215 a ⟨c214, A216, C217, rfl, E218, h219, B220, hf213⟩ F
    replace B := B220 _ B lm
    as_aux_lemma =>
    replace h161 := h161.ev E218 nq
    replace h155 := h155.ev E218 nq nq nq
    replace h151 := h151.ev E218 nq nq
    replace h154 := h154.ev E218 nq nq
    replace E := E.trans E218 nx
    refine qy F hb212 ?_
    refine q_eff F rfl rfl (by decide) (e_convb F Tryz.underlying27 Tryz.underlying5 rfl h219 hf213) ?_
    rintro v w221 a ⟨rfl, E222, h219, Z223⟩ F
    replace B := B.size Z223
    replace h161 := h161.ev E222 mm
    replace h155 := h155.ev E222 mm mm ne_zm
    replace h151 := h151.ev E222 ne_zm ne_zm
    replace h154 := h154.ev E222 ne_zm ne_zm
    replace E := E.trans E222 lc1
    obtain ⟨c224, hc224⟩ : ∃ c', c' = fun k => if c214 k = m + 6 then 0 else c214 k := ⟨_, rfl⟩
    replace h161 := AT.rc (c' := c224) (j' := m + 5) h161 (fun k_ hk_ => by rw [hc224]; show (if c214 k_ = m + 6 then 0 else c214 k_) = _; rw [hk_]; ((repeat' split) <;> omega))
    replace h155 := SH.rc (c' := c224) (j' := m + 1) (i' := m + 2) h155 (fun k_ hk_ => by rw [hc224]; show (if c214 k_ = m + 6 then 0 else c214 k_) = _; rw [hk_]; ((repeat' split) <;> omega)) (fun k_ hk_ => by rw [hc224]; show (if c214 k_ = m + 6 then 0 else c214 k_) = _; rw [hk_]; ((repeat' split) <;> omega)) (fun k_ hk_ => by rw [hc224]; show (if c214 k_ = m + 6 then 0 else c214 k_) = _; rw [hk_]; ((repeat' split) <;> omega))
    replace h151 := SL.rc (c' := c224) (j' := 0) (i' := 0) h151 (fun k_ hk_ => by rw [hc224]; show (if c214 k_ = m + 6 then 0 else c214 k_) = _; rw [hk_]; ((repeat' split) <;> omega)) (fun k_ hk_ => by rw [hc224]; show (if c214 k_ = m + 6 then 0 else c214 k_) = _; rw [hk_]; ((repeat' split) <;> omega))
    replace h154 := SL.rc (c' := c224) (j' := 0) (i' := 0) h154 (fun k_ hk_ => by rw [hc224]; show (if c214 k_ = m + 6 then 0 else c214 k_) = _; rw [hk_]; ((repeat' split) <;> omega)) (fun k_ hk_ => by rw [hc224]; show (if c214 k_ = m + 6 then 0 else c214 k_) = _; rw [hk_]; ((repeat' split) <;> omega))
    replace h219 := SL.rc (c' := c224) (j' := 0) (i' := 0) h219.r (fun k_ hk_ => by rw [hc224]; show (if c214 k_ = m + 6 then 0 else c214 k_) = _; rw [hk_]; ((repeat' split) <;> omega)) (fun k_ hk_ => by rw [hc224]; show (if c214 k_ = m + 6 then 0 else c214 k_) = _; rw [hk_]; ((repeat' split) <;> omega))
    have E : Ev (fun x => False ∨ m ≤ x) c0 w0 c224 w221 := by rw [hc224]; exact E.freeze B0 (by omega)
    have B : CB (m + 8) c224 w221 := by rw [hc224]; exact B.freeze (by omega)
    obtain ⟨t225, q226, H⟩ := bind_some H
    as_aux_lemma =>
    refine qy F hb212 ?_
    refine qc F Tryz.func20 (haulagelaw14_same.calls k (m := m + 8) (pl hm0) B h151 h219 _ q226) ?_
    rintro e w228 ⟨c227, rfl, E229, B230⟩
    refine ⟨_, rfl, fun a F => ?_⟩
    have B := B230
    replace h161 := h161.ev E229 nq
    replace h155 := h155.ev E229 nq nq nq
    replace h154 := h154.ev E229 nq nq
    replace E := E.trans E229 nx
    refine qv F (r_pick_t F rfl hb212 rfl) fun a F => ?_
    refine qm F fun a F => ?_
    by_cases hb232 : t225 = true
    ·replace H := ip hb232 H
     refine qy F hb232 ?_
     refine qf F ff_32_2 fun a F => ?_
     refine qy F hb232 ?_
     refine qv F (r_load F rfl ag_27 (AT.cell h161 rfl)) fun a F => ?_
     refine qy F hb232 ?_
     refine q_eff F rfl rfl (by decide) (e_buildSliceF (n := 1) (e := 5) (c := c227) (k := (Kint .u8)) (i := 0) F [(0, .int .u8 49)] [.int .u8 49] ([49] : List Int) (by exact ⟨rfl, rfl, trivial⟩) (fun w => by kernel_rfl) rfl (by decide) rfl ⟨rfl, trivial⟩ (fun q => q) (m + 7)) ?_
     rintro v w235 a ⟨c234, A236, C237, rfl, E238, h239, B240, hf233⟩ F
     replace B := B240 _ B lm
     replace h161 := h161.ev E238 nq
     replace h155 := h155.ev E238 nq nq nq
     as_aux_lemma =>
     replace h154 := h154.ev E238 nq nq
     replace E := E.trans E238 nx
     refine qy F hb232 ?_
     refine q_eff F rfl rfl (by decide) (e_convb F Tryz.underlying27 Tryz.underlying5 rfl h239 hf233) ?_
     rintro v w241 a ⟨rfl, E242, h239, Z243⟩ F
     replace B := B.size Z243
     replace h161 := h161.ev E242 mm
     replace h155 := h155.ev E242 mm mm ne_zm
     replace h154 := h154.ev E242 ne_zm ne_zm
     replace E := E.trans E242 lc1
     obtain ⟨c244, hc244⟩ : ∃ c', c' = fun k => if c234 k = m + 7 then 0 else c234 k := ⟨_, rfl⟩
     replace h161 := AT.rc (c' := c244) (j' := m + 5) h161 (fun k_ hk_ => by rw [hc244]; show (if c234 k_ = m + 7 then 0 else c234 k_) = _; rw [hk_]; ((repeat' split) <;> omega))
     replace h155 := SH.rc (c' := c244) (j' := m + 1) (i' := m + 2) h155 (fun k_ hk_ => by rw [hc244]; show (if c234 k_ = m + 7 then 0 else c234 k_) = _; rw [hk_]; ((repeat' split) <;> omega)) (fun k_ hk_ => by rw [hc244]; show (if c234 k_ = m + 7 then 0 else c234 k_) = _; rw [hk_]; ((repeat' split) <;> omega)) (fun k_ hk_ => by rw [hc244]; show (if c234 k_ = m + 7 then 0 else c234 k_) = _; rw [hk_]; ((repeat' split) <;> omega))
     replace h154 := SL.rc (c' := c244) (j' := 0) (i' := 0) h154 (fun k_ hk_ => by rw [hc244]; show (if c234 k_ = m + 7 then 0 else c234 k_) = _; rw [hk_]; ((repeat' split) <;> omega)) (fun k_ hk_ => by rw [hc244]; show (if c234 k_ = m + 7 then 0 else c234 k_) = _; rw [hk_]; ((repeat' split) <;> omega))
     replace h239 := SL.rc (c' := c244) (j' := 0) (i' := 0) h239.r (fun k_ hk_ => by rw [hc244]; show (if c234 k_ = m + 7 then 0 else c234 k_) = _; rw [hk_]; ((repeat' split) <;> omega)) (fun k_ hk_ => by rw [hc244]; show (if c234 k_ = m + 7 then 0 else c234 k_) = _; rw [hk_]; ((repeat' split) <;> omega))
     have E : Ev (fun x => False ∨ m ≤ x) c0 w0 c244 w241 := by rw [hc244]; exact E.freeze B0 (by omega)
     have B : CB (m + 8) c244 w241 := by rw [hc244]; exact B.freeze (by omega)
     obtain ⟨t245, q246, H⟩ := bind_some H
     refine qy F hb232 ?_
     refine qc F Tryz.func20 (haulagelaw14_same.calls k (m := m + 8) (pl hm0) B h154 h239 _ q246) ?_
     rintro e w248 ⟨c247, rfl, E249, B250⟩
     refine ⟨_, rfl, fun a F => ?_⟩
     have B := B250
     as_aux_lemma =>
     replace h161 := h161.ev E249 nq
     replace h155 := h155.ev E249 nq nq nq
     replace E := E.trans E249 nx
     refine qv F (r_pick_t F rfl hb232 rfl) fun a F => ?_
     refine qm F fun a F => ?_
     by_cases hb252 : t245 = true
     ·replace H := ip hb252 H
      refine qy F hb252 ?_
      refine qf F ff_32_3 fun a F => ?_
      refine qy F hb252 ?_
      refine qv F (r_load F rfl ag_3 (AT.cell h161 rfl)) fun a F => ?_
      refine qy F hb252 ?_
      refine qv F (r_eql F rfl rfl) fun a F => ?_
      refine qv F (r_pick_t F rfl hb252 rfl) fun a F => ?_
      refine qm F fun a F => ?_
      by_cases hb253 : t143.1.Rev = 1
      ·replace H := ip hb253 H
       refine qy F (dt hb253) ?_
       refine qf F ff_32_4 fun a F => ?_
       refine qy F (dt hb253) ?_
       refine qv F (r_load F rfl ag_3 (AT.cell h161 rfl)) fun a F => ?_
       refine qy F (dt hb253) ?_
       refine qv F (r_eql F rfl rfl) fun a F => ?_
       refine qv F (r_pick_t F rfl (dt hb253) rfl) fun a F => ?_
       as_aux_lemma =>
       refine qm F fun a F => ?_
       by_cases hb254 : t143.1.At = 1
       ·replace H := ip hb254 H
        refine qy F (dt hb254) ?_
        refine qm F fun a F => ?_
        obtain ⟨t255, q256, H⟩ := bind_some H
        refine qy F (dt hb254) ?_
        refine qc F Tryz.func37 (shard_Shard_Rev.calls (m := m + 8) (pl hm0) B h155 lm ⟨lm, mm⟩ _ q256) ?_
        rintro e w258 ⟨c257, rfl, E259, B260⟩
        refine ⟨_, rfl, fun a F => ?_⟩
        have B := B260
        replace h155 := h155.ev E259 nq nq nq
        replace E := E.trans E259 nx
        refine qy F (dt hb254) ?_
        refine qv F (r_eql F rfl rfl) fun a F => ?_
        refine qv F (r_pick_t F rfl (dt hb254) rfl) fun a F => ?_
        refine qm F fun a F => ?_
        by_cases hb262 : t255 = 1
        ·replace H := ip hb262 H
         refine qy F (dt hb262) ?_
         refine qm F fun a F => ?_
         obtain ⟨t263, q264, H⟩ := bind_some H
         refine qy F (dt hb262) ?_
         refine qc F Tryz.func38 (shard_Shard_Len.calls (m := m + 8) (pl hm0) B h155 lm ⟨lm, mm⟩ _ q264) ?_
         rintro e w266 ⟨c265, rfl, E267, B268⟩
         as_aux_lemma =>
         refine ⟨_, rfl, fun a F => ?_⟩
         have B := B268
         replace E := E.trans E267 nx
         refine qy F (dt hb262) ?_
         refine qv F (r_eql F rfl rfl) fun a F => ?_
         refine qv F (r_pick_t F rfl (dt hb262) rfl) fun a F => ?_
         refine qa F fun a F => ?_
         refine nil (hK211 _ _ ?_)
         replace F : Fr a 122 [(0, .bool (decide (t263 = 1)))] := F.sub ⟨rfl, trivial⟩
         refine wp_ret ?_
         replace H := si H
         subst H
         refine out1 F rfl rfl ?_
         exact ⟨cf (fun x_ => if x_ < m then x_ else 0) c265, rfl, E.lv B0, cfb⟩
        replace H := im hb262 H
        refine qn F (dz hb262) fun a F => ?_
        refine qn F (dz hb262) fun a F => ?_
        refine qn F (dz hb262) fun a F => ?_
        refine qv F (r_pick_f F rfl (dz hb262) rfl) fun a F => ?_
        refine qa F fun a F => ?_
        refine nil (hK211 _ _ ?_)
        replace F : Fr a 122 [(0, .bool false)] := F.sub ⟨rfl, trivial⟩
        as_aux_lemma =>
        refine wp_ret ?_
        replace H := si H
        subst H
        refine out1 F rfl rfl ?_
        exact ⟨cf (fun x_ => if x_ < m then x_ else 0) c257, rfl, E.lv B0, cfb⟩
       replace H := im hb254 H
       refine qn F (dz hb254) fun a F => ?_
       refine qn F (dz hb254) fun a F => ?_
       refine qn F (dz hb254) fun a F => ?_
       refine qv F (r_pick_f F rfl (dz hb254) rfl) fun a F => ?_
       refine qm F fun a F => ?_
       refine qn F rfl fun a F => ?_
       refine qn F rfl fun a F => ?_
       refine qn F rfl fun a F => ?_
       refine qv F (r_pick_f F rfl rfl rfl) fun a F => ?_
       refine qa F fun a F => ?_
       refine nil (hK211 _ _ ?_)
       replace F : Fr a 122 [(0, .bool false)] := F.sub ⟨rfl, trivial⟩
       refine wp_ret ?_
       replace H := si H
       subst H
       refine out1 F rfl rfl ?_
       exact ⟨cf (fun x_ => if x_ < m then x_ else 0) c247, rfl, E.lv B0, cfb⟩
      as_aux_lemma =>
      replace H := im hb253 H
      refine qn F (dz hb253) fun a F => ?_
      refine qn F (dz hb253) fun a F => ?_
      refine qn F (dz hb253) fun a F => ?_
      refine qv F (r_pick_f F rfl (dz hb253) rfl) fun a F => ?_
      refine qm F fun a F => ?_
      refine qn F rfl fun a F => ?_
      refine qn F rfl fun a F => ?_
      refine qn F rfl fun a F => ?_
      refine qv F (r_pick_f F rfl rfl rfl) fun a F => ?_
      refine qm F fun a F => ?_
      refine qn F rfl fun a F => ?_
      refine qn F rfl fun a F => ?_
      refine qn F rfl fun a F => ?_
      refine qv F (r_pick_f F rfl rfl rfl) fun a F => ?_
      refine qa F fun a F => ?_
      refine nil (hK211 _ _ ?_)
      replace F : Fr a 122 [(0, .bool false)] := F.sub ⟨rfl, trivial⟩
      refine wp_ret ?_
      replace H := si H
      subst H
      refine out1 F rfl rfl ?_
      exact ⟨cf (fun x_ => if x_ < m then x_ else 0) c247, rfl, E.lv B0, cfb⟩
     as_aux_lemma =>
     replace H := im hb252 H
     refine qn F (bfalse hb252) fun a F => ?_
     refine qn F (bfalse hb252) fun a F => ?_
     refine qn F (bfalse hb252) fun a F => ?_
     refine qv F (r_pick_f F rfl (bfalse hb252) rfl) fun a F => ?_
     refine qm F fun a F => ?_
     refine qn F rfl fun a F => ?_
     refine qn F rfl fun a F => ?_
     refine qn F rfl fun a F => ?_
     refine qv F (r_pick_f F rfl rfl rfl) fun a F => ?_
     refine qm F fun a F => ?_
     refine qn F rfl fun a F => ?_
     refine qn F rfl fun a F => ?_
     refine qn F rfl fun a F => ?_
     refine qv F (r_pick_f F rfl rfl rfl) fun a F => ?_
     refine qm F fun a F => ?_
     refine qn F rfl fun a F => ?_
     refine qn F rfl fun a F => ?_
     refine qn F rfl fun a F => ?_
     refine qv F (r_pick_f F rfl rfl rfl) fun a F => ?_
     refine qa F fun a F => ?_
     refine nil (hK211 _ _ ?_)
     replace F : Fr a 122 [(0, .bool false)] := F.sub ⟨rfl, trivial⟩
     as_aux_lemma =>
     refine wp_ret ?_
     replace H := si H
     subst H
     refine out1 F rfl rfl ?_
     exact ⟨cf (fun x_ => if x_ < m then x_ else 0) c247, rfl, E.lv B0, cfb⟩
    replace H := im hb232 H
    refine qn F (bfalse hb232) fun a F => ?_
    refine qn F (bfalse hb232) fun a F => ?_
    refine qn F (bfalse hb232) fun a F => ?_
    refine qn F (bfalse hb232) fun a F => ?_
    refine qn F (bfalse hb232) fun a F => ?_
    refine qv F (r_pick_f F rfl (bfalse hb232) rfl) fun a F => ?_
    refine qm F fun a F => ?_
    refine qn F rfl fun a F => ?_
    refine qn F rfl fun a F => ?_
    refine qn F rfl fun a F => ?_
    refine qv F (r_pick_f F rfl rfl rfl) fun a F => ?_
    refine qm F fun a F => ?_
    refine qn F rfl fun a F => ?_
    refine qn F rfl fun a F => ?_
    refine qn F rfl fun a F => ?_
    refine qv F (r_pick_f F rfl rfl rfl) fun a F => ?_
    as_aux_lemma =>
    refine qm F fun a F => ?_
    refine qn F rfl fun a F => ?_
    refine qn F rfl fun a F => ?_
    refine qn F rfl fun a F => ?_
    refine qv F (r_pick_f F rfl rfl rfl) fun a F => ?_
    refine qm F fun a F => ?_
    refine qn F rfl fun a F => ?_
    refine qn F rfl fun a F => ?_
    refine qn F rfl fun a F => ?_
    refine qv F (r_pick_f F rfl rfl rfl) fun a F => ?_
    refine qa F fun a F => ?_
    refine nil (hK211 _ _ ?_)
    replace F : Fr a 122 [(0, .bool false)] := F.sub ⟨rfl, trivial⟩
    refine wp_ret ?_
    replace H := si H
    subst H
    refine out1 F rfl rfl ?_
    exact ⟨cf (fun x_ => if x_ < m then x_ else 0) c227, rfl, E.lv B0, cfb⟩
   replace H := im hb212 H
   refine qn F (bfalse hb212) fun a F => ?_
   refine qn F (bfalse hb212) fun a F => ?_
   refine qn F (bfalse hb212) fun a F => ?_
   as_aux_lemma =>
   refine qn F (bfalse hb212) fun a F => ?_
   refine qn F (bfalse hb212) fun a F => ?_
   refine qv F (r_pick_f F rfl (bfalse hb212) rfl) fun a F => ?_
   refine qm F fun a F => ?_
   refine qn F rfl fun a F => ?_
   refine qn F rfl fun a F => ?_
   refine qn F rfl fun a F => ?_
   refine qn F rfl fun a F => ?_
   refine qn F rfl fun a F => ?_
   refine qv F (r_pick_f F rfl rfl rfl) fun a F => ?_
   refine qm F fun a F => ?_
   refine qn F rfl fun a F => ?_
   refine qn F rfl fun a F => ?_
   refine qn F rfl fun a F => ?_
   refine qv F (r_pick_f F rfl rfl rfl) fun a F => ?_
   refine qm F fun a F => ?_
   refine qn F rfl fun a F => ?_
   refine qn F rfl fun a F => ?_
   refine qn F rfl fun a F => ?_
   refine qv F (r_pick_f F rfl rfl rfl) fun a F => ?_
   refine qm F fun a F => ?_
   refine qn F rfl fun a F => ?_
   as_aux_lemma =>
   refine qn F rfl fun a F => ?_
   refine qn F rfl fun a F => ?_
   refine qv F (r_pick_f F rfl rfl rfl) fun a F => ?_
   refine qm F fun a F => ?_
   refine qn F rfl fun a F => ?_
   refine qn F rfl fun a F => ?_
   refine qn F rfl fun a F => ?_
   refine qv F (r_pick_f F rfl rfl rfl) fun a F => ?_
   refine qa F fun a F => ?_
   refine nil (hK211 _ _ ?_)
   replace F : Fr a 122 [(0, .bool false)] := F.sub ⟨rfl, trivial⟩
   refine wp_ret ?_
   replace H := si H
   subst H
   refine out1 F rfl rfl ?_
   exact ⟨cf (fun x_ => if x_ < m then x_ else 0) c207, rfl, E.lv B0, cfb⟩
  refine reg ?_
  refine qm F fun a F => ?_
  obtain ⟨t169, q170, H⟩ := bind_some H
  refine qc F Tryz.func12 (haulagelaw14_num.calls (m := m + 8) (pl hm0) B _ q170) ?_
  rintro e w172 ⟨c171, rfl, E173, B174⟩
  refine ⟨_, rfl, fun a F => ?_⟩
  have B := B174
  as_aux_lemma =>
  replace h75 := h75.ev E173 nq nq
  replace h78 := h78.ev E173 nq nq
  replace h85 := h85.ev E173 nq
  replace h113 := h113.ev E173 nq nq
  replace h116 := h116.ev E173 nq nq
  replace h123 := h123.ev E173 nq
  replace h151 := h151.ev E173 nq nq
  replace h154 := h154.ev E173 nq nq
  replace h155 := h155.ev E173 nq nq nq
  replace h161 := h161.ev E173 nq
  replace E := E.trans E173 nx
  refine qv F (r_neq F rfl rfl) fun a F => ?_
  refine qm F fun a F => ?_
  by_cases hb176 : t169 = 0
  ·replace H := ip hb176 H
   refine qy F (congrArg not (dt hb176)) ?_
   refine qm F fun a F => ?_
   obtain ⟨t177, q178, H⟩ := bind_some H
   refine qy F (congrArg not (dt hb176)) ?_
   refine qc F Tryz.func12 (haulagelaw14_num.calls (m := m + 8) (pl hm0) B _ q178) ?_
   rintro e w180 ⟨c179, rfl, E181, B182⟩
   refine ⟨_, rfl, fun a F => ?_⟩
   have B := B182
   as_aux_lemma =>
   replace h75 := h75.ev E181 nq nq
   replace h78 := h78.ev E181 nq nq
   replace h85 := h85.ev E181 nq
   replace h113 := h113.ev E181 nq nq
   replace h116 := h116.ev E181 nq nq
   replace h123 := h123.ev E181 nq
   replace h151 := h151.ev E181 nq nq
   replace h154 := h154.ev E181 nq nq
   replace h155 := h155.ev E181 nq nq nq
   replace h161 := h161.ev E181 nq
   replace E := E.trans E181 nx
   refine qy F (congrArg not (dt hb176)) ?_
   refine qv F (r_neq F rfl rfl) fun a F => ?_
   refine qv F (r_pick_f F rfl (congrArg not (dt hb176)) rfl) fun a F => ?_
   refine qm F fun a F => ?_
   by_cases hb184 : t177 = 0
   ·replace H := ip hb184 H
    refine qy F (congrArg not (dt hb184)) ?_
    refine qm F fun a F => ?_
    obtain ⟨t185, q186, H⟩ := bind_some H
    refine qy F (congrArg not (dt hb184)) ?_
    refine qc F Tryz.func12 (haulagelaw14_num.calls (m := m + 8) (pl hm0) B _ q186) ?_
    rintro e w188 ⟨c187, rfl, E189, B190⟩
    as_aux_lemma =>
    refine ⟨_, rfl, fun a F => ?_⟩
    have B := B190
    replace h75 := h75.ev E189 nq nq
    replace h78 := h78.ev E189 nq nq
    replace h85 := h85.ev E189 nq
    replace h113 := h113.ev E189 nq nq
    replace h116 := h116.ev E189 nq nq
    replace h123 := h123.ev E189 nq
    replace h151 := h151.ev E189 nq nq
    replace h154 := h154.ev E189 nq nq
    replace h155 := h155.ev E189 nq nq nq
    replace h161 := h161.ev E189 nq
    replace E := E.trans E189 nx
    refine qy F (congrArg not (dt hb184)) ?_
    refine qv F (r_neq F rfl rfl) fun a F => ?_
    refine qv F (r_pick_f F rfl (congrArg not (dt hb184)) rfl) fun a F => ?_
    refine qm F fun a F => ?_
    by_cases hb192 : t185 = 0
    ·replace H := ip hb192 H
     refine qy F (congrArg not (dt hb192)) ?_
     refine qm F fun a F => ?_
     refine qy F (congrArg not (dt hb192)) ?_
     refine qv F (r_not F rfl) fun a F => ?_
     as_aux_lemma =>
     refine qv F (r_pick_f F rfl (congrArg not (dt hb192)) rfl) fun a F => ?_
     refine qm F fun a F => ?_
     by_cases hb193 : t67.2.1 = true
     ·replace H := ip hb193 H
      refine qy F (congrArg not hb193) ?_
      refine qm F fun a F => ?_
      refine qv F (r_pick_f F rfl (congrArg not hb193) rfl) fun a F => ?_
      refine qm F fun a F => ?_
      by_cases hb194 : t105.2.1 = true
      ·replace H := ip hb194 H
       refine qn F hb194 fun a F => ?_
       refine qv F (r_pick_t F rfl hb194 rfl) fun a F => ?_
       refine qm F fun a F => ?_
       refine qn F rfl fun a F => ?_
       refine qn F rfl fun a F => ?_
       refine qn F rfl fun a F => ?_
       refine qv F (r_pick_t F rfl rfl rfl) fun a F => ?_
       refine qm F fun a F => ?_
       refine qn F rfl fun a F => ?_
       refine qn F rfl fun a F => ?_
       refine qn F rfl fun a F => ?_
       refine qv F (r_pick_t F rfl rfl rfl) fun a F => ?_
       refine qm F fun a F => ?_
       refine qn F rfl fun a F => ?_
       as_aux_lemma =>
       refine qn F rfl fun a F => ?_
       refine qn F rfl fun a F => ?_
       refine qn F rfl fun a F => ?_
       refine qv F (r_pick_t F rfl rfl rfl) fun a F => ?_
       refine nil ?_
       exact J206 c187 w188 a true (F.sub ⟨rfl, rfl, rfl, trivial⟩) E B h161 h155 h151 h154 H
      replace H := im hb194 H
      refine qy F (bfalse hb194) ?_
      refine qm F fun a F => ?_
      refine qv F (r_pick_f F rfl (bfalse hb194) rfl) fun a F => ?_
      refine qm F fun a F => ?_
      by_cases hb195 : t143.2.1 = true
      ·replace H := ip hb195 H
       refine qn F hb195 fun a F => ?_
       refine qn F hb195 fun a F => ?_
       refine qn F hb195 fun a F => ?_
       refine qv F (r_pick_t F rfl hb195 rfl) fun a F => ?_
       refine qm F fun a F => ?_
       refine qn F rfl fun a F => ?_
       refine qn F rfl fun a F => ?_
       refine qn F rfl fun a F => ?_
       refine qv F (r_pick_t F rfl rfl rfl) fun a F => ?_
       refine qm F fun a F => ?_
       as_aux_lemma =>
       refine qn F rfl fun a F => ?_
       refine qn F rfl fun a F => ?_
       refine qn F rfl fun a F => ?_
       refine qn F rfl fun a F => ?_
       refine qv F (r_pick_t F rfl rfl rfl) fun a F => ?_
       refine nil ?_
       exact J206 c187 w188 a true (F.sub ⟨rfl, rfl, rfl, trivial⟩) E B h161 h155 h151 h154 H
      replace H := im hb195 H
      refine qy F (bfalse hb195) ?_
      refine qf F ff_32_0 fun a F => ?_
      refine qy F (bfalse hb195) ?_
      refine qv F (r_load F rfl ag_4 (AT.cell h85 rfl)) fun a F => ?_
      refine qy F (bfalse hb195) ?_
      refine qv F (r_not F rfl) fun a F => ?_
      refine qv F (r_pick_f F rfl (bfalse hb195) rfl) fun a F => ?_
      refine qm F fun a F => ?_
      by_cases hb196 : t67.1.Done = true
      ·replace H := ip hb196 H
       refine qy F (congrArg not hb196) ?_
       refine qf F ff_32_4 fun a F => ?_
       refine qy F (congrArg not hb196) ?_
       refine qv F (r_load F rfl ag_3 (AT.cell h85 rfl)) fun a F => ?_
       refine qy F (congrArg not hb196) ?_
       as_aux_lemma =>
       refine qv F (r_neq F rfl rfl) fun a F => ?_
       refine qv F (r_pick_f F rfl (congrArg not hb196) rfl) fun a F => ?_
       refine qm F fun a F => ?_
       by_cases hb197 : t67.1.At = 1
       ·replace H := ip hb197 H
        refine qy F (congrArg not (dt hb197)) ?_
        refine qv F (r_loads (cs := [.bool t67.1.Done, .slice A73 t67.1.Key.length C74, .slice A76 t67.1.Value.length C77, .int .i64 t67.1.Rev, .int .i64 t67.1.At]) F rfl ag_32 sz_32 h85) fun a F => ?_
        refine qy F (congrArg not (dt hb197)) ?_
        refine qv F (r_loads (cs := [.bool t105.1.Done, .slice A111 t105.1.Key.length C112, .slice A114 t105.1.Value.length C115, .int .i64 t105.1.Rev, .int .i64 t105.1.At]) F rfl ag_32 sz_32 h123) fun a F => ?_
        obtain ⟨t198, q199, H⟩ := bind_some H
        refine qy F (congrArg not (dt hb197)) ?_
        refine qc F Tryz.func28 (haulagelaw14_sameAnswer.calls k (m := m + 8) (pl hm0) B h75 h78 h113 h116 _ q199) ?_
        rintro e w201 ⟨c200, rfl, E202, B203⟩
        refine ⟨_, rfl, fun a F => ?_⟩
        have B := B203
        replace h151 := h151.ev E202 nq nq
        replace h154 := h154.ev E202 nq nq
        replace h155 := h155.ev E202 nq nq nq
        replace h161 := h161.ev E202 nq
        replace E := E.trans E202 nx
        refine qy F (congrArg not (dt hb197)) ?_
        refine qv F (r_not F rfl) fun a F => ?_
        refine qv F (r_pick_f F rfl (congrArg not (dt hb197)) rfl) fun a F => ?_
        as_aux_lemma =>
        refine nil ?_
        exact J206 c200 w201 a (!t198) (F.sub ⟨rfl, rfl, rfl, trivial⟩) E B h161 h155 h151 h154 H
       replace H := im hb197 H
       refine qn F (congrArg not (dz hb197)) fun a F => ?_
       refine qn F (congrArg not (dz hb197)) fun a F => ?_
       refine qn F (congrArg not (dz hb197)) fun a F => ?_
       refine qn F (congrArg not (dz hb197)) fun a F => ?_
       refine qv F (r_pick_t F rfl (congrArg not (dz hb197)) rfl) fun a F => ?_
       refine nil ?_
       exact J206 c187 w188 a true (F.sub ⟨rfl, rfl, rfl, trivial⟩) E B h161 h155 h151 h154 H
      replace H := im hb196 H
      refine qn F (congrArg not (bfalse hb196)) fun a F => ?_
      refine qn F (congrArg not (bfalse hb196)) fun a F => ?_
      refine qn F (congrArg not (bfalse hb196)) fun a F => ?_
      refine qv F (r_pick_t F rfl (congrArg not (bfalse hb196)) rfl) fun a F => ?_
      refine qm F fun a F => ?_
      refine qn F rfl fun a F => ?_
      refine qn F rfl fun a F => ?_
      refine qn F rfl fun a F => ?_
      refine qn F rfl fun a F => ?_
      refine qv F (r_pick_t F rfl rfl rfl) fun a F => ?_
      refine nil ?_
      exact J206 c187 w188 a true (F.sub ⟨rfl, rfl, rfl, trivial⟩) E B h161 h155 h151 h154 H
     as_aux_lemma =>
     replace H := im hb193 H
     refine qn F (congrArg not (bfalse hb193)) fun a F => ?_
     refine qv F (r_pick_t F rfl (congrArg not (bfalse hb193)) rfl) fun a F => ?_
     refine qm F fun a F => ?_
     refine qn F rfl fun a F => ?_
     refine qv F (r_pick_t F rfl rfl rfl) fun a F => ?_
     refine qm F fun a F => ?_
     refine qn F rfl fun a F => ?_
     refine qn F rfl fun a F => ?_
     refine qn F rfl fun a F => ?_
     refine qv F (r_pick_t F rfl rfl rfl) fun a F => ?_
     refine qm F fun a F => ?_
     refine qn F rfl fun a F => ?_
     refine qn F rfl fun a F => ?_
     refine qn F rfl fun a F => ?_
     refine qv F (r_pick_t F rfl rfl rfl) fun a F => ?_
     refine qm F fun a F => ?_
     refine qn F rfl fun a F => ?_
     refine qn F rfl fun a F => ?_
     refine qn F rfl fun a F => ?_
     refine qn F rfl fun a F => ?_
     refine qv F (r_pick_t F rfl rfl rfl) fun a F => ?_
     as_aux_lemma =>
     refine nil ?_
     exact J206 c187 w188 a true (F.sub ⟨rfl, rfl, rfl, trivial⟩) E B h161 h155 h151 h154 H
    replace H := im hb192 H
    refine qn F (congrArg not (dz hb192)) fun a F => ?_
    refine qn F (congrArg not (dz hb192)) fun a F => ?_
    refine qv F (r_pick_t F rfl (congrArg not (dz hb192)) rfl) fun a F => ?_
    refine qm F fun a F => ?_
    refine qn F rfl fun a F => ?_
    refine qv F (r_pick_t F rfl rfl rfl) fun a F => ?_
    refine qm F fun a F => ?_
    refine qn F rfl fun a F => ?_
    refine qv F (r_pick_t F rfl rfl rfl) fun a F => ?_
    refine qm F fun a F => ?_
    refine qn F rfl fun a F => ?_
    refine qn F rfl fun a F => ?_
    refine qn F rfl fun a F => ?_
    refine qv F (r_pick_t F rfl rfl rfl) fun a F => ?_
    refine qm F fun a F => ?_
    refine qn F rfl fun a F => ?_
    refine qn F rfl fun a F => ?_
    refine qn F rfl fun a F => ?_
    refine qv F (r_pick_t F rfl rfl rfl) fun a F => ?_
    as_aux_lemma =>
    refine qm F fun a F => ?_
    refine qn F rfl fun a F => ?_
    refine qn F rfl fun a F => ?_
    refine qn F rfl fun a F => ?_
    refine qn F rfl fun a F => ?_
    refine qv F (r_pick_t F rfl rfl rfl) fun a F => ?_
    refine nil ?_
    exact J206 c187 w188 a true (F.sub ⟨rfl, rfl, rfl, trivial⟩) E B h161 h155 h151 h154 H
   replace H := im hb184 H
   refine qn F (congrArg not (dz hb184)) fun a F => ?_
   refine qn F (congrArg not (dz hb184)) fun a F => ?_
   refine qn F (congrArg not (dz hb184)) fun a F => ?_
   refine qv F (r_pick_t F rfl (congrArg not (dz hb184)) rfl) fun a F => ?_
   refine qm F fun a F => ?_
   refine qn F rfl fun a F => ?_
   refine qn F rfl fun a F => ?_
   refine qv F (r_pick_t F rfl rfl rfl) fun a F => ?_
   refine qm F fun a F => ?_
   refine qn F rfl fun a F => ?_
   refine qv F (r_pick_t F rfl rfl rfl) fun a F => ?_
   refine qm F fun a F => ?_
   refine qn F rfl fun a F => ?_
   as_aux_lemma =>
   refine qv F (r_pick_t F rfl rfl rfl) fun a F => ?_
   refine qm F fun a F => ?_
   refine qn F rfl fun a F => ?_
   refine qn F rfl fun a F => ?_
   refine qn F rfl fun a F => ?_
   refine qv F (r_pick_t F rfl rfl rfl) fun a F => ?_
   refine qm F fun a F => ?_
   refine qn F rfl fun a F => ?_
   refine qn F rfl fun a F => ?_
   refine qn F rfl fun a F => ?_
   refine qv F (r_pick_t F rfl rfl rfl) fun a F => ?_
   refine qm F fun a F => ?_
   refine qn F rfl fun a F => ?_
   refine qn F rfl fun a F => ?_
   refine qn F rfl fun a F => ?_
   refine qn F rfl fun a F => ?_
   refine qv F (r_pick_t F rfl rfl rfl) fun a F => ?_
   refine nil ?_
   exact J206 c179 w180 a true (F.sub ⟨rfl, rfl, rfl, trivial⟩) E B h161 h155 h151 h154 H
  replace H := im hb176 H
  refine qn F (congrArg not (dz hb176)) fun a F => ?_
  refine qn F (congrArg not (dz hb176)) fun a F => ?_
  as_aux_lemma =>
  refine qn F (congrArg not (dz hb176)) fun a F => ?_
  refine qv F (r_pick_t F rfl (congrArg not (dz hb176)) rfl) fun a F => ?_
  refine qm F fun a F => ?_
  refine qn F rfl fun a F => ?_
  refine qn F rfl fun a F => ?_
  refine qn F rfl fun a F => ?_
  refine qv F (r_pick_t F rfl rfl rfl) fun a F => ?_
  refine qm F fun a F => ?_
  refine qn F rfl fun a F => ?_
  refine qn F rfl fun a F => ?_
  refine qv F (r_pick_t F rfl rfl rfl) fun a F => ?_
  refine qm F fun a F => ?_
  refine qn F rfl fun a F => ?_
  refine qv F (r_pick_t F rfl rfl rfl) fun a F => ?_
  refine qm F fun a F => ?_
  refine qn F rfl fun a F => ?_
  refine qv F (r_pick_t F rfl rfl rfl) fun a F => ?_
  refine qm F fun a F => ?_
  refine qn F rfl fun a F => ?_
  refine qn F rfl fun a F => ?_
  refine qn F rfl fun a F => ?_
  refine qv F (r_pick_t F rfl rfl rfl) fun a F => ?_
  as_aux_lemma =>
  refine qm F fun a F => ?_
  refine qn F rfl fun a F => ?_
  refine qn F rfl fun a F => ?_
  refine qn F rfl fun a F => ?_
  refine qv F (r_pick_t F rfl rfl rfl) fun a F => ?_
  refine qm F fun a F => ?_
  refine qn F rfl fun a F => ?_
  refine qn F rfl fun a F => ?_
  refine qn F rfl fun a F => ?_
  refine qn F rfl fun a F => ?_
  refine qv F (r_pick_t F rfl rfl rfl) fun a F => ?_
  refine nil ?_
  exact J206 c171 w172 a true (F.sub ⟨rfl, rfl, rfl, trivial⟩) E B h161 h155 h151 h154 H
 refine reg ?_
 refine qm F fun a F => ?_
 refine qv F (r_peqlA F Tryz.underlying23 rfl rfl (SH.isNone h10)) fun a F => ?_
 refine qm F fun a F => ?_
 by_cases hb14 : (Option.isNone t3) = true
 ·replace H := ip hb14 H
  refine qn F hb14 fun a F => ?_
  refine qn F hb14 fun a F => ?_
  refine qn F hb14 fun a F => ?_
  refine qn F hb14 fun a F => ?_
  as_aux_lemma =>
  refine qn F hb14 fun a F => ?_
  refine qv F (r_pick_t F rfl hb14 rfl) fun a F => ?_
  refine qm F fun a F => ?_
  refine qn F rfl fun a F => ?_
  refine qn F rfl fun a F => ?_
  refine qn F rfl fun a F => ?_
  refine qv F (r_pick_t F rfl rfl rfl) fun a F => ?_
  refine nil ?_
  exact J48 c5 w6 a true (F.sub ⟨rfl, rfl, trivial⟩) E B h10 H
 replace H := im hb14 H
 refine qy F (bfalse hb14) ?_
 refine qm F fun a F => ?_
 obtain ⟨t15, q16, H⟩ := bind_some H
 refine qy F (bfalse hb14) ?_
 refine qc F Tryz.func23 (shard_Shard_Export.calls k (m := m + 8) (pl hm0) B h10 lm ⟨lm, mm⟩ _ q16) ?_
 rintro e w18 ⟨c17, A21, C22, rfl, E19, B20, h23⟩
 refine ⟨_, rfl, fun a F => ?_⟩
 have B := B20
 replace h10 := h10.ev E19 nq nq nq
 replace E := E.trans E19 nx
 refine qy F (bfalse hb14) ?_
 refine q_eff F rfl rfl (by decide) (e_buildSlice (n := 4) (e := 5) (c := c17) (k := (Kint .u8)) (i := 0) F [(0, .int .u8 2), (1, .int .u8 0), (2, .int .u8 0), (3, .int .u8 0)] [.int .u8 2, .int .u8 0, .int .u8 0, .int .u8 0] ([2, 0, 0, 0] : List Int) (by exact ⟨rfl, rfl, rfl, rfl, rfl, rfl, rfl, rfl, trivial⟩) (fun w => by kernel_rfl) rfl (by decide) rfl ⟨rfl, rfl, rfl, rfl, trivial⟩ (fun q => q) 0) ?_
 rintro v w26 a ⟨c25, A27, C28, rfl, E29, h30, B31⟩ F
 as_aux_lemma =>
 replace B := B31 _ B (pl hm0)
 replace h10 := h10.ev E29 nq nq nq
 replace h23 := h23.ev E29 nq nq
 replace E := E.trans E29 nx
 obtain ⟨t32, q33, H⟩ := bind_some H
 refine qy F (bfalse hb14) ?_
 refine qc F Tryz.func20 (haulagelaw14_same.calls k (m := m + 8) (pl hm0) B h23 h30.r _ q33) ?_
 rintro e w35 ⟨c34, rfl, E36, B37⟩
 refine ⟨_, rfl, fun a F => ?_⟩
 have B := B37
 replace h10 := h10.ev E36 nq nq nq
 replace E := E.trans E36 nx
 refine qy F (bfalse hb14) ?_
 refine qv F (r_not F rfl) fun a F => ?_
 refine qv F (r_pick_f F rfl (bfalse hb14) rfl) fun a F => ?_
 refine qm F fun a F => ?_
 by_cases hb39 : t32 = true
 ·replace H := ip hb39 H
  refine qy F (congrArg not hb39) ?_
  refine qm F fun a F => ?_
  obtain ⟨t40, q41, H⟩ := bind_some H
  refine qy F (congrArg not hb39) ?_
  refine qc F Tryz.func25 (shard_Shard_Size.calls k (m := m + 8) (pl hm0) B h10 lm ⟨lm, mm⟩ _ q41) ?_
  rintro e w43 ⟨c42, rfl, E44, B45⟩
  as_aux_lemma =>
  refine ⟨_, rfl, fun a F => ?_⟩
  have B := B45
  replace h10 := h10.ev E44 nq nq nq
  replace E := E.trans E44 nx
  refine qy F (congrArg not hb39) ?_
  refine qv F (r_neq F rfl rfl) fun a F => ?_
  refine qv F (r_pick_f F rfl (congrArg not hb39) rfl) fun a F => ?_
  refine nil ?_
  exact J48 c42 w43 a (!decide (t40 = 4)) (F.sub ⟨rfl, rfl, trivial⟩) E B h10 H
 replace H := im hb39 H
 refine qn F (congrArg not (bfalse hb39)) fun a F => ?_
 refine qn F (congrArg not (bfalse hb39)) fun a F => ?_
 refine qn F (congrArg not (bfalse hb39)) fun a F => ?_
 refine qv F (r_pick_t F rfl (congrArg not (bfalse hb39)) rfl) fun a F => ?_
 refine nil ?_
 exact J48 c34 w35 a true (F.sub ⟨rfl, rfl, trivial⟩) E B h10 H
end Go.Proofs.YthankpjbfpcldaaGreat.G
namespace Go.Proofs.YthankpjbfpcldaaGreat.G
open Go Go.RowKit
set_option linter.unusedVariables false
set_option linter.unusedSimpArgs false
section
variable {P : Program} {ops : Array Oper} {Q : Exit → Act → World → Prop} {a : Act} {N : Nat} {L : List (Nat × Value)} {D : List Deferred} {w w' : World} {v : Value} {rest : List Oper} {o : Oper} {d : Nat}
theorem preg {id : Nat} {l : List Oper} (h : wpList P l.toArray Q l a w) : (Code.region id l.toArray false).wp P Q a w := wp_region_lit h
theorem pnil (h : Q .normal a w) : wpList P ops Q [] a w := h
theorem p_upon (hg : o.guard = none) {r : Result Next} (hr : (execOp a.eval o).run P w = r) (h : o.upon P a (wpList P ops Q rest) Q r) : wpList P ops Q (o :: rest) a w := by
  unfold wpList; rw [if_pos (by simp [Region.wanted, hg])]
  left; show o.upon P a _ Q _; rw [hr]; exact h
theorem p_val (F : Fr a N L D) (hg : o.guard = none) (hd : o.dst = some d) (hN : d < N) (hr : (execOp a.eval o).run P w = .ok (.value v) w')
    (k : ∀ a', Fr a' N ((d, v) :: L) D → wpList P ops Q rest a' w') : wpList P ops Q (o :: rest) a w :=
  p_upon hg hr (by show wpList P ops Q rest (a.put o.dst v) w'; rw [hd]; exact k _ (F.put v hN))
theorem p_skip (F : Fr a N L D) (hg : o.guard = none) (hd : o.dst = none) (hr : (execOp a.eval o).run P w = .ok .skip w')
    (k : ∀ a', Fr a' N L D → wpList P ops Q rest a' w') : wpList P ops Q (o :: rest) a w :=
  p_upon hg hr (by show wpList P ops Q rest (a.put o.dst undef) w'; rw [hd]; exact k _ F)
theorem p_eff0 {R0 : World → Prop} (F : Fr a N L D) (hg : o.guard = none) (hd : o.dst = none) (h : ∃ w', (execOp a.eval o).run P w = .ok .skip w' ∧ R0 w')
    (k : ∀ w' a', R0 w' → Fr a' N L D → wpList P ops Q rest a' w') : wpList P ops Q (o :: rest) a w := by
  obtain ⟨w', hr, hR⟩ := h
  exact p_skip F hg hd hr fun a' F' => k w' a' hR F'
theorem p_call (F : Fr a N L D) (hg : o.guard = none) (hd : o.dst = some d) (hN : d < N) {f : FuncId} {args : Array Value} {R : Ending → World → Prop} (hr : (execOp a.eval o).run P w = .ok (.enter f args) w) (hc : Calls P f args w R)
    (k : ∀ e w', R e w' → (∃ v, e = .returned v ∧ ∀ a', Fr a' N ((d, v) :: L) D → wpList P ops Q rest a' w') ∨ (∃ ch, e = .panicked ch ∧ ∀ a', Fr a' N L D → Q (.panic ch) a' w')) : wpList P ops Q (o :: rest) a w :=
  p_upon hg hr (hc.mono fun e w' hR => by
    rcases k e w' hR with ⟨v, rfl, hk⟩ | ⟨ch, rfl, hk⟩
    · show wpList P ops Q rest (a.put o.dst v) w'; rw [hd]; exact hk _ (F.put v hN)
    · exact hk _ F)
theorem p_halt (F : Fr a N L D) (hg : o.guard = none) (hr : (execOp a.eval o).run P w = .halt (.panic v) w') (k : ∀ a', Fr a' N L D → Q (.panic [{ v, recovered := false }]) a' w') : wpList P ops Q (o :: rest) a w :=
  p_upon hg hr (k _ F)
theorem thenP {K : Act → World → Prop} {ch : List PanicEntry} (h : Q (.panic ch) a w) : Exit.then K Q (.panic ch) a w := h
theorem inbP {id : Nat} {ch : List PanicEntry} (h : Q (.panic ch) a w) : Exit.inBlock id Q (.panic ch) a w := h
theorem outP {fn : Func} {R : Ending → World → Prop} {ch : List PanicEntry} (F : Fr a N L) (h : R (.panicked ch) w) : bodyPost P fn R (.panic ch) a w := ⟨F.dfr, h⟩
end
def Still (w w' : World) : Prop := w'.heap = w.heap ∧ w'.os = w.os ∧ w'.tape = w.tape ∧ w'.output = w.output
theorem Still.ev {M : Nat → Prop} {w w' : World} (h : Still w w') (c : Nat → Nat) : Ev M c w c w' := Ev.same h.1 h.2.1 h.2.2.1 h.2.2.2
theorem bounds_still {α : Type} {P : Program} (k : IntKind) (x y : Int) (code : BoundsCode) (w : World) : ∃ t u w', (boundsPanic k x y code : Sem α).run P w = .halt (.panic (.iface t u)) w' ∧ Still w w' := by
  unfold boundsPanic
  split
  · simp only [runtimePanic, goPanic, go_sem]
    exact ⟨_, _, _, rfl, rfl, rfl, rfl, rfl⟩
  · simp only [runtimePanic, goPanic, go_sem]
    exact ⟨_, _, _, rfl, rfl, rfl, rfl, rfl⟩
section
variable {P : Program} {a : Act} {N : Nat} {L : List (Nat × Value)} {D : List Deferred} {w w' : World} {x : Operand} {d : Option Tmp} {t e ty : TypeId} {pos : String} {af : Array Edge} {gd : Option (Nat × Bool)} {A : Option Addr} {cap n0 : Nat} {h : Halt}
theorem r_sliceH (F : Fr a N L D) {lo hi mx : Option Operand} {vl vh vm : Option Value} (hx : ev L x = some (.slice A n0 cap)) (h1 : lo.map (ev L) = vl.map some) (h2 : hi.map (ev L) = vh.map some) (h3 : mx.map (ev L) = vm.map some)
    (hr : (Instr.sliceAt t (.slice A n0 cap) vl vh vm).run P w = .halt h w') :
    (execOp a.eval { dst := d, op := .slice t x lo hi mx, type := ty, pos := pos, after := af, guard := gd }).run P w = .halt h w' := by
  have e1 : lo.map a.eval = vl := by
    cases lo <;> cases vl <;> simp at h1 ⊢; rw [F.ev h1]
  have e2 : hi.map a.eval = vh := by
    cases hi <;> cases vh <;> simp at h2 ⊢; rw [F.ev h2]
  have e3 : mx.map a.eval = vm := by
    cases mx <;> cases vm <;> simp at h3 ⊢; rw [F.ev h3]
  simp [execOp, F.ev hx, e1, e2, e3, hr]
theorem pan_nn {n : Int} (hu : P.underlying t = some (.slice e)) (g : ¬ (0 ≤ n ∧ n ≤ (cap : Int))) (w : World) :
    ∃ t1 u w', (Instr.sliceAt t (.slice A n0 cap) none (some (.int .i64 n)) (some (.int .i64 n))).run P w = .halt (.panic (.iface t1 u)) w' ∧ Still w w' := by
  obtain ⟨t1, u, w', h1, h2⟩ := bounds_still (α := Nat) (P := P) .i64 n cap .slice3Acap w
  refine ⟨t1, u, w', ?_, h2⟩
  simp [Instr.sliceAt, run_underlying hu, Instr.slice, Instr.sliceBounds, Instr.sliceBound, asIntOf, g, h1]
theorem ok_nn {n : Int} {sz : Nat} (hu : P.underlying t = some (.slice e)) (hs : ∀ w, (sizeOf e).run P w = .ok sz w) (g : 0 ≤ n ∧ n ≤ (cap : Int)) :
    ∃ v, ∀ w, (Instr.sliceAt t (.slice A n0 cap) none (some (.int .i64 n)) (some (.int .i64 n))).run P w = .ok v w := by
  obtain ⟨k, rfl⟩ := Int.eq_ofNat_of_zero_le g.1
  have g2 : k ≤ cap := by omega
  exact ⟨_, run_cut hu hs none (some (.int .i64 (k : Int))) (some (.int .i64 (k : Int))) (l := 0) (r := k) (m := k) (fun w => by simp [Instr.sliceBounds, Instr.sliceBound, asIntOf, g2])⟩
theorem pan_l {n : Int} (hu : P.underlying t = some (.slice e)) (g : ¬ (0 ≤ n ∧ n ≤ (n0 : Int))) (w : World) :
    ∃ t1 u w', (Instr.sliceAt t (.slice A n0 cap) (some (.int .i64 n)) none none).run P w = .halt (.panic (.iface t1 u)) w' ∧ Still w w' := by
  obtain ⟨t1, u, w', h1, h2⟩ := bounds_still (α := Nat) (P := P) .i64 n n0 .sliceB w
  refine ⟨t1, u, w', ?_, h2⟩
  simp [Instr.sliceAt, run_underlying hu, Instr.slice, Instr.sliceBounds, Instr.sliceBound, asIntOf, g, h1]
theorem cut_nn {α : Type} {k : K α} {own : Bool} {j i : Nat} {c : Nat → Nat} {xs : List α} {n : Int} (hu : P.underlying t = some (.slice e)) (hs : ∀ w, (sizeOf e).run P w = .ok k.sz w) (hx : SL own k j i c w A cap xs) (g : 0 ≤ n ∧ n ≤ (xs.length : Int)) :
    ∃ A' cap', (∀ w, (Instr.sliceAt t (.slice A xs.length cap) none (some (.int .i64 n)) (some (.int .i64 n))).run P w = .ok (.slice A' (xs.take n.toNat).length cap') w) ∧ SL own k j i c w A' cap' (xs.take n.toNat) := by
  have hc : xs.length ≤ cap := by obtain ⟨cs, h2, _⟩ := hx; exact h2
  obtain ⟨q, rfl⟩ := Int.eq_ofNat_of_zero_le g.1
  have g1 : q ≤ xs.length := by omega
  have hcut := hx.cut 0 q q (by omega) (by omega) (by omega) (Nat.le_refl _)
  rw [List.drop_zero] at hcut
  refine ⟨_, _, fun w => ?_, by simpa using hcut⟩
  have g2 : q ≤ cap := by omega
  rw [run_cut hu hs none (some (.int .i64 (q : Int))) (some (.int .i64 (q : Int))) (l := 0) (r := q) (m := q) (fun w => by simp [Instr.sliceBounds, Instr.sliceBound, asIntOf, g2]) w]
  simp [Nat.min_eq_left g1]
end
def RX {α : Type} (m j : Nat) (c0 : Nat → Nat) (w0 : World) (p : Option Addr) (ou : List (List Int)) (res : (List Int × Int) ⊕ (α × List Int × Int)) (ret : α → (Nat → Nat) → World → Value → Prop) (e : Ending) (w_ : World) : Prop :=
  ∃ c_, Ev (fun x => x = j) c0 w0 c_ w_ ∧ CB m c_ w_ ∧ match res with
    | .inl (l, f) => (∃ t u, e = .panicked [{ v := .iface t u, recovered := false }]) ∧ RD j c_ w_ p (some ⟨l, ou, f⟩)
    | .inr (x, l, f) => (∃ v, e = .returned v ∧ ret x c_ w_ v) ∧ RD j c_ w_ p (some ⟨l, ou, f⟩)
def retS (x : List Int) (c : Nat → Nat) (w : World) (v : Value) : Prop := ∃ A C, v = .slice A x.length C ∧ SL false (Kint .u8) 0 0 c w A C x
def rnext (l : List Int) (f n : Int) : (List Int × Int) ⊕ (List Int × List Int × Int) := if 0 ≤ n ∧ n ≤ (l.length : Int) then .inr (l.take n.toNat, l.drop n.toNat, f) else .inl (l, f)
set_option maxHeartbeats 1000000 in
theorem next_calls {m : Nat} {c0 : Nat → Nat} {w0 : World} {j : Nat} {p : Option Addr} {r : Rdr} {n : Int} (B0 : CB m c0 w0) (h : RD j c0 w0 p (some r)) (hj : 0 < j) :
    Calls Tryz.prog 119 #[.pointer p, .int .i64 n] w0 (RX m j c0 w0 p r.outer (rnext r.left r.fault n) retS) := by
  obtain ⟨ad, A1, C1, A2, C2, rfl, hat, hl, ho⟩ := RD.some h
  refine enter (N := 23) (l := [.pointer (some ad), .int .i64 n]) Tryz.func119 rfl rfl (Nat.le_of_ble_eq_true rfl) fun a F => ?_
  refine wp_seq_k fun K1 hK1 => ?_
  refine reg ?_
  refine q_val F rfl rfl (by decide) (r_assign F rfl) fun a F => ?_
  refine nil ?_
  refine hK1 _ _ ?_
  refine wp_seq_k fun K2 hK2 => ?_
  refine preg ?_
  refine p_val F rfl rfl (by decide) (r_move F rfl) fun a F => ?_
  refine p_val F rfl rfl (by decide) (r_nil F rfl) fun a F => ?_
  refine p_val F rfl rfl (by decide) (r_fieldAddr F rfl ff_147_0) fun a F => ?_
  refine p_val F rfl rfl (by decide) (r_load F rfl ag_27 (AT.cell hat rfl)) fun a F => ?_
  refine p_val F rfl rfl (by decide) (r_move F rfl) fun a F => ?_
  refine p_val F rfl rfl (by decide) (r_move F rfl) fun a F => ?_
  by_cases g : 0 ≤ n ∧ n ≤ (r.left.length : Int)
  · obtain ⟨A3, C3, hr3, h3⟩ := cut_nn (n := n) Tryz.underlying27 sz_5 hl g
    refine p_val F rfl rfl (by decide) (r_slice (vl := none) (vh := some (.int .i64 n)) (vm := some (.int .i64 n)) F rfl rfl rfl rfl hr3) fun a F => ?_
    refine p_val F rfl rfl (by decide) (r_assign F rfl) fun a F => ?_
    refine pnil ?_
    refine hK2 _ _ ?_
    refine wp_seq_k fun K3 hK3 => ?_
    refine reg ?_
    refine q_val F rfl rfl (by decide) (r_move F rfl) fun a F => ?_
    refine q_val F rfl rfl (by decide) (r_move F rfl) fun a F => ?_
    refine q_val F rfl rfl (by decide) (r_nil F rfl) fun a F => ?_
    refine q_val F rfl rfl (by decide) (r_fieldAddr F rfl ff_147_0) fun a F => ?_
    refine q_val F rfl rfl (by decide) (r_load F rfl ag_27 (AT.cell hat rfl)) fun a F => ?_
    refine q_val F rfl rfl (by decide) (r_move F rfl) fun a F => ?_
    obtain ⟨A4, C4, hr4, h4⟩ := cut_l (kl := .i64) (l := n) Tryz.underlying27 sz_5 hl g
    refine q_val F rfl rfl (by decide) (r_slice (vl := some (.int .i64 n)) (vh := none) (vm := none) F rfl rfl rfl rfl hr4) fun a F => ?_
    refine q_val F rfl rfl (by decide) (r_nil F rfl) fun a F => ?_
    refine q_val F rfl rfl (by decide) (r_fieldAddr F rfl ff_147_0) fun a F => ?_
    refine q_eff0 F rfl rfl (e_store F rfl rfl sz_27 hat (by simp) rfl) ?_
    rintro w1 a ⟨E1, hat1, hz⟩ F
    refine nil ?_
    refine hK3 _ _ ?_
    refine wp_seq_k fun K4 hK4 => ?_
    refine reg ?_
    refine q_val F rfl rfl (by decide) (r_move F rfl) fun a F => ?_
    refine q_val F rfl rfl (by decide) (r_assign F rfl) fun a F => ?_
    refine nil ?_
    refine hK4 _ _ ?_
    refine wp_ret ?_
    refine out1 F rfl rfl ?_
    have n0 : ¬ ((0 : Nat) = j) := by omega
    refine ⟨c0, E1, B0.size hz, ?_⟩
    unfold rnext
    rw [if_pos g]
    exact ⟨⟨_, rfl, A3, C3, rfl, h3.ev E1 n0 n0⟩, RD.mk hat1 (h4.ev E1 n0 n0) (ho.ev E1 n0 n0)⟩
  · have fin : ∀ (w' : World) (t : TypeId) (u : Value), Still w0 w' → RX m j c0 w0 (some ad) r.outer (rnext r.left r.fault n) retS (.panicked [{ v := .iface t u, recovered := false }]) w' := by
      intro w' t u hS
      refine ⟨c0, hS.ev c0, B0.same hS.1, ?_⟩
      unfold rnext
      rw [if_neg g]
      exact ⟨⟨t, u, rfl⟩, h.ev (hS.ev (M := No) c0) (fun q => q) (fun q => q)⟩
    by_cases g2 : 0 ≤ n ∧ n ≤ (C1 : Int)
    · obtain ⟨v, hv⟩ := ok_nn (P := Tryz.prog) (A := A1) (n0 := r.left.length) Tryz.underlying27 sz_5 g2
      refine p_val F rfl rfl (by decide) (r_slice (xs := r.left) (vl := none) (vh := some (.int .i64 n)) (vm := some (.int .i64 n)) F rfl rfl rfl rfl hv) fun a F => ?_
      refine p_val F rfl rfl (by decide) (r_assign F rfl) fun a F => ?_
      refine pnil ?_
      refine hK2 _ _ ?_
      refine wp_seq_k fun K3 hK3 => ?_
      refine preg ?_
      refine p_val F rfl rfl (by decide) (r_move F rfl) fun a F => ?_
      refine p_val F rfl rfl (by decide) (r_move F rfl) fun a F => ?_
      refine p_val F rfl rfl (by decide) (r_nil F rfl) fun a F => ?_
      refine p_val F rfl rfl (by decide) (r_fieldAddr F rfl ff_147_0) fun a F => ?_
      refine p_val F rfl rfl (by decide) (r_load F rfl ag_27 (AT.cell hat rfl)) fun a F => ?_
      refine p_val F rfl rfl (by decide) (r_move F rfl) fun a F => ?_
      obtain ⟨t1, u, w', hr, hS⟩ := pan_l (P := Tryz.prog) (A := A1) (cap := C1) (n0 := r.left.length) (n := n) Tryz.underlying27 g w0
      refine p_halt F rfl (r_sliceH (vl := some (.int .i64 n)) (vh := none) (vm := none) F rfl rfl rfl rfl hr) fun a F => ?_
      repeat (refine thenP ?_)
      exact outP F (fin w' t1 u hS)
    · obtain ⟨t1, u, w', hr, hS⟩ := pan_nn (P := Tryz.prog) (A := A1) (n0 := r.left.length) (n := n) Tryz.underlying27 g2 w0
      refine p_halt F rfl (r_sliceH (vl := none) (vh := some (.int .i64 n)) (vm := some (.int .i64 n)) F rfl rfl rfl rfl hr) fun a F => ?_
      repeat (refine thenP ?_)
      exact outP F (fin w' t1 u hS)
theorem sl_one {c : Nat → Nat} {w : World} {A : Option Addr} {C : Nat} {x : Int} (h : SL false (Kint .u8) 0 0 c w A C [x]) : ∃ q, A = some q ∧ w.cell? (q.add 0) = some (.int .u8 x) := by
  obtain ⟨q, cs, hA, hat, hr⟩ := h.at 0 (by omega) (by simp)
  refine ⟨q, hA, ?_⟩
  have hr' : cs = [.int .u8 x] := hr
  subst hr'
  have := hat.cell (n := 0) rfl
  simpa [Addr.add] using this
def retI (k : IntKind) (x : Int) (c : Nat → Nat) (w : World) (v : Value) : Prop := v = .int k x
set_option maxHeartbeats 2000000 in
theorem num_calls {m : Nat} {c0 : Nat → Nat} {w0 : World} {j : Nat} {p : Option Addr} {r : Rdr} (B0 : CB m c0 w0) (h : RD j c0 w0 p (some r)) (hj : 0 < j) :
    Calls Tryz.prog 121 #[.pointer p] w0 (RX m j c0 w0 p r.outer (rnum r.fault r.left 0 0) (retI .u64)) := by
  refine enter (N := 41) (l := [.pointer p]) Tryz.func121 rfl rfl (Nat.le_of_ble_eq_true rfl) fun a F => ?_
  refine wp_seq_k fun K1 hK1 => ?_
  refine reg ?_
  refine q_val F rfl rfl (by decide) (r_assign F rfl) fun a F => ?_
  refine nil ?_
  refine hK1 _ _ ?_
  refine wp_seq_k fun K2 hK2 => ?_
  refine reg ?_
  refine q_val F rfl rfl (by decide) (r_assign F rfl) fun a F => ?_
  refine nil ?_
  refine hK2 _ _ ?_
  refine wp_seq_k fun K3 hK3 => ?_
  refine reg ?_
  refine q_val F rfl rfl (by decide) (r_assign F rfl) fun a F => ?_
  refine nil ?_
  refine hK3 _ _ ?_
  refine wp_block ?_
  refine loop_fuel (I := fun q a w => ∃ (xs : List Int) (i : Nat) (n : Int) (c : Nat → Nat), q = xs.length ∧ i ≤ 9 ∧ Fr a 41 [(0, .pointer p), (3, .int .u64 n), (4, .int .i64 i)] ∧ Ev (fun x => x = j) c0 w0 c w ∧ CB m c w ∧ RD j c w p (some ⟨xs, r.outer, r.fault⟩) ∧ rnum r.fault xs i n = rnum r.fault r.left 0 0) (k := r.left.length)
    ⟨r.left, 0, 0, c0, rfl, by omega, F.sub ⟨rfl, rfl, rfl, trivial⟩, Ev.refl, B0, h, rfl⟩ ?_
  clear F
  intro q X hX a w ⟨xs, i, n, c, hq, hi, F, E, B, hR, hres⟩
  subst hq
  refine wp_seq_k fun K4 hK4 => ?_
  refine wp_block ?_
  refine wp_seq_k fun K5 hK5 => ?_
  refine preg ?_
  refine p_val F rfl rfl (by decide) (r_move F rfl) fun a F => ?_
  refine p_call F rfl rfl (by decide) (r_call (vs := [.pointer p, .int .i64 1]) F Tryz.func119 rfl rfl rfl) (next_calls B hR hj) ?_
  rintro e w1 ⟨c1, E1, B1, hx⟩
  cases xs with
  | nil =>
    right
    have e0 : rnext ([] : List Int) r.fault 1 = .inl ([], r.fault) := rfl
    rw [show (⟨[], r.outer, r.fault⟩ : Rdr).left = [] from rfl, show (⟨[], r.outer, r.fault⟩ : Rdr).fault = r.fault from rfl, e0] at hx
    obtain ⟨⟨t, u, rfl⟩, hR1⟩ := hx
    refine ⟨_, rfl, fun a F => ?_⟩
    repeat (first | refine thenP ?_ | refine inbP ?_)
    refine outP (F.sub (L' := []) trivial) ?_
    refine ⟨c1, E.trans E1 (fun _ q => q), B1, ?_⟩
    rw [← hres]
    exact ⟨⟨t, u, rfl⟩, hR1⟩
  | cons x xs =>
    left
    have e0 : rnext (x :: xs) r.fault 1 = .inr ([x], xs, r.fault) := by
      unfold rnext; rw [if_pos (by simp; omega)]; rfl
    rw [show (⟨x :: xs, r.outer, r.fault⟩ : Rdr).left = x :: xs from rfl, show (⟨x :: xs, r.outer, r.fault⟩ : Rdr).fault = r.fault from rfl, e0] at hx
    obtain ⟨⟨v, rfl, A, C, rfl, hs⟩, hR1⟩ := hx
    obtain ⟨qa, rfl, hcell⟩ := sl_one hs
    refine ⟨_, rfl, fun a F => ?_⟩
    have E := E.trans E1 (fun _ q => q)
    refine p_val F rfl rfl (by decide) (r_indexAddr F Tryz.underlying27 sz_5 rfl rfl (by omega) (by simp)) fun a F => ?_
    refine p_val F rfl rfl (by decide) (r_load F rfl ag_5 hcell) fun a F => ?_
    refine p_val F rfl rfl (by decide) (r_assign F rfl) fun a F => ?_
    refine pnil ?_
    refine hK5 _ _ ?_
    have hi9 : ((i : Int) = 9) = (i = 9) := by simp; omega
    have hi0 : (0 < (i : Int)) = (0 < i) := by simp
    refine wp_seq_k fun K6 hK6 => ?_
    refine wp_seq_k fun K7 hK7 => ?_
    have bad : ∀ a, Fr a 41 [(0, .pointer p), (25, .bool true)] → ((i = 9 ∧ 1 < x) ∨ (0 < i ∧ x = 0)) → K7 a w1 := by
      intro a F hc
      refine hK7 _ _ ?_
      refine wp_cond_true (F.ev rfl) ?_
      obtain ⟨ad, A1, C1, A2, C2, rfl, hat, hl, ho⟩ := RD.some hR1
      refine wp_seq_k fun K8 hK8 => ?_
      refine reg ?_
      refine q_val F rfl rfl (by decide) (r_move F rfl) fun a F => ?_
      refine q_val F rfl rfl (by decide) (r_nil F rfl) fun a F => ?_
      refine q_val F rfl rfl (by decide) (r_fieldAddr F rfl ff_147_2) fun a F => ?_
      refine q_eff0 F rfl rfl (e_store F rfl rfl sz_33 hat (by simp) rfl) ?_
      rintro w2 a ⟨E2, hat2, hz⟩ F
      refine nil ?_
      refine hK8 _ _ ?_
      refine wp_seq_k fun K9 hK9 => ?_
      refine reg ?_
      refine q_val F rfl rfl (by decide) (r_assign F rfl) fun a F => ?_
      refine nil ?_
      refine hK9 _ _ ?_
      refine wp_ret ?_
      repeat (first | refine thenR ?_ | refine inbR ?_)
      refine out1 F rfl rfl ?_
      have n0 : ¬ ((0 : Nat) = j) := by omega
      refine ⟨c1, E.trans E2 (fun _ q => q), B1.size hz, ?_⟩
      rw [← hres]
      unfold rnum
      rw [if_pos hc]
      exact ⟨⟨_, rfl, rfl⟩, RD.mk (t := ⟨xs, r.outer, 11⟩) hat2 (hl.ev E2 n0 n0) (ho.ev E2 n0 n0)⟩
    have good : ∀ a, Fr a 41 [(0, .pointer p), (3, .int .u64 n), (4, .int .i64 i), (5, .int .u8 x), (25, .bool false)] → ¬ ((i = 9 ∧ 1 < x) ∨ (0 < i ∧ x = 0)) → K7 a w1 := by
      intro a F hc
      refine hK7 _ _ ?_
      refine wp_cond_false (F.ev rfl) ?_
      refine wp_skip ?_
      refine hK6 _ _ ?_
      refine wp_seq_k fun K8 hK8 => ?_
      refine reg ?_
      refine q_val F rfl rfl (by decide) (r_move F rfl) fun a F => ?_
      refine q_val F rfl rfl (by decide) (r_move F rfl) fun a F => ?_
      refine q_val F rfl rfl (by decide) (r_and F rfl rfl) fun a F => ?_
      refine q_val F rfl rfl (by decide) (r_convi F Tryz.underlying53 (by kernel_rfl) rfl) fun a F => ?_
      refine q_val F rfl rfl (by decide) (r_move F rfl) fun a F => ?_
      refine q_val F rfl rfl (by decide) (r_mul F rfl rfl) fun a F => ?_
      refine q_val F rfl rfl (by decide) (r_convi F Tryz.underlying179 (by kernel_rfl) rfl) fun a F => ?_
      have hw : IntKind.u64.wrap (IntKind.i64.wrap (7 * (i : Int))) = 7 * (i : Int) := by
        simp only [IntKind.wrap, IntKind.bits, IntKind.signed]; simp; omega
      rw [hw] at F
      refine q_val F rfl rfl (by decide) (r_shl F rfl rfl (by omega)) fun a F => ?_
      refine q_val F rfl rfl (by decide) (r_or F rfl rfl) fun a F => ?_
      refine q_val F rfl rfl (by decide) (r_assign F rfl) fun a F => ?_
      refine nil ?_
      refine hK8 _ _ ?_
      refine wp_seq_k fun K9 hK9 => ?_
      refine reg ?_
      refine q_val F rfl rfl (by decide) (r_move F rfl) fun a F => ?_
      refine q_val F rfl rfl (by decide) (r_lss F rfl rfl) fun a F => ?_
      refine nil ?_
      refine hK9 _ _ ?_
      by_cases hb : x < 128
      · refine wp_cond_true ((F.ev rfl).trans (congrArg Value.bool (decide_eq_true hb))) ?_
        refine wp_seq_k fun K10 hK10 => ?_
        refine reg ?_
        refine q_val F rfl rfl (by decide) (r_move F rfl) fun a F => ?_
        refine q_val F rfl rfl (by decide) (r_assign F rfl) fun a F => ?_
        refine nil ?_
        refine hK10 _ _ ?_
        refine wp_ret ?_
        repeat (first | refine thenR ?_ | refine inbR ?_)
        refine out1 F rfl rfl ?_
        refine ⟨c1, E, B1, ?_⟩
        rw [← hres]
        unfold rnum
        rw [if_neg hc, if_pos hb]
        exact ⟨⟨_, rfl, rfl⟩, hR1⟩
      · refine wp_cond_false ((F.ev rfl).trans (congrArg Value.bool (decide_eq_false hb))) ?_
        refine wp_skip ?_
        repeat (first | refine inbN ?_ | refine hK4 _ _ ?_)
        refine reg ?_
        refine q_val F rfl rfl (by decide) (r_move F rfl) fun a F => ?_
        refine q_val F rfl rfl (by decide) (r_add F rfl rfl) fun a F => ?_
        refine q_val F rfl rfl (by decide) (r_assign F rfl) fun a F => ?_
        refine nil ?_
        have hw1 : IntKind.i64.wrap ((i : Int) + 1) = ((i + 1 : Nat) : Int) := by
          simp only [IntKind.wrap_i64]; omega
        rw [hw1] at F
        refine hX xs.length _ _ (by simp) ⟨xs, i + 1, _, c1, rfl, ?_, F.sub ⟨rfl, rfl, rfl, trivial⟩, E, B1, hR1, ?_⟩
        · have : i ≠ 9 := fun e => hb (by have : ¬ (1 < x) := fun q => hc (Or.inl ⟨e, q⟩); omega)
          omega
        · rw [← hres]
          conv => rhs; unfold rnum
          rw [if_neg hc, if_neg hb]
    refine reg ?_
    refine q_val F rfl rfl (by decide) (r_move F rfl) fun a F => ?_
    refine q_val F rfl rfl (by decide) (r_eql F rfl rfl) fun a F => ?_
    refine q_val F rfl rfl (by decide) (r_move F rfl) fun a F => ?_
    by_cases b9 : i = 9
    · have b9' : (i : Int) = 9 := by omega
      refine q_yes F rfl (by decide) rfl (decide_eq_true b9') ?_
      refine q_val F rfl rfl (by decide) (r_move F rfl) fun a F => ?_
      refine q_yes F rfl (by decide) rfl (decide_eq_true b9') ?_
      refine q_val F rfl rfl (by decide) (r_gtr F rfl rfl) fun a F => ?_
      refine q_val F rfl rfl (by decide) (r_pick_t F rfl (decide_eq_true b9') rfl) fun a F => ?_
      refine q_val F rfl rfl (by decide) (r_move F rfl) fun a F => ?_
      by_cases b1 : 1 < x
      · refine q_no F rfl (by decide) rfl (decide_eq_true b1) (by decide) fun a F => ?_
        refine q_no F rfl (by decide) rfl (decide_eq_true b1) (by decide) fun a F => ?_
        refine q_no F rfl (by decide) rfl (decide_eq_true b1) (by decide) fun a F => ?_
        refine q_nu F rfl (by decide) rfl (by decide) fun a F => ?_
        refine q_nu F rfl (by decide) rfl (by decide) fun a F => ?_
        refine q_no F rfl (by decide) rfl (decide_eq_true b1) (by decide) fun a F => ?_
        refine q_val F rfl rfl (by decide) (r_pick_t F rfl (decide_eq_true b1) rfl) fun a F => ?_
        refine nil ?_
        exact bad a (F.sub ⟨rfl, rfl, trivial⟩) (Or.inl ⟨b9, b1⟩)
      · refine q_yes F rfl (by decide) rfl (decide_eq_false b1) ?_
        refine q_val F rfl rfl (by decide) (r_move F rfl) fun a F => ?_
        refine q_yes F rfl (by decide) rfl (decide_eq_false b1) ?_
        refine q_val F rfl rfl (by decide) (r_gtr F rfl rfl) fun a F => ?_
        refine q_yes F rfl (by decide) rfl (decide_eq_false b1) ?_
        refine q_val F rfl rfl (by decide) (r_move F rfl) fun a F => ?_
        have b0 : 0 < (i : Int) := by omega
        refine q_yes F rfl (by decide) rfl (decide_eq_true b0) ?_
        refine q_val F rfl rfl (by decide) (r_move F rfl) fun a F => ?_
        refine q_yes F rfl (by decide) rfl (decide_eq_true b0) ?_
        refine q_val F rfl rfl (by decide) (r_eql F rfl rfl) fun a F => ?_
        refine q_yes F rfl (by decide) rfl (decide_eq_false b1) ?_
        refine q_val F rfl rfl (by decide) (r_pick_t F rfl (decide_eq_true b0) rfl) fun a F => ?_
        refine q_val F rfl rfl (by decide) (r_pick_f F rfl (decide_eq_false b1) rfl) fun a F => ?_
        refine nil ?_
        by_cases bz : x = 0
        · rw [decide_eq_true bz] at F
          exact bad a (F.sub ⟨rfl, rfl, trivial⟩) (Or.inr ⟨by omega, bz⟩)
        · rw [decide_eq_false bz] at F
          exact good a (F.sub ⟨rfl, rfl, rfl, rfl, rfl, trivial⟩) (by rintro (⟨_, q⟩ | ⟨_, q⟩); exact b1 q; exact bz q)
    · have b9' : ¬ (i : Int) = 9 := by omega
      refine q_no F rfl (by decide) rfl (decide_eq_false b9') (by decide) fun a F => ?_
      refine q_no F rfl (by decide) rfl (decide_eq_false b9') (by decide) fun a F => ?_
      refine q_val F rfl rfl (by decide) (r_pick_f F rfl (decide_eq_false b9') rfl) fun a F => ?_
      refine q_val F rfl rfl (by decide) (r_move F rfl) fun a F => ?_
      refine q_yes F rfl (by decide) rfl rfl ?_
      refine q_val F rfl rfl (by decide) (r_move F rfl) fun a F => ?_
      refine q_yes F rfl (by decide) rfl rfl ?_
      refine q_val F rfl rfl (by decide) (r_gtr F rfl rfl) fun a F => ?_
      refine q_yes F rfl (by decide) rfl rfl ?_
      refine q_val F rfl rfl (by decide) (r_move F rfl) fun a F => ?_
      by_cases b0 : 0 < (i : Int)
      · refine q_yes F rfl (by decide) rfl (decide_eq_true b0) ?_
        refine q_val F rfl rfl (by decide) (r_move F rfl) fun a F => ?_
        refine q_yes F rfl (by decide) rfl (decide_eq_true b0) ?_
        refine q_val F rfl rfl (by decide) (r_eql F rfl rfl) fun a F => ?_
        refine q_yes F rfl (by decide) rfl rfl ?_
        refine q_val F rfl rfl (by decide) (r_pick_t F rfl (decide_eq_true b0) rfl) fun a F => ?_
        refine q_val F rfl rfl (by decide) (r_pick_f F rfl rfl rfl) fun a F => ?_
        refine nil ?_
        by_cases bz : x = 0
        · rw [decide_eq_true bz] at F
          exact bad a (F.sub ⟨rfl, rfl, trivial⟩) (Or.inr ⟨by omega, bz⟩)
        · rw [decide_eq_false bz] at F
          exact good a (F.sub ⟨rfl, rfl, rfl, rfl, rfl, trivial⟩) (by rintro (⟨q, _⟩ | ⟨_, q⟩); exact b9 q; exact bz q)
      · refine q_no F rfl (by decide) rfl (decide_eq_false b0) (by decide) fun a F => ?_
        refine q_no F rfl (by decide) rfl (decide_eq_false b0) (by decide) fun a F => ?_
        refine q_yes F rfl (by decide) rfl rfl ?_
        refine q_val F rfl rfl (by decide) (r_pick_f F rfl (decide_eq_false b0) rfl) fun a F => ?_
        refine q_val F rfl rfl (by decide) (r_pick_f F rfl rfl rfl) fun a F => ?_
        refine nil ?_
        exact good a (F.sub ⟨rfl, rfl, rfl, rfl, rfl, trivial⟩) (by rintro (⟨q, _⟩ | ⟨q, _⟩); exact b9 q; omega)
set_option maxHeartbeats 2000000 in
theorem size_calls {m : Nat} {c0 : Nat → Nat} {w0 : World} {j : Nat} {p : Option Addr} {r : Rdr} {most : Int} (B0 : CB m c0 w0) (h : RD j c0 w0 p (some r)) (hj : 0 < j) :
    Calls Tryz.prog 117 #[.pointer p, .int .u64 most] w0 (RX m j c0 w0 p r.outer (rsize r.left r.fault most) (retI .i64)) := by
  refine enter (N := 39) (l := [.pointer p, .int .u64 most]) Tryz.func117 rfl rfl (Nat.le_of_ble_eq_true rfl) fun a F => ?_
  refine wp_seq_k fun K1 hK1 => ?_
  refine reg ?_
  refine q_val F rfl rfl (by decide) (r_assign F rfl) fun a F => ?_
  refine nil ?_
  refine hK1 _ _ ?_
  refine wp_seq_k fun K2 hK2 => ?_
  refine preg ?_
  refine p_val F rfl rfl (by decide) (r_move F rfl) fun a F => ?_
  refine p_call F rfl rfl (by decide) (r_call (vs := [.pointer p]) F Tryz.func121 rfl rfl rfl) (num_calls B0 h hj) ?_
  rintro e w1 ⟨c1, E, B, hx⟩
  generalize hn : rnum r.fault r.left 0 0 = res at hx
  match res with
  | .inl (l, f) =>
    right
    obtain ⟨⟨t, u, rfl⟩, hR1⟩ := hx
    refine ⟨_, rfl, fun a F => ?_⟩
    repeat (first | refine thenP ?_ | refine inbP ?_)
    refine outP (F.sub (L' := []) trivial) ?_
    refine ⟨c1, E, B, ?_⟩
    rw [show rsize r.left r.fault most = .inl (l, f) from by unfold rsize; rw [hn]]
    exact ⟨⟨t, u, rfl⟩, hR1⟩
  | .inr (n, l, f) =>
    left
    obtain ⟨⟨v, rfl, hv⟩, hR1⟩ := hx
    have hv : v = .int .u64 n := hv
    subst hv
    refine ⟨_, rfl, fun a F => ?_⟩
    refine p_val F rfl rfl (by decide) (r_assign F rfl) fun a F => ?_
    refine pnil ?_
    refine hK2 _ _ ?_
    have hlm : l.length ≤ maxLen := by
      obtain ⟨ad, A1, C1, A2, C2, rfl, hat, hl, ho⟩ := RD.some hR1
      exact hl.lenB
    obtain ⟨ad, A1, C1, A2, C2, rfl, hat, hl, ho⟩ := RD.some hR1
    have n0 : ¬ ((0 : Nat) = j) := by omega
    refine wp_seq_k fun K3 hK3 => ?_
    refine wp_seq_k fun K4 hK4 => ?_
    refine reg ?_
    refine q_val F rfl rfl (by decide) (r_move F rfl) fun a F => ?_
    refine q_val F rfl rfl (by decide) (r_nil F rfl) fun a F => ?_
    refine q_val F rfl rfl (by decide) (r_fieldAddr F rfl ff_147_2) fun a F => ?_
    refine q_val F rfl rfl (by decide) (r_load F rfl ag_33 (AT.cell hat rfl)) fun a F => ?_
    refine q_val F rfl rfl (by decide) (r_eql F rfl rfl) fun a F => ?_
    refine q_val F rfl rfl (by decide) (r_move F rfl) fun a F => ?_
    have out : ∀ (a : Act) (w2 : World) (l : List Int) (f : Int), Fr a 39 [(4, .int .i64 0)] → f ≠ 0 → RX m j c0 w0 (some ad) r.outer (.inr (0, l, f)) (retI .i64) (.returned (.int .i64 0)) w2 → True := fun _ _ _ _ _ _ _ => trivial
    by_cases hf : f = 0
    · subst hf
      refine q_yes F rfl (by decide) rfl (decide_eq_true rfl) ?_
      refine q_val F rfl rfl (by decide) (r_move F rfl) fun a F => ?_
      refine q_yes F rfl (by decide) rfl (decide_eq_true rfl) ?_
      refine q_val F rfl rfl (by decide) (r_move F rfl) fun a F => ?_
      refine q_yes F rfl (by decide) rfl (decide_eq_true rfl) ?_
      refine q_val F rfl rfl (by decide) (r_gtr F rfl rfl) fun a F => ?_
      refine q_val F rfl rfl (by decide) (r_pick_t F rfl (decide_eq_true rfl) rfl) fun a F => ?_
      refine nil ?_
      refine hK4 _ _ ?_
      by_cases hm : most < n
      · refine wp_cond_true ((F.ev rfl).trans (congrArg Value.bool (decide_eq_true hm))) ?_
        refine reg ?_
        refine q_val F rfl rfl (by decide) (r_move F rfl) fun a F => ?_
        refine q_val F rfl rfl (by decide) (r_nil F rfl) fun a F => ?_
        refine q_val F rfl rfl (by decide) (r_fieldAddr F rfl ff_147_2) fun a F => ?_
        refine q_eff0 F rfl rfl (e_store F rfl rfl sz_33 hat (by simp) rfl) ?_
        rintro w2 a ⟨E2, hat2, hz⟩ F
        refine nil ?_
        refine hK3 _ _ ?_
        refine wp_seq_k fun K5 hK5 => ?_
        refine wp_seq_k fun K6 hK6 => ?_
        refine reg ?_
        refine q_val F rfl rfl (by decide) (r_move F rfl) fun a F => ?_
        refine q_val F rfl rfl (by decide) (r_nil F rfl) fun a F => ?_
        refine q_val F rfl rfl (by decide) (r_fieldAddr F rfl ff_147_2) fun a F => ?_
        refine q_val F rfl rfl (by decide) (r_load F rfl ag_33 (AT.cell hat2 rfl)) fun a F => ?_
        refine q_val F rfl rfl (by decide) (r_neq F rfl rfl) fun a F => ?_
        refine nil ?_
        refine hK6 _ _ ?_
        refine wp_cond_true (F.ev rfl) ?_
        refine wp_seq_k fun K7 hK7 => ?_
        refine reg ?_
        refine q_val F rfl rfl (by decide) (r_assign F rfl) fun a F => ?_
        refine nil ?_
        refine hK7 _ _ ?_
        refine wp_ret ?_
        repeat (first | refine thenR ?_ | refine inbR ?_)
        refine out1 F rfl rfl ?_
        refine ⟨c1, E.trans E2 (fun _ q => q), B.size hz, ?_⟩
        rw [show rsize r.left r.fault most = .inr (0, l, 11) from by unfold rsize; rw [hn]; simp [hm]]
        exact ⟨⟨_, rfl, rfl⟩, RD.mk (t := ⟨l, r.outer, 11⟩) hat2 (hl.ev E2 n0 n0) (ho.ev E2 n0 n0)⟩
      · refine wp_cond_false ((F.ev rfl).trans (congrArg Value.bool (decide_eq_false hm))) ?_
        refine wp_skip ?_
        refine hK3 _ _ ?_
        refine wp_seq_k fun K5 hK5 => ?_
        refine wp_seq_k fun K6 hK6 => ?_
        refine reg ?_
        refine q_val F rfl rfl (by decide) (r_move F rfl) fun a F => ?_
        refine q_val F rfl rfl (by decide) (r_nil F rfl) fun a F => ?_
        refine q_val F rfl rfl (by decide) (r_fieldAddr F rfl ff_147_2) fun a F => ?_
        refine q_val F rfl rfl (by decide) (r_load F rfl ag_33 (AT.cell hat rfl)) fun a F => ?_
        refine q_val F rfl rfl (by decide) (r_neq F rfl rfl) fun a F => ?_
        refine nil ?_
        refine hK6 _ _ ?_
        refine wp_cond_false (F.ev rfl) ?_
        refine wp_skip ?_
        refine hK5 _ _ ?_
        refine wp_seq_k fun K7 hK7 => ?_
        refine wp_seq_k fun K8 hK8 => ?_
        refine reg ?_
        refine q_val F rfl rfl (by decide) (r_move F rfl) fun a F => ?_
        refine q_val F rfl rfl (by decide) (r_move F rfl) fun a F => ?_
        refine q_val F rfl rfl (by decide) (r_nil F rfl) fun a F => ?_
        refine q_val F rfl rfl (by decide) (r_fieldAddr F rfl ff_147_0) fun a F => ?_
        refine q_val F rfl rfl (by decide) (r_load F rfl ag_27 (AT.cell hat rfl)) fun a F => ?_
        refine q_val F rfl rfl (by decide) (r_lensl F Tryz.underlying27 rfl) fun a F => ?_
        refine q_val F rfl rfl (by decide) (r_convi F Tryz.underlying53 (by kernel_rfl) rfl) fun a F => ?_
        have hw : IntKind.u64.wrap (l.length : Int) = (l.length : Int) := by
          unfold maxLen at hlm
          simp only [IntKind.wrap, IntKind.bits, IntKind.signed]; simp; omega
        rw [show ((⟨l, r.outer, 0⟩ : Rdr).left.length : Int) = (l.length : Int) from rfl, hw] at F
        refine q_val F rfl rfl (by decide) (r_gtr F rfl rfl) fun a F => ?_
        refine nil ?_
        refine hK8 _ _ ?_
        by_cases hg : (l.length : Int) < n
        · refine wp_cond_true ((F.ev rfl).trans (congrArg Value.bool (decide_eq_true hg))) ?_
          refine wp_seq_k fun K9 hK9 => ?_
          refine reg ?_
          refine q_val F rfl rfl (by decide) (r_move F rfl) fun a F => ?_
          refine q_val F rfl rfl (by decide) (r_nil F rfl) fun a F => ?_
          refine q_val F rfl rfl (by decide) (r_fieldAddr F rfl ff_147_2) fun a F => ?_
          refine q_eff0 F rfl rfl (e_store F rfl rfl sz_33 hat (by simp) rfl) ?_
          rintro w2 a ⟨E2, hat2, hz⟩ F
          refine nil ?_
          refine hK9 _ _ ?_
          refine wp_seq_k fun K10 hK10 => ?_
          refine reg ?_
          refine q_val F rfl rfl (by decide) (r_assign F rfl) fun a F => ?_
          refine nil ?_
          refine hK10 _ _ ?_
          refine wp_ret ?_
          repeat (first | refine thenR ?_ | refine inbR ?_)
          refine out1 F rfl rfl ?_
          refine ⟨c1, E.trans E2 (fun _ q => q), B.size hz, ?_⟩
          rw [show rsize r.left r.fault most = .inr (0, l, 10) from by unfold rsize; rw [hn]; simp [hm, hg]]
          exact ⟨⟨_, rfl, rfl⟩, RD.mk (t := ⟨l, r.outer, 10⟩) hat2 (hl.ev E2 n0 n0) (ho.ev E2 n0 n0)⟩
        · refine wp_cond_false ((F.ev rfl).trans (congrArg Value.bool (decide_eq_false hg))) ?_
          refine wp_skip ?_
          refine hK7 _ _ ?_
          refine wp_seq_k fun K9 hK9 => ?_
          refine reg ?_
          refine q_val F rfl rfl (by decide) (r_move F rfl) fun a F => ?_
          refine q_val F rfl rfl (by decide) (r_convi F Tryz.underlying3 (by kernel_rfl) rfl) fun a F => ?_
          refine q_val F rfl rfl (by decide) (r_assign F rfl) fun a F => ?_
          refine nil ?_
          refine hK9 _ _ ?_
          refine wp_ret ?_
          repeat (first | refine thenR ?_ | refine inbR ?_)
          refine out1 F rfl rfl ?_
          refine ⟨c1, E, B, ?_⟩
          rw [show rsize r.left r.fault most = .inr (IntKind.i64.wrap n, l, 0) from by unfold rsize; rw [hn]; simp [hm, hg]]
          exact ⟨⟨_, rfl, rfl⟩, RD.mk (t := ⟨l, r.outer, 0⟩) hat hl ho⟩
    · refine q_no F rfl (by decide) rfl (decide_eq_false hf) (by decide) fun a F => ?_
      refine q_no F rfl (by decide) rfl (decide_eq_false hf) (by decide) fun a F => ?_
      refine q_no F rfl (by decide) rfl (decide_eq_false hf) (by decide) fun a F => ?_
      refine q_val F rfl rfl (by decide) (r_pick_f F rfl (decide_eq_false hf) rfl) fun a F => ?_
      refine nil ?_
      refine hK4 _ _ ?_
      refine wp_cond_false (F.ev rfl) ?_
      refine wp_skip ?_
      refine hK3 _ _ ?_
      refine wp_seq_k fun K5 hK5 => ?_
      refine wp_seq_k fun K6 hK6 => ?_
      refine reg ?_
      refine q_val F rfl rfl (by decide) (r_move F rfl) fun a F => ?_
      refine q_val F rfl rfl (by decide) (r_nil F rfl) fun a F => ?_
      refine q_val F rfl rfl (by decide) (r_fieldAddr F rfl ff_147_2) fun a F => ?_
      refine q_val F rfl rfl (by decide) (r_load F rfl ag_33 (AT.cell hat rfl)) fun a F => ?_
      refine q_val F rfl rfl (by decide) (r_neq F rfl rfl) fun a F => ?_
      refine nil ?_
      refine hK6 _ _ ?_
      refine wp_cond_true ((F.ev rfl).trans (congrArg Value.bool (congrArg not (decide_eq_false hf)))) ?_
      refine wp_seq_k fun K7 hK7 => ?_
      refine reg ?_
      refine q_val F rfl rfl (by decide) (r_assign F rfl) fun a F => ?_
      refine nil ?_
      refine hK7 _ _ ?_
      refine wp_ret ?_
      repeat (first | refine thenR ?_ | refine inbR ?_)
      refine out1 F rfl rfl ?_
      refine ⟨c1, E, B, ?_⟩
      rw [show rsize r.left r.fault most = .inr (0, l, f) from by unfold rsize; rw [hn]; simp [hf]]
      exact ⟨⟨_, rfl, rfl⟩, RD.mk (t := ⟨l, r.outer, f⟩) hat hl ho⟩
end Go.Proofs.YthankpjbfpcldaaGreat.G
namespace Go.Proofs.YthankpjbfpcldaaGreat.G
open Go Go.RowKit
set_option linter.unusedVariables false
set_option linter.unusedSimpArgs false
set_option maxRecDepth 100000
set_option maxHeartbeats 40000000
theorem parcel_copied.calls {m : Nat} {c0 : Nat → Nat} {w0 : World} {A2 : Option Addr} {C3 : Nat} {a1 : List Int} (hm0 : 0 < m) (B0 : CB m c0 w0) (h4 : SL false (Kint .u8) 0 0 c0 w0 A2 C3 a1) (jr27 : Nat) (bjr27 : jr27 < m) (r : (List Int)) (H : parcel_copied.f a1 = some r) : Calls Tryz.prog 118 #[.slice A2 a1.length C3] w0 (fun e w_ => ∃ (c_ : Nat → Nat) (A0_ : Option Addr) (C0_ : Nat), e = .returned (.slice A0_ r.length C0_) ∧ Ev (fun x => False) c0 w0 c_ w_ ∧ CB m c_ w_ ∧ SL true (Kint .u8) jr27 0 c_ w_ A0_ C0_ r) := by
 unfold parcel_copied.f at H
 have B := B0.mono (show m ≤ m + 2 by omega)
 have E : Ev (fun x => False ∨ m ≤ x) c0 w0 c0 w0 := Ev.refl
 refine enter (N := 11) (l := [.slice A2 a1.length C3]) Tryz.func118 rfl rfl (nb rfl) fun a F => ?_
 refine wp_seq_k fun K5 hK5 => reg ?_
 refine qa F fun a F => ?_
 refine nil (hK5 _ _ ?_)
 refine wp_seq_k fun K6 hK6 => ?_
 refine wp_seq_k fun K7 hK7 => reg ?_
 refine qm F fun a F => ?_
 refine qv F (r_lensl F Tryz.underlying27 rfl) fun a F => ?_
 refine qv F (r_eql F rfl rfl) fun a F => ?_
 refine nil (hK7 _ _ ?_)
 by_cases hb8 : (a1.length : Int) = 0
 ·replace H := ip hb8 H
  refine wp_cond_true (fb F (dt hb8)) ?_
  refine wp_seq_k fun K9 hK9 => reg ?_
  refine qa F fun a F => ?_
  refine nil (hK9 _ _ ?_)
  refine wp_ret ?_
  refine thenR ?_
  replace H := si H
  subst H
  refine out1 F rfl rfl ?_
  exact ⟨cf (fun x_ => if x_ = m + 1 then jr27 else if x_ < m then x_ else 0) c0, none, 0, rfl, E.lv B0, cfb, SL.nil⟩
 replace H := im hb8 H
 refine wp_cond_false (fb F (dz hb8)) (wp_skip (hK6 _ _ ?_))
 refine wp_seq_k fun K10 hK10 => reg ?_
 refine qm F fun a F => ?_
 refine qv F (r_lensl F Tryz.underlying27 rfl) fun a F => ?_
 replace H := ifN H
 obtain ⟨g11, H⟩ := H
 refine q_eff F rfl rfl (by decide) (e_make (k := (Kint .u8)) (x0 := 0) F et_27 rfl rfl (fun _ _ _ => rfl) (by decide) g11 c0 (m + 1) 0) ?_
 rintro v w13 a ⟨c12, A14, C15, rfl, E16, h17, B18⟩ F
 replace B := B18 _ B lm
 replace h4 := h4.ev E16 nq nq
 replace E := E.trans E16 nx
 refine qm F fun a F => ?_
 replace H := ifN H
 obtain ⟨g19, H⟩ := H
 refine q_eff F rfl rfl (by decide) (e_append (k := (Kint .u8)) (xs := (List.replicate (0 : Int).toNat (0 : Int))) (ys := a1) (c := c12) (j := (m + 1)) (i := 0) F et_27 rfl rfl h17 h4 g19 (len_ok g19) ne_zm) ?_
 rintro v w21 a ⟨c20, A22, C23, rfl, E24, h25, B26⟩ F
 replace B := B26 _ B lm
 replace E := E.trans E24 lc1
 refine qa F fun a F => ?_
 refine nil (hK10 _ _ ?_)
 replace F : Fr a 11 [(2, .slice A22 ((List.replicate (0 : Int).toNat (0 : Int)) ++ a1).length C23)] := F.sub ⟨rfl, trivial⟩
 refine wp_ret ?_
 replace H := si H
 subst H
 refine out1 F rfl rfl ?_
 exact ⟨cf (fun x_ => if x_ = m + 1 then jr27 else if x_ < m then x_ else 0) c20, A22, C23, rfl, E.lv B0, cfb, SL.rc h25 cfk cfk⟩
end Go.Proofs.YthankpjbfpcldaaGreat.G
namespace Go.Proofs.YthankpjbfpcldaaGreat.G
open Go Go.RowKit
set_option linter.unusedVariables false
set_option linter.unusedSimpArgs false
theorem lag_rd : ∀ w, (isAgg 108).run Tryz.prog w = .ok false w := fun _ => by kernel_rfl
theorem lag_int : ∀ w, (isAgg 3).run Tryz.prog w = .ok false w := fun _ => by kernel_rfl
theorem lag_u64 : ∀ w, (isAgg 53).run Tryz.prog w = .ok false w := fun _ => by kernel_rfl
theorem lag_bytes : ∀ w, (isAgg 27).run Tryz.prog w = .ok false w := fun _ => by kernel_rfl
theorem lsz_u64 : ∀ w, (sizeOf 53).run Tryz.prog w = .ok 1 w := fun _ => by kernel_rfl
theorem lsz_bytes : ∀ w, (sizeOf 27).run Tryz.prog w = .ok 1 w := fun _ => by kernel_rfl
theorem lzv_u64 : ∀ w, (zeroValue 53).run Tryz.prog w = .ok (.int .u64 0) w := fun _ => by kernel_rfl
theorem lzv_bytes : ∀ w, (zeroValue 27).run Tryz.prog w = .ok (.slice none 0 0) w := fun _ => by kernel_rfl
theorem copied_eq {x : List Int} (h : x.length ≤ 140737488355328) : parcel_copied.f x = some x := by
  unfold parcel_copied.f
  by_cases c : x = []
  · subst c; rfl
  · have hp : x.length ≠ 0 := fun q => c (List.length_eq_zero_iff.1 q)
    rw [if_neg (by omega), if_pos (by omega), if_pos (by simp; omega)]
    simp
def retT (jr : Nat) (x : List Int) (c : Nat → Nat) (w : World) (v : Value) : Prop := ∃ A C, v = .slice A x.length C ∧ SL true (Kint .u8) jr 0 c w A C x
set_option maxHeartbeats 2000000 in
theorem text1_calls {m : Nat} {c0 : Nat → Nat} {w0 : World} {j jb jc : Nat} {p : Option Addr} {q1 q2 : Addr} {r : Rdr} {most : Int} (B0 : CB m c0 w0) (h : RD j c0 w0 p (some r)) (hj : 0 < j) (h1 : AT true jb c0 w0 q1 [.pointer p]) (h2 : AT true jc c0 w0 q2 [.int .i64 most])
    (hjb : jb ≠ j) (hjc : jc ≠ j) (jr : Nat) (hjr : jr < m) (hjr' : jr ≠ j) (x : (List Int × Int) ⊕ (List Int × List Int × Int)) (H : rtext r.left r.fault most = some x) :
    Calls Tryz.prog 116 #[.pointer (some q1), .pointer (some q2)] w0 (RX m j c0 w0 p r.outer x (retT jr)) := by
  refine enter (N := 13) (l := [.pointer (some q1), .pointer (some q2)]) Tryz.func116 rfl rfl (Nat.le_of_ble_eq_true rfl) fun a F => ?_
  have n0 : ¬ ((0 : Nat) = j) := by omega
  refine wp_seq_k fun K1 hK1 => ?_
  refine reg ?_
  refine q_val F rfl rfl (by decide) (r_assign F rfl) fun a F => ?_
  refine nil ?_
  refine hK1 _ _ ?_
  refine wp_seq_k fun K2 hK2 => ?_
  refine preg ?_
  refine p_val F rfl rfl (by decide) (r_load F rfl lag_rd (AT.cell0 h1 rfl)) fun a F => ?_
  refine p_val F rfl rfl (by decide) (r_load F rfl lag_int (AT.cell0 h2 rfl)) fun a F => ?_
  refine p_val F rfl rfl (by decide) (r_max F rfl rfl) fun a F => ?_
  refine p_val F rfl rfl (by decide) (r_convi F Tryz.underlying53 (by kernel_rfl) rfl) fun a F => ?_
  refine p_call F rfl rfl (by decide) (r_call (vs := [.pointer p, .int .u64 (IntKind.u64.wrap (max most 0))]) F Tryz.func117 rfl rfl rfl) (size_calls B0 h hj) ?_
  rintro e w1 ⟨c1, E1, B1, hx⟩
  unfold rtext at H
  generalize rsize r.left r.fault (IntKind.u64.wrap (max most 0)) = res at hx H
  match res with
  | .inl (l, f) =>
    right
    obtain ⟨⟨t, u, rfl⟩, hR1⟩ := hx
    have H := Option.some.inj H
    subst H
    refine ⟨_, rfl, fun a F => ?_⟩
    repeat (first | refine thenP ?_ | refine inbP ?_)
    refine outP (F.sub (L' := []) trivial) ?_
    exact ⟨c1, E1, B1, ⟨t, u, rfl⟩, hR1⟩
  | .inr (n, l, f) =>
    left
    obtain ⟨⟨v, rfl, hv⟩, hR1⟩ := hx
    have hv : v = .int .i64 n := hv
    subst hv
    obtain ⟨⟨g0, g1, g2⟩, H⟩ := ifN H
    have H := Option.some.inj H
    subst H
    refine ⟨_, rfl, fun a F => ?_⟩
    refine p_val F rfl rfl (by decide) (r_assign F rfl) fun a F => ?_
    refine pnil ?_
    refine hK2 _ _ ?_
    refine wp_seq_k fun K3 hK3 => ?_
    refine preg ?_
    refine p_val F rfl rfl (by decide) (r_load F rfl lag_rd (AT.cell0 (h1.ev E1 hjb) rfl)) fun a F => ?_
    refine p_val F rfl rfl (by decide) (r_move F rfl) fun a F => ?_
    refine p_call F rfl rfl (by decide) (r_call (vs := [.pointer p, .int .i64 n]) F Tryz.func119 rfl rfl rfl) (next_calls B1 hR1 hj) ?_
    rintro e w2 ⟨c2, E2, B2, hx⟩
    have e0 : rnext l f n = .inr (l.take n.toNat, l.drop n.toNat, f) := by unfold rnext; rw [if_pos ⟨g0, g1⟩]
    rw [show (⟨l, r.outer, f⟩ : Rdr).left = l from rfl, show (⟨l, r.outer, f⟩ : Rdr).fault = f from rfl, e0] at hx
    obtain ⟨⟨v, rfl, A3, C3, rfl, hs⟩, hR2⟩ := hx
    left
    refine ⟨_, rfl, fun a F => ?_⟩
    have hlen : (l.take n.toNat).length ≤ 140737488355328 := by rw [List.length_take]; omega
    refine p_call F rfl rfl (by decide) (r_call (vs := [.slice A3 (l.take n.toNat).length C3]) F Tryz.func118 rfl rfl rfl) (parcel_copied.calls (Nat.lt_of_le_of_lt (Nat.zero_le _) hjr) B2 hs jr hjr _ (copied_eq hlen)) ?_
    rintro e w3 ⟨c3, A4, C4, rfl, E3, B3, hs3⟩
    left
    refine ⟨_, rfl, fun a F => ?_⟩
    refine p_val F rfl rfl (by decide) (r_assign F rfl) fun a F => ?_
    refine pnil ?_
    refine hK3 _ _ ?_
    refine wp_ret ?_
    repeat (first | refine thenR ?_ | refine inbR ?_)
    refine out1 F rfl rfl ?_
    have E3' : Ev (fun x => x = j) c2 w2 c3 w3 := E3.mono (fun _ q => q.elim)
    exact ⟨c3, (E1.trans E2 (fun _ q => q)).trans E3' (fun _ q => q), B3, ⟨_, rfl, A4, C4, rfl, hs3⟩, hR2.ev E3 (fun q => q) (fun q => q)⟩
section
variable {P : Program} {ops : Array Oper} {Q : Exit → Act → List Frame → World → Prop} {a : Act} {N : Nat} {L : List (Nat × Value)} {D : List Deferred} {w w' : World} {v : Value} {rest : List Nat} {o : Oper} {d : Nat} {cs cs' : List Frame} {i : Nat}
theorem enterS {f : FuncId} {fn : Func} {c : Code} {l : List Value} {u : FrameMode} {R : Ending → FrameMode → World → Prop} (hf : P.funcs[f]? = some fn) (hb : fn.body = some c) (hn : fn.ntmps = N) (hl : l.length ≤ N)
    (h : ∀ c₀ cs, c₀.mode = u → ∀ a, Fr a N (enum 0 l) → c.wpS P (bodyPostS P fn c₀ cs R) a (c₀ :: cs) w) : CallsD P f l.toArray u w R := by
  refine callsD_of_wpS hf hb fun c₀ cs hu => ?_
  refine h c₀ cs hu _ ?_
  rw [show l.toArray.size = l.length by simp, hn]
  exact Fr.enter l (N - l.length) (by omega)
theorem enterD {f : FuncId} {fn : Func} {c : Code} {l : List Value} {R : Ending → World → Prop} (hf : P.funcs[f]? = some fn) (hb : fn.body = some c) (hn : fn.ntmps = N) (hl : l.length ≤ N)
    (h : ∀ a, Fr a N (enum 0 l) → c.wp P (bodyPostD P fn R) a w) : Calls P f l.toArray w R := by
  refine calls_of_wp_defers hf hb ?_
  refine h _ ?_
  rw [show l.toArray.size = l.length by simp, hn]
  exact Fr.enter l (N - l.length) (by omega)
theorem s_rec_yes (F : Fr a N L D) (ho : ops[i]? = some o) (hg : o.guard = none) (hd : o.dst = some d) (hN : d < N) (hr : (execOp a.eval o).run P w = .ok .recover w) (hrec : recoverD cs = some (v, cs'))
    (k : ∀ a', Fr a' N ((d, v) :: L) D → wpOpsS P ops Q rest a' cs' w) : wpOpsS P ops Q (i :: rest) a cs w := by
  unfold wpOpsS
  simp only [ho]
  rw [if_pos (by simp [Region.wanted, hg]), hr]
  simp only [hrec]
  rw [hd]; exact k _ (F.put v hN)
theorem s_rec_no (F : Fr a N L D) (ho : ops[i]? = some o) (hg : o.guard = none) (hd : o.dst = some d) (hN : d < N) (hr : (execOp a.eval o).run P w = .ok .recover w) (hrec : recoverD cs = none)
    (k : ∀ a', Fr a' N ((d, .nilIface) :: L) D → wpOpsS P ops Q rest a' cs w) : wpOpsS P ops Q (i :: rest) a cs w := by
  unfold wpOpsS
  simp only [ho]
  rw [if_pos (by simp [Region.wanted, hg]), hr]
  simp only [hrec]
  rw [hd]; exact k _ (F.put .nilIface hN)
theorem s_val (F : Fr a N L D) (ho : ops[i]? = some o) (hg : o.guard = none) (hd : o.dst = some d) (hN : d < N) (hr : (execOp a.eval o).run P w = .ok (.value v) w')
    (k : ∀ a', Fr a' N ((d, v) :: L) D → wpOpsS P ops Q rest a' cs w') : wpOpsS P ops Q (i :: rest) a cs w := by
  unfold wpOpsS
  simp only [ho]
  rw [if_pos (by simp [Region.wanted, hg]), hr]
  show wpOpsS P ops Q rest (a.put o.dst v) cs w'
  rw [hd]; exact k _ (F.put v hN)
end
section
variable {P : Program} {a : Act} {N : Nat} {L : List (Nat × Value)} {D : List Deferred} {w w' : World} {v : Value} {x y : Operand} {d : Option Tmp} {t ty : TypeId} {pos : String} {af : Array Edge} {gd : Option (Nat × Bool)}
theorem r_recover (a : Act) {ats : Array TypeId} : (execOp a.eval { dst := d, op := .call { callee := .builtin .recover, args := #[], argTypes := ats }, type := ty, pos := pos, after := af, guard := gd }).run P w = .ok .recover w := by
  simp [execOp, resolve, invoke, builtin]
theorem r_ifneq_t (F : Fr a N L D) {t1 yt : TypeId} {u : Value} (hu : P.underlying t = some (.interface (P.methodsAt t))) (hx : ev L x = some (.iface t1 u)) : (execOp a.eval { dst := d, op := .binOp .neq t x (.const .nilIface) yt, type := ty, pos := pos, after := af, guard := gd }).run P w = .ok (.value (.bool true)) w := by
  have h := run_equal_held_nil (P := P) w t t1 u hu
  have e : a.eval (.const .nilIface) = .nilIface := rfl
  simp [execOp, F.ev hx, e, binOp, eqGuard, h]
theorem r_ifneq_f (F : Fr a N L D) {yt : TypeId} (hu : P.underlying t = some (.interface (P.methodsAt t))) (hx : ev L x = some .nilIface) : (execOp a.eval { dst := d, op := .binOp .neq t x (.const .nilIface) yt, type := ty, pos := pos, after := af, guard := gd }).run P w = .ok (.value (.bool false)) w := by
  have h := run_equal_nil_nil (P := P) w t hu
  have e : a.eval (.const .nilIface) = .nilIface := rfl
  simp [execOp, F.ev hx, e, binOp, eqGuard, h]
theorem r_callv (F : Fr a N L D) {f : FuncId} {fn : Func} {fst cp : Array Value} {ats : Array TypeId} (hf : P.funcs[f]? = some fn) (hb : fn.body.isNone = false) (hn : (fn.name == "runtime.NumGoroutine") = false) (hx : ev L x = some (.func (.func f) fst cp)) :
    (execOp a.eval { dst := d, op := .call { callee := .value x, args := #[], argTypes := ats }, type := ty, pos := pos, after := af, guard := gd }).run P w = .ok (.enter f (fst ++ cp)) w := by
  have hn' : ¬ fn.name = "runtime.NumGoroutine" := by simpa using hn
  have hb' : ¬ fn.body = none := by intro q; rw [q] at hb; cases hb
  simp [execOp, resolve, Deferred.ofValue, F.ev hx, invoke, callFunc, hf, hb', hn']
theorem r_defer (F : Fr a N L D) {f : FuncId} {fst cp : Array Value} {ats : Array TypeId} (hx : ev L x = some (.func (.func f) fst cp)) :
    (execOp a.eval { dst := d, op := .defer { callee := .value x, args := #[], argTypes := ats }, type := ty, pos := pos, after := af, guard := gd }).run P w = .ok (.defer { target := .fn (.func f) cp, args := fst }) w := by
  simp [execOp, resolve, Deferred.ofValue, F.ev hx]
theorem p_defer {ops : Array Oper} {Q : Exit → Act → World → Prop} {rest : List Oper} {o : Oper} {df : Deferred} (F : Fr a N L D) (hg : o.guard = none) (hd : o.dst = none) (hr : (execOp a.eval o).run P w = .ok (.defer df) w)
    (k : ∀ a', Fr a' N L (df :: D) → wpList P ops Q rest a' w) : wpList P ops Q (o :: rest) a w :=
  p_upon hg hr (by
    show wpList P ops Q rest ({ a with defers := df :: a.defers }.put o.dst undef) w
    rw [hd]; exact k _ ⟨by show df :: a.defers = df :: D; rw [F.dfr], F.size, F.get⟩)
theorem resR1 {fn : Func} {r1 : ResultVar} {v1 : Value} (F : Fr a N L D) (hr : fn.results = #[r1]) (h1 : RV P L w r1 v1) : (results fn a.tmps).run P w = .ok v1 w := by
  have e1 := h1.run F
  show Sem.run P (results fn a.tmps) w = _
  unfold results; rw [hr]
  change Sem.run P ((do let vs ← #[r1].mapM (rvS a.tmps); pure (if h : vs.size = 1 then vs[0] else .tuple vs)) : Sem Value) w = _
  simp [e1]
theorem leaves1 {fn : Func} {r1 : ResultVar} {v1 : Value} {R : Ending → World → Prop} (F : Fr a N L D) (hr : fn.results = #[r1]) (h1 : RV P L w r1 v1) (h : R (.returned v1) w) : Leaves P fn a.tmps R [] .returning w := ⟨v1, resR1 F hr h1, h⟩
theorem invoke_fn {f : FuncId} {fn : Func} {cp args : Array Value} (hf : P.funcs[f]? = some fn) (hb : fn.body.isNone = false) (hn : (fn.name == "runtime.NumGoroutine") = false) : (invoke (.fn (.func f) cp) args).run P w = .ok (.enter f (args ++ cp)) w := by
  have hn' : ¬ fn.name = "runtime.NumGoroutine" := by simpa using hn
  have hb' : ¬ fn.body = none := by intro q; rw [q] at hb; cases hb
  simp [invoke, callFunc, hf, hb', hn']
end
def Rcv (j jv : Nat) (c : Nat → Nat) (w : World) (p : Option Addr) (qv : Addr) (rd : Rdr) (x : Value) (w' : World) : Prop :=
  Ev (fun x => x = j ∨ x = jv) c w c w' ∧ w'.heap.size = w.heap.size ∧ RD j c w' p (some rd) ∧ AT true jv c w' qv [x]
set_option maxHeartbeats 2000000 in
theorem catchP_u64 {c : Nat → Nat} {w : World} {j jb jz jv : Nat} {ad q1 qz qv : Addr} {r : Rdr} {z v0 : Value} (hj : 0 < j) (h : RD j c w (some ad) (some r)) (h1 : AT true jb c w q1 [.pointer (some ad)]) (hz : AT true jz c w qz [z]) (hv : AT true jv c w qv [v0])
    (n1 : jb ≠ j) (n2 : jz ≠ j) (n3 : jv ≠ j) (n4 : 0 < jv) (hone : z.oneCell' = true) (t : TypeId) (u : Value) (older : List PanicEntry) :
    CallsD Tryz.prog 165 #[.pointer (some q1), .pointer (some qz), .pointer (some qv)] (.panicking ({ v := .iface t u, recovered := false } :: older)) w fun e u' w' =>
      e = .returned (.tuple #[]) ∧ u' = .panicking ({ v := .iface t u, recovered := true } :: older) ∧ Rcv j jv c w (some ad) qv ⟨r.left, r.outer, 10⟩ z w' := by
  refine enterS (N := 16) (l := [.pointer (some q1), .pointer (some qz), .pointer (some qv)]) Tryz.func165 rfl rfl (Nat.le_of_ble_eq_true rfl) fun c₀ cs hu a F => ?_
  refine wpS_seq ?_
  refine wpS_seq ?_
  refine wpS_region ?_
  refine s_rec_yes F rfl rfl rfl (by decide) (r_recover a) (v := .iface t u) (cs' := { c₀ with mode := .panicking ({ v := .iface t u, recovered := true } :: older) } :: cs) (by simp [recoverD, hu]) fun a F => ?_
  refine s_val F rfl rfl rfl (by decide) (r_assign F rfl) fun a F => ?_
  show Code.wpS _ _ _ _ _ _
  refine wpS_of_wp ?_
  obtain ⟨ad', A1, C1, A2, C2, e0, hat, hl, ho⟩ := RD.some h
  cases e0
  have m0 : ¬ ((0 : Nat) = j) := by omega
  refine wp_seq_k fun K2 hK2 => ?_
  refine reg ?_
  refine q_val F rfl rfl (by decide) (r_move F rfl) fun a F => ?_
  refine q_val F rfl rfl (by decide) (r_ifneq_t F (by kernel_rfl) rfl) fun a F => ?_
  refine nil ?_
  refine hK2 _ _ ?_
  refine wp_cond_true (F.ev rfl) ?_
  refine reg ?_
  refine q_val F rfl rfl (by decide) (r_load F rfl lag_rd (AT.cell0 h1 rfl)) fun a F => ?_
  refine q_val F rfl rfl (by decide) (r_nil F rfl) fun a F => ?_
  refine q_val F rfl rfl (by decide) (r_fieldAddr F rfl ff_147_2) fun a F => ?_
  refine q_eff0 F rfl rfl (e_store F rfl rfl sz_33 hat (by simp) rfl) ?_
  rintro w2 a ⟨E2, hat2, hz2⟩ F
  refine nil ?_
  show Code.wpS _ _ _ _ _ _
  refine wpS_of_wp ?_
  refine wp_seq_k fun K3 hK3 => ?_
  refine reg ?_
  refine q_val F rfl rfl (by decide) (r_load F rfl lag_rd (AT.cell0 (h1.ev E2 n1) rfl)) fun a F => ?_
  refine q_val F rfl rfl (by decide) (r_nil F rfl) fun a F => ?_
  refine q_val F rfl rfl (by decide) (r_fieldAddr F rfl ff_147_2) fun a F => ?_
  refine q_val F rfl rfl (by decide) (r_load F rfl ag_33 (AT.cell hat2 rfl)) fun a F => ?_
  refine q_val F rfl rfl (by decide) (r_neq F rfl rfl) fun a F => ?_
  refine nil ?_
  refine hK3 _ _ ?_
  refine wp_cond_true (F.ev rfl) ?_
  refine reg ?_
  refine q_val F rfl rfl (by decide) (r_load F rfl lag_u64 (AT.cell0 (hz.ev E2 n2) rfl)) fun a F => ?_
  refine q_eff0 F rfl rfl (e_store0 F rfl rfl lsz_u64 (hv.ev E2 n3) (by simp) hone) ?_
  rintro w3 a ⟨E3, hat3, hz3⟩ F
  refine nil ?_
  have n5 : ¬ (j = jv) := fun q => n3 q.symm
  have m1 : ¬ ((0 : Nat) = jv) := by omega
  refine ⟨F.dfr, _, rfl, .tuple #[], results_none rfl _ _ _, rfl, rfl, ?_⟩
  exact ⟨(E2.mono (fun _ q => Or.inl q)).trans (E3.mono (M' := fun x => x = j ∨ x = jv) (fun _ q => Or.inr q)) (fun _ q => q), by rw [hz3, hz2], RD.mk (t := ⟨r.left, r.outer, 10⟩) (hat2.ev E3 n5) ((hl.ev E2 m0 m0).ev E3 m1 m1) ((ho.ev E2 m0 m0).ev E3 m1 m1), hat3⟩
set_option maxHeartbeats 2000000 in
theorem catchR_u64 {c : Nat → Nat} {w : World} {j jb jz jv : Nat} {ad q1 qz qv : Addr} {r : Rdr} {z v0 : Value} (hj : 0 < j) (h : RD j c w (some ad) (some r)) (h1 : AT true jb c w q1 [.pointer (some ad)]) (hz : AT true jz c w qz [z]) (hv : AT true jv c w qv [v0])
    (n1 : jb ≠ j) (n2 : jz ≠ j) (n3 : jv ≠ j) (n4 : 0 < jv) (hone : z.oneCell' = true) :
    CallsD Tryz.prog 165 #[.pointer (some q1), .pointer (some qz), .pointer (some qv)] .returning w fun e u' w' =>
      e = .returned (.tuple #[]) ∧ u' = .returning ∧ Rcv j jv c w (some ad) qv r (if r.fault = 0 then v0 else z) w' := by
  refine enterS (N := 16) (l := [.pointer (some q1), .pointer (some qz), .pointer (some qv)]) Tryz.func165 rfl rfl (Nat.le_of_ble_eq_true rfl) fun c₀ cs hu a F => ?_
  refine wpS_seq ?_
  refine wpS_seq ?_
  refine wpS_region ?_
  refine s_rec_no F rfl rfl rfl (by decide) (r_recover a) (by simp [recoverD, hu]) fun a F => ?_
  refine s_val F rfl rfl rfl (by decide) (r_assign F rfl) fun a F => ?_
  show Code.wpS _ _ _ _ _ _
  refine wpS_of_wp ?_
  obtain ⟨ad', A1, C1, A2, C2, e0, hat, hl, ho⟩ := RD.some h
  cases e0
  have m1 : ¬ ((0 : Nat) = jv) := by omega
  have n5 : ¬ (j = jv) := fun q => n3 q.symm
  have hc0 : ({ c₀ with mode := .returning } : Frame) = c₀ := by cases c₀; simp_all
  refine wp_seq_k fun K2 hK2 => ?_
  refine reg ?_
  refine q_val F rfl rfl (by decide) (r_move F rfl) fun a F => ?_
  refine q_val F rfl rfl (by decide) (r_ifneq_f F (by kernel_rfl) rfl) fun a F => ?_
  refine nil ?_
  refine hK2 _ _ ?_
  refine wp_cond_false (F.ev rfl) ?_
  refine wp_skip ?_
  show Code.wpS _ _ _ _ _ _
  refine wpS_of_wp ?_
  refine wp_seq_k fun K3 hK3 => ?_
  refine reg ?_
  refine q_val F rfl rfl (by decide) (r_load F rfl lag_rd (AT.cell0 h1 rfl)) fun a F => ?_
  refine q_val F rfl rfl (by decide) (r_nil F rfl) fun a F => ?_
  refine q_val F rfl rfl (by decide) (r_fieldAddr F rfl ff_147_2) fun a F => ?_
  refine q_val F rfl rfl (by decide) (r_load F rfl ag_33 (AT.cell hat rfl)) fun a F => ?_
  refine q_val F rfl rfl (by decide) (r_neq F rfl rfl) fun a F => ?_
  refine nil ?_
  refine hK3 _ _ ?_
  by_cases hf : r.fault = 0
  · refine wp_cond_false ((F.ev rfl).trans (congrArg Value.bool (congrArg not (decide_eq_true hf)))) ?_
    refine wp_skip ?_
    refine ⟨F.dfr, .returning, by rw [hc0], .tuple #[], results_none rfl _ _ _, rfl, rfl, ?_⟩
    rw [if_pos hf]
    exact ⟨Ev.refl, rfl, h, hv⟩
  · refine wp_cond_true ((F.ev rfl).trans (congrArg Value.bool (congrArg not (decide_eq_false hf)))) ?_
    refine reg ?_
    refine q_val F rfl rfl (by decide) (r_load F rfl lag_u64 (AT.cell0 hz rfl)) fun a F => ?_
    refine q_eff0 F rfl rfl (e_store0 F rfl rfl lsz_u64 hv (by simp) hone) ?_
    rintro w3 a ⟨E3, hat3, hz3⟩ F
    refine nil ?_
    refine ⟨F.dfr, .returning, by rw [hc0], .tuple #[], results_none rfl _ _ _, rfl, rfl, ?_⟩
    rw [if_neg hf]
    exact ⟨E3.mono (fun _ q => Or.inr q), hz3, h.ev E3 n5 m1, hat3⟩
set_option maxHeartbeats 2000000 in
theorem catchP_bytes {c : Nat → Nat} {w : World} {j jb jz jv : Nat} {ad q1 qz qv : Addr} {r : Rdr} {z v0 : Value} (hj : 0 < j) (h : RD j c w (some ad) (some r)) (h1 : AT true jb c w q1 [.pointer (some ad)]) (hz : AT true jz c w qz [z]) (hv : AT true jv c w qv [v0])
    (n1 : jb ≠ j) (n2 : jz ≠ j) (n3 : jv ≠ j) (n4 : 0 < jv) (hone : z.oneCell' = true) (t : TypeId) (u : Value) (older : List PanicEntry) :
    CallsD Tryz.prog 164 #[.pointer (some q1), .pointer (some qz), .pointer (some qv)] (.panicking ({ v := .iface t u, recovered := false } :: older)) w fun e u' w' =>
      e = .returned (.tuple #[]) ∧ u' = .panicking ({ v := .iface t u, recovered := true } :: older) ∧ Rcv j jv c w (some ad) qv ⟨r.left, r.outer, 10⟩ z w' := by
  refine enterS (N := 16) (l := [.pointer (some q1), .pointer (some qz), .pointer (some qv)]) Tryz.func164 rfl rfl (Nat.le_of_ble_eq_true rfl) fun c₀ cs hu a F => ?_
  refine wpS_seq ?_
  refine wpS_seq ?_
  refine wpS_region ?_
  refine s_rec_yes F rfl rfl rfl (by decide) (r_recover a) (v := .iface t u) (cs' := { c₀ with mode := .panicking ({ v := .iface t u, recovered := true } :: older) } :: cs) (by simp [recoverD, hu]) fun a F => ?_
  refine s_val F rfl rfl rfl (by decide) (r_assign F rfl) fun a F => ?_
  show Code.wpS _ _ _ _ _ _
  refine wpS_of_wp ?_
  obtain ⟨ad', A1, C1, A2, C2, e0, hat, hl, ho⟩ := RD.some h
  cases e0
  have m0 : ¬ ((0 : Nat) = j) := by omega
  refine wp_seq_k fun K2 hK2 => ?_
  refine reg ?_
  refine q_val F rfl rfl (by decide) (r_move F rfl) fun a F => ?_
  refine q_val F rfl rfl (by decide) (r_ifneq_t F (by kernel_rfl) rfl) fun a F => ?_
  refine nil ?_
  refine hK2 _ _ ?_
  refine wp_cond_true (F.ev rfl) ?_
  refine reg ?_
  refine q_val F rfl rfl (by decide) (r_load F rfl lag_rd (AT.cell0 h1 rfl)) fun a F => ?_
  refine q_val F rfl rfl (by decide) (r_nil F rfl) fun a F => ?_
  refine q_val F rfl rfl (by decide) (r_fieldAddr F rfl ff_147_2) fun a F => ?_
  refine q_eff0 F rfl rfl (e_store F rfl rfl sz_33 hat (by simp) rfl) ?_
  rintro w2 a ⟨E2, hat2, hz2⟩ F
  refine nil ?_
  show Code.wpS _ _ _ _ _ _
  refine wpS_of_wp ?_
  refine wp_seq_k fun K3 hK3 => ?_
  refine reg ?_
  refine q_val F rfl rfl (by decide) (r_load F rfl lag_rd (AT.cell0 (h1.ev E2 n1) rfl)) fun a F => ?_
  refine q_val F rfl rfl (by decide) (r_nil F rfl) fun a F => ?_
  refine q_val F rfl rfl (by decide) (r_fieldAddr F rfl ff_147_2) fun a F => ?_
  refine q_val F rfl rfl (by decide) (r_load F rfl ag_33 (AT.cell hat2 rfl)) fun a F => ?_
  refine q_val F rfl rfl (by decide) (r_neq F rfl rfl) fun a F => ?_
  refine nil ?_
  refine hK3 _ _ ?_
  refine wp_cond_true (F.ev rfl) ?_
  refine reg ?_
  refine q_val F rfl rfl (by decide) (r_load F rfl lag_bytes (AT.cell0 (hz.ev E2 n2) rfl)) fun a F => ?_
  refine q_eff0 F rfl rfl (e_store0 F rfl rfl lsz_bytes (hv.ev E2 n3) (by simp) hone) ?_
  rintro w3 a ⟨E3, hat3, hz3⟩ F
  refine nil ?_
  have n5 : ¬ (j = jv) := fun q => n3 q.symm
  have m1 : ¬ ((0 : Nat) = jv) := by omega
  refine ⟨F.dfr, _, rfl, .tuple #[], results_none rfl _ _ _, rfl, rfl, ?_⟩
  exact ⟨(E2.mono (fun _ q => Or.inl q)).trans (E3.mono (M' := fun x => x = j ∨ x = jv) (fun _ q => Or.inr q)) (fun _ q => q), by rw [hz3, hz2], RD.mk (t := ⟨r.left, r.outer, 10⟩) (hat2.ev E3 n5) ((hl.ev E2 m0 m0).ev E3 m1 m1) ((ho.ev E2 m0 m0).ev E3 m1 m1), hat3⟩
set_option maxHeartbeats 2000000 in
theorem catchR_bytes {c : Nat → Nat} {w : World} {j jb jz jv : Nat} {ad q1 qz qv : Addr} {r : Rdr} {z v0 : Value} (hj : 0 < j) (h : RD j c w (some ad) (some r)) (h1 : AT true jb c w q1 [.pointer (some ad)]) (hz : AT true jz c w qz [z]) (hv : AT true jv c w qv [v0])
    (n1 : jb ≠ j) (n2 : jz ≠ j) (n3 : jv ≠ j) (n4 : 0 < jv) (hone : z.oneCell' = true) :
    CallsD Tryz.prog 164 #[.pointer (some q1), .pointer (some qz), .pointer (some qv)] .returning w fun e u' w' =>
      e = .returned (.tuple #[]) ∧ u' = .returning ∧ Rcv j jv c w (some ad) qv r (if r.fault = 0 then v0 else z) w' := by
  refine enterS (N := 16) (l := [.pointer (some q1), .pointer (some qz), .pointer (some qv)]) Tryz.func164 rfl rfl (Nat.le_of_ble_eq_true rfl) fun c₀ cs hu a F => ?_
  refine wpS_seq ?_
  refine wpS_seq ?_
  refine wpS_region ?_
  refine s_rec_no F rfl rfl rfl (by decide) (r_recover a) (by simp [recoverD, hu]) fun a F => ?_
  refine s_val F rfl rfl rfl (by decide) (r_assign F rfl) fun a F => ?_
  show Code.wpS _ _ _ _ _ _
  refine wpS_of_wp ?_
  obtain ⟨ad', A1, C1, A2, C2, e0, hat, hl, ho⟩ := RD.some h
  cases e0
  have m1 : ¬ ((0 : Nat) = jv) := by omega
  have n5 : ¬ (j = jv) := fun q => n3 q.symm
  have hc0 : ({ c₀ with mode := .returning } : Frame) = c₀ := by cases c₀; simp_all
  refine wp_seq_k fun K2 hK2 => ?_
  refine reg ?_
  refine q_val F rfl rfl (by decide) (r_move F rfl) fun a F => ?_
  refine q_val F rfl rfl (by decide) (r_ifneq_f F (by kernel_rfl) rfl) fun a F => ?_
  refine nil ?_
  refine hK2 _ _ ?_
  refine wp_cond_false (F.ev rfl) ?_
  refine wp_skip ?_
  show Code.wpS _ _ _ _ _ _
  refine wpS_of_wp ?_
  refine wp_seq_k fun K3 hK3 => ?_
  refine reg ?_
  refine q_val F rfl rfl (by decide) (r_load F rfl lag_rd (AT.cell0 h1 rfl)) fun a F => ?_
  refine q_val F rfl rfl (by decide) (r_nil F rfl) fun a F => ?_
  refine q_val F rfl rfl (by decide) (r_fieldAddr F rfl ff_147_2) fun a F => ?_
  refine q_val F rfl rfl (by decide) (r_load F rfl ag_33 (AT.cell hat rfl)) fun a F => ?_
  refine q_val F rfl rfl (by decide) (r_neq F rfl rfl) fun a F => ?_
  refine nil ?_
  refine hK3 _ _ ?_
  by_cases hf : r.fault = 0
  · refine wp_cond_false ((F.ev rfl).trans (congrArg Value.bool (congrArg not (decide_eq_true hf)))) ?_
    refine wp_skip ?_
    refine ⟨F.dfr, .returning, by rw [hc0], .tuple #[], results_none rfl _ _ _, rfl, rfl, ?_⟩
    rw [if_pos hf]
    exact ⟨Ev.refl, rfl, h, hv⟩
  · refine wp_cond_true ((F.ev rfl).trans (congrArg Value.bool (congrArg not (decide_eq_false hf)))) ?_
    refine reg ?_
    refine q_val F rfl rfl (by decide) (r_load F rfl lag_bytes (AT.cell0 hz rfl)) fun a F => ?_
    refine q_eff0 F rfl rfl (e_store0 F rfl rfl lsz_bytes hv (by simp) hone) ?_
    rintro w3 a ⟨E3, hat3, hz3⟩ F
    refine nil ?_
    refine ⟨F.dfr, .returning, by rw [hc0], .tuple #[], results_none rfl _ _ _, rfl, rfl, ?_⟩
    rw [if_neg hf]
    exact ⟨E3.mono (fun _ q => Or.inr q), hz3, h.ev E3 n5 m1, hat3⟩
def takeF {α : Type} (z : α) (a1 : Option Rdr) (X : Rdr → (List Int × Int) ⊕ (α × List Int × Int)) : α × Option Rdr := match a1 with
  | none => (z, none)
  | some r => if r.fault = 0 then rtake z r (X r) else (z, some r)
set_option maxRecDepth 100000 in
set_option maxHeartbeats 4000000 in
theorem take_calls_u64 {m : Nat} {c0 : Nat → Nat} {w0 : World} {j : Nat} {p : Option Addr} {a1 : Option Rdr} {f : FuncId} {fn : Func} {fst cp : Array Value} {X : Rdr → (List Int × Int) ⊕ (Int × List Int × Int)} (B0 : CB m c0 w0) (h : RD j c0 w0 p a1) (hj : 0 < j ∧ j < m)
    (hf : Tryz.prog.funcs[f]? = some fn) (hfb : fn.body.isNone = false) (hfn : (fn.name == "runtime.NumGoroutine") = false)
    (hcl : ∀ r, a1 = some r → r.fault = 0 → ∀ c1 w1, Ev No c0 w0 c1 w1 → CB (m + 3) c1 w1 → RD j c1 w1 p (some r) → Calls Tryz.prog f (fst ++ cp) w1 (RX (m + 4) j c1 w1 p r.outer (X r) (retI .u64))) :
    Calls Tryz.prog 120 #[.pointer p, .func (.func f) fst cp] w0 (fun e w_ => ∃ c_, Ev (fun x => x = j) c0 w0 c_ w_ ∧ CB (m + 4) c_ w_ ∧ (∃ v, e = .returned v ∧ (retI .u64) (takeF 0 a1 X).1 c_ w_ v) ∧ RD j c_ w_ p (takeF 0 a1 X).2) := by
  refine enterD (N := 19) (l := [.pointer p, .func (.func f) fst cp]) Tryz.func120 rfl rfl (Nat.le_of_ble_eq_true rfl) fun a F => ?_
  refine wp_seq_k fun K1 hK1 => ?_
  refine reg ?_
  refine q_eff F rfl rfl (by decide) (e_box F rfl c0 m) ?_
  rintro v w1 a ⟨c1, qb, rfl, E1, hb1, M1⟩ F
  have hb1 : AT true m c1 w1 qb [.pointer p] := hb1
  have B1 : CB (m + 4) c1 w1 := M1 _ (B0.mono (by omega)) (by omega)
  refine q_eff F rfl rfl (by decide) (e_alloc F lzv_u64 c1 (m + 1)) ?_
  rintro v w2 a ⟨c2, qv, rfl, E2, hv2, M2⟩ F
  have hv2 : AT true (m + 1) c2 w2 qv [.int .u64 0] := hv2
  have B2 : CB (m + 4) c2 w2 := M2 _ B1 (by omega)
  refine nil ?_
  refine hK1 _ _ ?_
  refine wp_seq_k fun K2 hK2 => ?_
  refine reg ?_
  refine q_eff F rfl rfl (by decide) (e_alloc F lzv_u64 c2 (m + 2)) ?_
  rintro v w3 a ⟨c3, qz, rfl, E3, hz3, M3⟩ F
  have hz3 : AT true (m + 2) c3 w3 qz [.int .u64 0] := hz3
  have B3 : CB (m + 3) c3 w3 := M3 _ (M2 _ (M1 _ (B0.mono (by omega)) (by omega)) (by omega)) (by omega)
  have no : ∀ x, ¬ No x := fun x q => q
  have hb3 : AT true m c3 w3 qb [.pointer p] := (hb1.ev E2 (no _)).ev E3 (no _)
  have hv3 : AT true (m + 1) c3 w3 qv [.int .u64 0] := hv2.ev E3 (no _)
  have E : Ev No c0 w0 c3 w3 := (E1.trans E2 (fun _ q => q)).trans E3 (fun _ q => q)
  have hR : RD j c3 w3 p a1 := h.ev E (no _) (no _)
  clear E1 E2 E3 hb1 hv2 B1 B2 M1 M2 M3
  have EX : Ev (fun x => x = j ∨ m ≤ x) c0 w0 c3 w3 := E.mono (fun _ q => q.elim)
  refine nil ?_
  refine hK2 _ _ ?_
  refine wp_seq_k fun K3 hK3 => ?_
  refine wp_seq_k fun K4 hK4 => ?_
  have early : ∀ a, Fr a 19 [(4, .pointer (some qv)), (5, .pointer (some qz)), (14, .bool true)] → takeF 0 a1 X = (0, a1) → K4 a w3 := by
    intro a F ht
    refine hK4 _ _ ?_
    refine wp_cond_true (F.ev rfl) ?_
    refine wp_seq_k fun K5 hK5 => ?_
    refine reg ?_
    refine q_val F rfl rfl (by decide) (r_load F rfl lag_u64 (AT.cell0 hz3 rfl)) fun a F => ?_
    refine q_eff0 F rfl rfl (e_store0 F rfl rfl lsz_u64 hv3 (by simp) rfl) ?_
    rintro w4 a ⟨E4, hv4, hs4⟩ F
    refine nil ?_
    refine hK5 _ _ ?_
    refine wp_ret ?_
    repeat (first | refine thenR ?_ | refine inbR ?_)
    show Leaves _ _ _ _ _ _ _
    rw [F.dfr]
    refine leaves1 F rfl ⟨qv, rfl, lv_one lag_u64 (AT.cell0 hv4 rfl)⟩ ?_
    refine ⟨c3, (EX.trans (E4.mono (M' := fun x => x = j ∨ m ≤ x) (fun x q => Or.inr (by omega))) (fun _ q => q)).leave B0 id (fun _ _ => rfl), (B3.size hs4).mono (by omega), ⟨_, rfl, ?_⟩, ?_⟩
    · rw [ht]; exact rfl
    · rw [ht]; exact hR.ev E4 (by omega) (by omega)
  refine reg ?_
  refine q_val F rfl rfl (by decide) (r_load F rfl lag_rd (AT.cell0 hb3 rfl)) fun a F => ?_
  refine q_val F rfl rfl (by decide) (r_peqlA F Tryz.underlying108 rfl rfl (RD.isNone hR)) fun a F => ?_
  refine q_val F rfl rfl (by decide) (r_move F rfl) fun a F => ?_
  cases a1 with
  | none =>
    refine q_no F rfl (by decide) rfl rfl (by decide) fun a F => ?_
    refine q_no F rfl (by decide) rfl rfl (by decide) fun a F => ?_
    refine q_no F rfl (by decide) rfl rfl (by decide) fun a F => ?_
    refine q_no F rfl (by decide) rfl rfl (by decide) fun a F => ?_
    refine q_no F rfl (by decide) rfl rfl (by decide) fun a F => ?_
    refine q_val F rfl rfl (by decide) (r_pick_t F rfl rfl rfl) fun a F => ?_
    refine nil ?_
    exact early a (F.sub ⟨rfl, rfl, rfl, trivial⟩) rfl
  | some r =>
    obtain ⟨ad, A1, C1, A2, C2, rfl, hat, hl, ho⟩ := RD.some hR
    refine q_yes F rfl (by decide) rfl rfl ?_
    refine q_val F rfl rfl (by decide) (r_load F rfl lag_rd (AT.cell0 hb3 rfl)) fun a F => ?_
    refine q_yes F rfl (by decide) rfl rfl ?_
    refine q_val F rfl rfl (by decide) (r_nil F rfl) fun a F => ?_
    refine q_yes F rfl (by decide) rfl rfl ?_
    refine q_val F rfl rfl (by decide) (r_fieldAddr F rfl ff_147_2) fun a F => ?_
    refine q_yes F rfl (by decide) rfl rfl ?_
    refine q_val F rfl rfl (by decide) (r_load F rfl ag_33 (AT.cell hat rfl)) fun a F => ?_
    refine q_yes F rfl (by decide) rfl rfl ?_
    refine q_val F rfl rfl (by decide) (r_neq F rfl rfl) fun a F => ?_
    refine q_val F rfl rfl (by decide) (r_pick_f F rfl rfl rfl) fun a F => ?_
    refine nil ?_
    by_cases hft : r.fault = 0
    · rw [decide_eq_true hft] at F
      refine hK4 _ _ ?_
      refine wp_cond_false (F.ev rfl) ?_
      refine wp_skip ?_
      refine hK3 _ _ ?_
      have htk : takeF 0 (some r) X = rtake 0 r (X r) := by unfold takeF; simp only [if_pos hft]
      rw [htk]
      refine wp_seq_k fun K5 hK5 => ?_
      refine preg ?_
      refine p_val F rfl rfl (by decide) (r_makeFunc (vs := [.pointer (some qb), .pointer (some qz), .pointer (some qv)]) F rfl) fun a F => ?_
      refine p_defer F rfl rfl (r_defer F rfl) fun a F => ?_
      refine pnil ?_
      refine hK5 _ _ ?_
      refine wp_seq_k fun K6 hK6 => ?_
      refine preg ?_
      refine p_val F rfl rfl (by decide) (r_move F rfl) fun a F => ?_
      refine p_call F rfl rfl (by decide) (r_callv F hf hfb hfn rfl) (hcl r rfl hft c3 w3 E B3 hR) ?_
      rintro e w4 ⟨c4, E4, B4, hx⟩
      have hb4 := hb3.ev E4 (show ¬ m = j by omega)
      have hv4 := hv3.ev E4 (show ¬ m + 1 = j by omega)
      have hz4 := hz3.ev E4 (show ¬ m + 2 = j by omega)
      generalize hXr : X r = res at hx
      match res with
      | .inl (l, ft) =>
        right
        obtain ⟨⟨t, u, rfl⟩, hR4⟩ := hx
        refine ⟨_, rfl, fun a F => ?_⟩
        repeat (first | refine thenP ?_ | refine inbP ?_)
        show Leaves _ _ _ _ _ _ _
        rw [F.dfr]
        refine leaves_cons (f := 165) (args := #[.pointer (some qb), .pointer (some qz), .pointer (some qv)]) (by simp) (invoke_fn (args := #[]) Tryz.func165 rfl rfl) ?_
        refine (catchP_u64 (jb := m) (jz := m + 2) (jv := m + 1) hj.1 hR4 hb4 hz4 hv4 (by omega) (by omega) (by omega) (by omega) rfl t u []).mono ?_
        rintro e u' w6 ⟨rfl, rfl, E6, hs6, hR6, hv6⟩
        show Leaves _ _ _ _ _ .returning _
        refine leaves1 F rfl ⟨qv, rfl, lv_one lag_u64 (AT.cell0 hv6 rfl)⟩ ?_
        refine ⟨c4, ((EX.trans (E4.mono (M' := fun x => x = j ∨ m ≤ x) (fun x q => Or.inl q)) (fun _ q => q)).trans (E6.mono (M' := fun x => x = j ∨ m ≤ x) (fun x q => q.elim (fun q => Or.inl q) (fun q => Or.inr (by omega)))) (fun _ q => q)).leave B0 id (fun _ _ => rfl), B4.size hs6, ⟨_, rfl, ?_⟩, hR6⟩
        exact rfl
      | .inr (x, l, ft) =>
        left
        obtain ⟨⟨v, rfl, hv⟩, hR4⟩ := hx
        have hone : v.oneCell' = true := by cases (show v = .int .u64 x from hv); rfl
        refine ⟨v, rfl, fun a F => ?_⟩
        refine p_eff0 F rfl rfl (e_store0 F rfl rfl lsz_u64 hv4 (by simp) hone) ?_
        rintro w5 a ⟨E5, hv5, hs5⟩ F
        have hv5 : AT true (m + 1) c4 w5 qv [v] := hv5
        refine pnil ?_
        refine hK6 _ _ ?_
        refine wp_ret ?_
        repeat (first | refine thenR ?_ | refine inbR ?_)
        show Leaves _ _ _ _ _ _ _
        rw [F.dfr]
        refine leaves_cons (f := 165) (args := #[.pointer (some qb), .pointer (some qz), .pointer (some qv)]) (by simp) (invoke_fn (args := #[]) Tryz.func165 rfl rfl) ?_
        refine (catchR_u64 (jb := m) (jz := m + 2) (jv := m + 1) hj.1 (hR4.ev E5 (by omega) (by omega)) (hb4.ev E5 (by omega)) (hz4.ev E5 (by omega)) hv5 (by omega) (by omega) (by omega) (by omega) rfl).mono ?_
        rintro e u' w6 ⟨rfl, rfl, E6, hs6, hR6, hv6⟩
        show Leaves _ _ _ _ _ .returning _
        refine leaves1 F rfl ⟨qv, rfl, lv_one lag_u64 (AT.cell0 hv6 rfl)⟩ ?_
        rw [hXr]
        have ET : Ev (fun x => x = j) c0 w0 c4 w6 := (((EX.trans (E4.mono (M' := fun x => x = j ∨ m ≤ x) (fun x q => Or.inl q)) (fun _ q => q)).trans (E5.mono (M' := fun x => x = j ∨ m ≤ x) (fun x q => Or.inr (by omega))) (fun _ q => q)).trans (E6.mono (M' := fun x => x = j ∨ m ≤ x) (fun x q => q.elim (fun q => Or.inl q) (fun q => Or.inr (by omega)))) (fun _ q => q)).leave B0 id (fun _ _ => rfl)
        by_cases hq : ft = 0
        · rw [if_pos (show (⟨l, r.outer, ft⟩ : Rdr).fault = 0 from hq)]
          refine ⟨c4, ET, (B4.size hs5).size hs6, ⟨_, rfl, ?_⟩, ?_⟩
          · show (retI .u64) (rtake 0 r (.inr (x, l, ft))).1 c4 w6 v
            unfold rtake; simp only [if_pos hq]
            exact hv
          · unfold rtake; simp only [if_pos hq]; exact hR6
        · rw [if_neg (show ¬ (⟨l, r.outer, ft⟩ : Rdr).fault = 0 from hq)]
          refine ⟨c4, ET, (B4.size hs5).size hs6, ⟨_, rfl, ?_⟩, ?_⟩
          · show (retI .u64) (rtake 0 r (.inr (x, l, ft))).1 c4 w6 _
            unfold rtake; simp only [if_neg hq]
            exact rfl
          · unfold rtake; simp only [if_neg hq]; exact hR6
    · rw [decide_eq_false hft] at F
      exact early a (F.sub ⟨rfl, rfl, rfl, trivial⟩) (by unfold takeF; simp only [if_neg hft])
set_option maxRecDepth 100000 in
set_option maxHeartbeats 4000000 in
theorem take_calls_bytes {m : Nat} {c0 : Nat → Nat} {w0 : World} {j : Nat} {p : Option Addr} {a1 : Option Rdr} {f : FuncId} {fn : Func} {fst cp : Array Value} {X : Rdr → (List Int × Int) ⊕ (List Int × List Int × Int)} (B0 : CB m c0 w0) (h : RD j c0 w0 p a1) (hj : 0 < j ∧ j < m)
    (hf : Tryz.prog.funcs[f]? = some fn) (hfb : fn.body.isNone = false) (hfn : (fn.name == "runtime.NumGoroutine") = false)
    (hcl : ∀ r, a1 = some r → r.fault = 0 → ∀ c1 w1, Ev No c0 w0 c1 w1 → CB (m + 3) c1 w1 → RD j c1 w1 p (some r) → Calls Tryz.prog f (fst ++ cp) w1 (RX (m + 4) j c1 w1 p r.outer (X r) (retT (m + 3)))) :
    Calls Tryz.prog 115 #[.pointer p, .func (.func f) fst cp] w0 (fun e w_ => ∃ c_, Ev (fun x => x = j) c0 w0 c_ w_ ∧ CB (m + 4) c_ w_ ∧ (∃ v, e = .returned v ∧ (retT (m + 3)) (takeF ([] : List Int) a1 X).1 c_ w_ v) ∧ RD j c_ w_ p (takeF ([] : List Int) a1 X).2) := by
  refine enterD (N := 19) (l := [.pointer p, .func (.func f) fst cp]) Tryz.func115 rfl rfl (Nat.le_of_ble_eq_true rfl) fun a F => ?_
  refine wp_seq_k fun K1 hK1 => ?_
  refine reg ?_
  refine q_eff F rfl rfl (by decide) (e_box F rfl c0 m) ?_
  rintro v w1 a ⟨c1, qb, rfl, E1, hb1, M1⟩ F
  have hb1 : AT true m c1 w1 qb [.pointer p] := hb1
  have B1 : CB (m + 4) c1 w1 := M1 _ (B0.mono (by omega)) (by omega)
  refine q_eff F rfl rfl (by decide) (e_alloc F lzv_bytes c1 (m + 1)) ?_
  rintro v w2 a ⟨c2, qv, rfl, E2, hv2, M2⟩ F
  have hv2 : AT true (m + 1) c2 w2 qv [.slice none 0 0] := hv2
  have B2 : CB (m + 4) c2 w2 := M2 _ B1 (by omega)
  refine nil ?_
  refine hK1 _ _ ?_
  refine wp_seq_k fun K2 hK2 => ?_
  refine reg ?_
  refine q_eff F rfl rfl (by decide) (e_alloc F lzv_bytes c2 (m + 2)) ?_
  rintro v w3 a ⟨c3, qz, rfl, E3, hz3, M3⟩ F
  have hz3 : AT true (m + 2) c3 w3 qz [.slice none 0 0] := hz3
  have B3 : CB (m + 3) c3 w3 := M3 _ (M2 _ (M1 _ (B0.mono (by omega)) (by omega)) (by omega)) (by omega)
  have no : ∀ x, ¬ No x := fun x q => q
  have hb3 : AT true m c3 w3 qb [.pointer p] := (hb1.ev E2 (no _)).ev E3 (no _)
  have hv3 : AT true (m + 1) c3 w3 qv [.slice none 0 0] := hv2.ev E3 (no _)
  have E : Ev No c0 w0 c3 w3 := (E1.trans E2 (fun _ q => q)).trans E3 (fun _ q => q)
  have hR : RD j c3 w3 p a1 := h.ev E (no _) (no _)
  clear E1 E2 E3 hb1 hv2 B1 B2 M1 M2 M3
  have EX : Ev (fun x => x = j ∨ m ≤ x) c0 w0 c3 w3 := E.mono (fun _ q => q.elim)
  refine nil ?_
  refine hK2 _ _ ?_
  refine wp_seq_k fun K3 hK3 => ?_
  refine wp_seq_k fun K4 hK4 => ?_
  have early : ∀ a, Fr a 19 [(4, .pointer (some qv)), (5, .pointer (some qz)), (14, .bool true)] → takeF ([] : List Int) a1 X = (([] : List Int), a1) → K4 a w3 := by
    intro a F ht
    refine hK4 _ _ ?_
    refine wp_cond_true (F.ev rfl) ?_
    refine wp_seq_k fun K5 hK5 => ?_
    refine reg ?_
    refine q_val F rfl rfl (by decide) (r_load F rfl lag_bytes (AT.cell0 hz3 rfl)) fun a F => ?_
    refine q_eff0 F rfl rfl (e_store0 F rfl rfl lsz_bytes hv3 (by simp) rfl) ?_
    rintro w4 a ⟨E4, hv4, hs4⟩ F
    refine nil ?_
    refine hK5 _ _ ?_
    refine wp_ret ?_
    repeat (first | refine thenR ?_ | refine inbR ?_)
    show Leaves _ _ _ _ _ _ _
    rw [F.dfr]
    refine leaves1 F rfl ⟨qv, rfl, lv_one lag_bytes (AT.cell0 hv4 rfl)⟩ ?_
    refine ⟨c3, (EX.trans (E4.mono (M' := fun x => x = j ∨ m ≤ x) (fun x q => Or.inr (by omega))) (fun _ q => q)).leave B0 id (fun _ _ => rfl), (B3.size hs4).mono (by omega), ⟨_, rfl, ?_⟩, ?_⟩
    · rw [ht]; exact ⟨none, 0, rfl, SL.nil⟩
    · rw [ht]; exact hR.ev E4 (by omega) (by omega)
  refine reg ?_
  refine q_val F rfl rfl (by decide) (r_load F rfl lag_rd (AT.cell0 hb3 rfl)) fun a F => ?_
  refine q_val F rfl rfl (by decide) (r_peqlA F Tryz.underlying108 rfl rfl (RD.isNone hR)) fun a F => ?_
  refine q_val F rfl rfl (by decide) (r_move F rfl) fun a F => ?_
  cases a1 with
  | none =>
    refine q_no F rfl (by decide) rfl rfl (by decide) fun a F => ?_
    refine q_no F rfl (by decide) rfl rfl (by decide) fun a F => ?_
    refine q_no F rfl (by decide) rfl rfl (by decide) fun a F => ?_
    refine q_no F rfl (by decide) rfl rfl (by decide) fun a F => ?_
    refine q_no F rfl (by decide) rfl rfl (by decide) fun a F => ?_
    refine q_val F rfl rfl (by decide) (r_pick_t F rfl rfl rfl) fun a F => ?_
    refine nil ?_
    exact early a (F.sub ⟨rfl, rfl, rfl, trivial⟩) rfl
  | some r =>
    obtain ⟨ad, A1, C1, A2, C2, rfl, hat, hl, ho⟩ := RD.some hR
    refine q_yes F rfl (by decide) rfl rfl ?_
    refine q_val F rfl rfl (by decide) (r_load F rfl lag_rd (AT.cell0 hb3 rfl)) fun a F => ?_
    refine q_yes F rfl (by decide) rfl rfl ?_
    refine q_val F rfl rfl (by decide) (r_nil F rfl) fun a F => ?_
    refine q_yes F rfl (by decide) rfl rfl ?_
    refine q_val F rfl rfl (by decide) (r_fieldAddr F rfl ff_147_2) fun a F => ?_
    refine q_yes F rfl (by decide) rfl rfl ?_
    refine q_val F rfl rfl (by decide) (r_load F rfl ag_33 (AT.cell hat rfl)) fun a F => ?_
    refine q_yes F rfl (by decide) rfl rfl ?_
    refine q_val F rfl rfl (by decide) (r_neq F rfl rfl) fun a F => ?_
    refine q_val F rfl rfl (by decide) (r_pick_f F rfl rfl rfl) fun a F => ?_
    refine nil ?_
    by_cases hft : r.fault = 0
    · rw [decide_eq_true hft] at F
      refine hK4 _ _ ?_
      refine wp_cond_false (F.ev rfl) ?_
      refine wp_skip ?_
      refine hK3 _ _ ?_
      have htk : takeF ([] : List Int) (some r) X = rtake ([] : List Int) r (X r) := by unfold takeF; simp only [if_pos hft]
      rw [htk]
      refine wp_seq_k fun K5 hK5 => ?_
      refine preg ?_
      refine p_val F rfl rfl (by decide) (r_makeFunc (vs := [.pointer (some qb), .pointer (some qz), .pointer (some qv)]) F rfl) fun a F => ?_
      refine p_defer F rfl rfl (r_defer F rfl) fun a F => ?_
      refine pnil ?_
      refine hK5 _ _ ?_
      refine wp_seq_k fun K6 hK6 => ?_
      refine preg ?_
      refine p_val F rfl rfl (by decide) (r_move F rfl) fun a F => ?_
      refine p_call F rfl rfl (by decide) (r_callv F hf hfb hfn rfl) (hcl r rfl hft c3 w3 E B3 hR) ?_
      rintro e w4 ⟨c4, E4, B4, hx⟩
      have hb4 := hb3.ev E4 (show ¬ m = j by omega)
      have hv4 := hv3.ev E4 (show ¬ m + 1 = j by omega)
      have hz4 := hz3.ev E4 (show ¬ m + 2 = j by omega)
      generalize hXr : X r = res at hx
      match res with
      | .inl (l, ft) =>
        right
        obtain ⟨⟨t, u, rfl⟩, hR4⟩ := hx
        refine ⟨_, rfl, fun a F => ?_⟩
        repeat (first | refine thenP ?_ | refine inbP ?_)
        show Leaves _ _ _ _ _ _ _
        rw [F.dfr]
        refine leaves_cons (f := 164) (args := #[.pointer (some qb), .pointer (some qz), .pointer (some qv)]) (by simp) (invoke_fn (args := #[]) Tryz.func164 rfl rfl) ?_
        refine (catchP_bytes (jb := m) (jz := m + 2) (jv := m + 1) hj.1 hR4 hb4 hz4 hv4 (by omega) (by omega) (by omega) (by omega) rfl t u []).mono ?_
        rintro e u' w6 ⟨rfl, rfl, E6, hs6, hR6, hv6⟩
        show Leaves _ _ _ _ _ .returning _
        refine leaves1 F rfl ⟨qv, rfl, lv_one lag_bytes (AT.cell0 hv6 rfl)⟩ ?_
        refine ⟨c4, ((EX.trans (E4.mono (M' := fun x => x = j ∨ m ≤ x) (fun x q => Or.inl q)) (fun _ q => q)).trans (E6.mono (M' := fun x => x = j ∨ m ≤ x) (fun x q => q.elim (fun q => Or.inl q) (fun q => Or.inr (by omega)))) (fun _ q => q)).leave B0 id (fun _ _ => rfl), B4.size hs6, ⟨_, rfl, ?_⟩, hR6⟩
        exact ⟨none, 0, rfl, SL.nil⟩
      | .inr (x, l, ft) =>
        left
        obtain ⟨⟨v, rfl, hv⟩, hR4⟩ := hx
        have hone : v.oneCell' = true := by obtain ⟨A3, C3, e3, hs3⟩ := hv; rw [e3]; rfl
        refine ⟨v, rfl, fun a F => ?_⟩
        refine p_eff0 F rfl rfl (e_store0 F rfl rfl lsz_bytes hv4 (by simp) hone) ?_
        rintro w5 a ⟨E5, hv5, hs5⟩ F
        have hv5 : AT true (m + 1) c4 w5 qv [v] := hv5
        refine pnil ?_
        refine hK6 _ _ ?_
        refine wp_ret ?_
        repeat (first | refine thenR ?_ | refine inbR ?_)
        show Leaves _ _ _ _ _ _ _
        rw [F.dfr]
        refine leaves_cons (f := 164) (args := #[.pointer (some qb), .pointer (some qz), .pointer (some qv)]) (by simp) (invoke_fn (args := #[]) Tryz.func164 rfl rfl) ?_
        refine (catchR_bytes (jb := m) (jz := m + 2) (jv := m + 1) hj.1 (hR4.ev E5 (by omega) (by omega)) (hb4.ev E5 (by omega)) (hz4.ev E5 (by omega)) hv5 (by omega) (by omega) (by omega) (by omega) rfl).mono ?_
        rintro e u' w6 ⟨rfl, rfl, E6, hs6, hR6, hv6⟩
        show Leaves _ _ _ _ _ .returning _
        refine leaves1 F rfl ⟨qv, rfl, lv_one lag_bytes (AT.cell0 hv6 rfl)⟩ ?_
        rw [hXr]
        have ET : Ev (fun x => x = j) c0 w0 c4 w6 := (((EX.trans (E4.mono (M' := fun x => x = j ∨ m ≤ x) (fun x q => Or.inl q)) (fun _ q => q)).trans (E5.mono (M' := fun x => x = j ∨ m ≤ x) (fun x q => Or.inr (by omega))) (fun _ q => q)).trans (E6.mono (M' := fun x => x = j ∨ m ≤ x) (fun x q => q.elim (fun q => Or.inl q) (fun q => Or.inr (by omega)))) (fun _ q => q)).leave B0 id (fun _ _ => rfl)
        by_cases hq : ft = 0
        · rw [if_pos (show (⟨l, r.outer, ft⟩ : Rdr).fault = 0 from hq)]
          refine ⟨c4, ET, (B4.size hs5).size hs6, ⟨_, rfl, ?_⟩, ?_⟩
          · show (retT (m + 3)) (rtake ([] : List Int) r (.inr (x, l, ft))).1 c4 w6 v
            unfold rtake; simp only [if_pos hq]
            obtain ⟨A3, C3, e3, hs3⟩ := hv
            exact ⟨A3, C3, e3, (hs3.ev E5 (by omega) (by omega)).ev E6 (by omega) (by omega)⟩
          · unfold rtake; simp only [if_pos hq]; exact hR6
        · rw [if_neg (show ¬ (⟨l, r.outer, ft⟩ : Rdr).fault = 0 from hq)]
          refine ⟨c4, ET, (B4.size hs5).size hs6, ⟨_, rfl, ?_⟩, ?_⟩
          · show (retT (m + 3)) (rtake ([] : List Int) r (.inr (x, l, ft))).1 c4 w6 _
            unfold rtake; simp only [if_neg hq]
            exact ⟨none, 0, rfl, SL.nil⟩
          · unfold rtake; simp only [if_neg hq]; exact hR6
    · rw [decide_eq_false hft] at F
      exact early a (F.sub ⟨rfl, rfl, rfl, trivial⟩) (by unfold takeF; simp only [if_neg hft])
end Go.Proofs.YthankpjbfpcldaaGreat.G
namespace Go.Proofs.YthankpjbfpcldaaGreat.G
open Go Go.RowKit
set_option linter.unusedVariables false
set_option linter.unusedSimpArgs false
theorem r_makeFunc1 {P : Program} {a : Act} {N : Nat} {L : List (Nat × Value)} {D : List Deferred} {w : World} {x : Operand} {v : Value} {d : Option Tmp} {ty : TypeId} {pos : String} {af : Array Edge} {gd : Option (Nat × Bool)} {f : FuncId} (F : Fr a N L D) (hx : ev L x = some v) :
    (execOp a.eval { dst := d, op := .makeFunc (.func f) #[x] #[], type := ty, pos := pos, after := af, guard := gd }).run P w = .ok (.value (.func (.func f) #[v] #[])) w := by
  simp [execOp, F.ev hx, Instr.makeFunc, Sem.run_bind, Sem.run_pure, Result.andThen]
set_option maxHeartbeats 2000000 in
theorem parcel_Reader_Num.calls {m : Nat} {c0 : Nat → Nat} {w0 : World} {j4 : Nat} {p2 : Option Addr} {a1 : Option Rdr} (hm0 : 0 < m) (B0 : CB m c0 w0) (h3 : RD j4 c0 w0 p2 a1) (bj4 : 0 < j4 ∧ j4 < m) (r : Int × (Option Rdr)) (H : parcel_Reader_Num.f a1 = some r) :
    Calls Tryz.prog 67 #[.pointer p2] w0 (fun e w_ => ∃ (c_ : Nat → Nat), e = .returned (.int .u64 r.1) ∧ Ev (fun x => (x = j4)) c0 w0 c_ w_ ∧ CB m c_ w_ ∧ RD j4 c_ w_ p2 r.2) := by
  have hr : r = takeF 0 a1 (fun r => rnum r.fault r.left 0 0) := by
    unfold parcel_Reader_Num.f at H
    unfold takeF
    cases a1 with
    | none => exact (Option.some.inj H).symm
    | some q =>
      simp only at H ⊢
      split at H
      · rename_i hq; rw [if_pos hq]; exact (Option.some.inj H).symm
      · rename_i hq; rw [if_neg hq]; exact (Option.some.inj H).symm
  subst hr
  refine enter (N := 7) (l := [.pointer p2]) Tryz.func67 rfl rfl (Nat.le_of_ble_eq_true rfl) fun a F => ?_
  refine wp_seq_k fun K1 hK1 => ?_
  refine reg ?_
  refine q_val F rfl rfl (by decide) (r_assign F rfl) fun a F => ?_
  refine nil ?_
  refine hK1 _ _ ?_
  refine wp_seq_k fun K2 hK2 => ?_
  refine reg ?_
  refine q_val F rfl rfl (by decide) (r_move F rfl) fun a F => ?_
  refine q_val F rfl rfl (by decide) (r_move F rfl) fun a F => ?_
  refine q_val F rfl rfl (by decide) (r_makeFunc1 F rfl) fun a F => ?_
  refine q_call F rfl rfl (by decide) (r_call (vs := [.pointer p2, .func (.func 121) #[.pointer p2] #[]]) F Tryz.func120 rfl rfl rfl) (take_calls_u64 (X := fun r => rnum r.fault r.left 0 0) B0 h3 bj4 Tryz.func121 rfl rfl (fun r e0 _ c1 w1 E1 B1 hR => num_calls (B1.mono (by omega)) hR bj4.1)) ?_
  rintro e w1 ⟨c1, E, B, ⟨v, rfl, hv⟩, hR⟩
  have hv : v = .int .u64 (takeF 0 a1 (fun r => rnum r.fault r.left 0 0)).1 := hv
  subst hv
  refine ⟨_, rfl, fun a F => ?_⟩
  refine q_val F rfl rfl (by decide) (r_assign F rfl) fun a F => ?_
  refine nil ?_
  refine hK2 _ _ ?_
  refine wp_ret ?_
  refine out1 F rfl rfl ?_
  have EL := (E.mono (M' := fun x => x = j4 ∨ m ≤ x) (fun _ q => Or.inl q)).leave B0 (fun x => if x < m then x else 0) (fun x hx => if_pos hx)
  exact ⟨fun b => if c1 b < m then c1 b else 0, rfl, EL, fun b hb => by show (if c1 b < m then c1 b else 0) < m; split <;> omega, hR.rc (fun k hk => by show (if c1 k < m then c1 k else 0) = _; rw [hk, if_pos bj4.2]) (fun k hk => by show (if c1 k < m then c1 k else 0) = _; rw [hk]; split <;> omega)⟩
set_option maxHeartbeats 2000000 in
theorem parcel_Reader_Text.calls {m : Nat} {c0 : Nat → Nat} {w0 : World} {j4 : Nat} {p2 : Option Addr} {a1 : Option Rdr} {a6 : Int} (hm0 : 0 < m) (B0 : CB m c0 w0) (h3 : RD j4 c0 w0 p2 a1) (bj4 : 0 < j4 ∧ j4 < m) (jr : Nat) (bjr : jr < m) (r : (List Int) × (Option Rdr)) (H : parcel_Reader_Text.f a1 a6 = some r) :
    Calls Tryz.prog 66 #[.pointer p2, .int .i64 a6] w0 (fun e w_ => ∃ (c_ : Nat → Nat) (A0_ : Option Addr) (C0_ : Nat), e = .returned (.slice A0_ r.1.length C0_) ∧ Ev (fun x => (x = j4)) c0 w0 c_ w_ ∧ CB m c_ w_ ∧ SL true (Kint .u8) jr 0 c_ w_ A0_ C0_ r.1 ∧ RD j4 c_ w_ p2 r.2) := by
  obtain ⟨X, hX, hr⟩ : ∃ X : Rdr → (List Int × Int) ⊕ (List Int × List Int × Int), (∀ q, a1 = some q → q.fault = 0 → rtext q.left q.fault a6 = some (X q)) ∧ r = takeF [] a1 X := by
    unfold parcel_Reader_Text.f at H
    cases a1 with
    | none => exact ⟨fun _ => .inl ([], 0), fun q e => (by cases e), (Option.some.inj H).symm⟩
    | some q =>
      simp only at H
      split at H
      · rename_i hq
        obtain ⟨x, e1, H⟩ := bind_some H
        refine ⟨fun _ => x, fun q' e _ => by cases e; exact e1, ?_⟩
        unfold takeF; simp only [if_pos hq]; exact (Option.some.inj H).symm
      · rename_i hq
        refine ⟨fun _ => .inl ([], 0), fun q' e h => by cases e; exact absurd h hq, ?_⟩
        unfold takeF; simp only [if_neg hq]; exact (Option.some.inj H).symm
  subst hr
  refine enter (N := 8) (l := [.pointer p2, .int .i64 a6]) Tryz.func66 rfl rfl (Nat.le_of_ble_eq_true rfl) fun a F => ?_
  refine wp_seq_k fun K1 hK1 => ?_
  refine reg ?_
  refine q_eff F rfl rfl (by decide) (e_box F rfl c0 m) ?_
  rintro v w1 a ⟨c1, q1, rfl, E1, hb1, M1⟩ F
  have hb1 : AT true m c1 w1 q1 [.pointer p2] := hb1
  refine q_eff F rfl rfl (by decide) (e_box F rfl c1 (m + 1)) ?_
  rintro v w2 a ⟨c2, q2, rfl, E2, hb2, M2⟩ F
  have hb2 : AT true (m + 1) c2 w2 q2 [.int .i64 a6] := hb2
  have no : ∀ x, ¬ No x := fun x q => q
  have B2 : CB (m + 2) c2 w2 := M2 _ (M1 _ (B0.mono (by omega)) (by omega)) (by omega)
  have E : Ev No c0 w0 c2 w2 := E1.trans E2 (fun _ q => q)
  have hR := h3.ev E (no _) (no _)
  have hb1 := hb1.ev E2 (no _)
  refine q_val F rfl rfl (by decide) (r_assign F rfl) fun a F => ?_
  refine nil ?_
  refine hK1 _ _ ?_
  refine wp_seq_k fun K2 hK2 => ?_
  refine reg ?_
  refine q_val F rfl rfl (by decide) (r_load F rfl lag_rd (AT.cell0 hb1 rfl)) fun a F => ?_
  refine q_val F rfl rfl (by decide) (r_makeFunc (vs := [.pointer (some q1), .pointer (some q2)]) F rfl) fun a F => ?_
  refine q_call F rfl rfl (by decide) (r_call (vs := [.pointer p2, .func (.func 116) #[] #[.pointer (some q1), .pointer (some q2)]]) F Tryz.func115 rfl rfl rfl)
    (take_calls_bytes (X := X) (m := m + 2) B2 hR ⟨bj4.1, by omega⟩ Tryz.func116 rfl rfl (fun q e0 hf c3 w3 E3 B3 hR3 => text1_calls (jb := m) (jc := m + 1) (B3.mono (by omega)) hR3 bj4.1 (hb1.ev E3 (no _)) (hb2.ev E3 (no _)) (by omega) (by omega) (m + 2 + 3) (by omega) (by omega) (X q) (hX q e0 hf))) ?_
  rintro e w3 ⟨c3, E3, B3, ⟨v, rfl, A3, C3, rfl, hs3⟩, hR3⟩
  refine ⟨_, rfl, fun a F => ?_⟩
  refine q_val F rfl rfl (by decide) (r_assign F rfl) fun a F => ?_
  refine nil ?_
  refine hK2 _ _ ?_
  refine wp_ret ?_
  refine out1 F rfl rfl ?_
  have ET : Ev (fun x => x = j4 ∨ m ≤ x) c0 w0 c3 w3 := (E.mono (M' := fun x => x = j4 ∨ m ≤ x) (fun _ q => q.elim)).trans (E3.mono (M' := fun x => x = j4 ∨ m ≤ x) (fun _ q => Or.inl q)) (fun _ q => q)
  have EL := ET.leave B0 (fun x => if x = m + 5 then jr else if x < m then x else 0) (fun x hx => by show (if x = m + 5 then jr else if x < m then x else 0) = x; rw [if_neg (by omega), if_pos hx])
  exact ⟨fun b => if c3 b = m + 5 then jr else if c3 b < m then c3 b else 0, A3, C3, rfl, EL, fun b hb => by show (if c3 b = m + 5 then jr else if c3 b < m then c3 b else 0) < m; (repeat' split) <;> omega,
    hs3.rc (fun k hk => by show (if c3 k = m + 5 then jr else if c3 k < m then c3 k else 0) = _; rw [hk, if_pos (by omega)]) (fun k hk => by show (if c3 k = m + 5 then jr else if c3 k < m then c3 k else 0) = _; rw [hk]; (repeat' split) <;> omega),
    hR3.rc (fun k hk => by show (if c3 k = m + 5 then jr else if c3 k < m then c3 k else 0) = _; rw [hk, if_neg (by omega), if_pos bj4.2]) (fun k hk => by show (if c3 k = m + 5 then jr else if c3 k < m then c3 k else 0) = _; rw [hk]; (repeat' split) <;> omega)⟩
set_option maxHeartbeats 2000000 in
theorem parcel_Read.calls {m : Nat} {c0 : Nat → Nat} {w0 : World} {j1 : Nat} {A2 : Option Addr} {C3 : Nat} {a1 : List Int} (hm0 : 0 < m) (B0 : CB m c0 w0) (h4 : SL false (Kint .u8) j1 0 c0 w0 A2 C3 a1) (bj1 : j1 < m) (jr : Nat) (bjr : jr < m) (r : Option Rdr) (H : parcel_Read.f a1 = some r) :
    Calls Tryz.prog 64 #[.slice A2 a1.length C3] w0 (fun e w_ => ∃ (c_ : Nat → Nat) (P0_ : Option Addr), e = .returned (.pointer P0_) ∧ Ev (fun x => False) c0 w0 c_ w_ ∧ CB m c_ w_ ∧ RD jr c_ w_ P0_ r) := by
  unfold parcel_Read.f at H
  obtain ⟨g, H⟩ := ifN H
  have H := Option.some.inj H
  subst H
  refine enter (N := 18) (l := [.slice A2 a1.length C3]) Tryz.func64 rfl rfl (Nat.le_of_ble_eq_true rfl) fun a F => ?_
  refine wp_seq_k fun K1 hK1 => ?_
  refine reg ?_
  refine q_val F rfl rfl (by decide) (r_assign F rfl) fun a F => ?_
  refine nil ?_
  refine hK1 _ _ ?_
  refine wp_seq_k fun K2 hK2 => ?_
  refine reg ?_
  refine q_val F rfl rfl (by decide) (r_move F rfl) fun a F => ?_
  refine q_val F rfl rfl (by decide) (r_lensl F Tryz.underlying27 rfl) fun a F => ?_
  refine q_eff F rfl rfl (by decide) (e_make (k := (Kint .u8)) (x0 := 0) F et_27 rfl rfl (fun _ _ _ => rfl) (by decide) (by omega) c0 (m + 2) 0) ?_
  rintro v w1 a ⟨c1, A5, C5, rfl, E1, h5, B1⟩ F
  have B1 := B1 (m + 3) (B0.mono (by omega)) (by omega)
  have h4 := h4.ev E1 (fun q => q.elim) (fun q => q.elim)
  refine q_val F rfl rfl (by decide) (r_assign F rfl) fun a F => ?_
  refine nil ?_
  refine hK2 _ _ ?_
  refine wp_seq_k fun K3 hK3 => ?_
  refine reg ?_
  refine q_val F rfl rfl (by decide) (r_move F rfl) fun a F => ?_
  refine q_val F rfl rfl (by decide) (r_move F rfl) fun a F => ?_
  refine q_eff F rfl rfl (by decide) (e_copy (k := (Kint .u8)) (xs := List.replicate ((a1.length : Nat) : Int).toNat (0 : Int)) (ys := a1) F et_27 rfl rfl h5 h4 (by omega)) ?_
  rintro v w2 a ⟨rfl, E2, h5, Z2⟩ F
  have e5 : a1.take (List.replicate ((a1.length : Nat) : Int).toNat (0 : Int)).length ++ (List.replicate ((a1.length : Nat) : Int).toNat (0 : Int)).drop a1.length = a1 := by simp
  have l5 : (List.replicate ((a1.length : Nat) : Int).toNat (0 : Int)).length = a1.length := by simp
  rw [e5] at h5
  rw [l5] at F
  refine nil ?_
  refine hK3 _ _ ?_
  refine wp_seq_k fun K4 hK4 => ?_
  refine reg ?_
  refine q_val F rfl rfl (by decide) (r_move F rfl) fun a F => ?_
  refine q_val F rfl rfl (by decide) (r_move F rfl) fun a F => ?_
  refine q_val F rfl rfl (by decide) (r_lensl F Tryz.underlying27 rfl) fun a F => ?_
  refine q_val F rfl rfl (by decide) (r_move F rfl) fun a F => ?_
  refine q_val F rfl rfl (by decide) (r_lensl F Tryz.underlying27 rfl) fun a F => ?_
  obtain ⟨A6, C6, hr6, h6⟩ := cut_nn (n := ((a1.length : Nat) : Int)) Tryz.underlying27 sz_5 h5 ⟨by omega, by omega⟩
  refine q_val F rfl rfl (by decide) (r_slice (vl := none) (vh := some (.int .i64 ((a1.length : Nat) : Int))) (vm := some (.int .i64 ((a1.length : Nat) : Int))) F rfl rfl rfl rfl hr6) fun a F => ?_
  have e6 : a1.take ((a1.length : Nat) : Int).toNat = a1 := by simp
  rw [e6] at F h6
  refine q_val F rfl rfl (by decide) (r_build (v := .agg #[.slice A6 a1.length C6, .slice none 0 0, .int .i64 0]) F [(0, .slice A6 a1.length C6)] (by exact ⟨rfl, rfl, trivial⟩) (fun w => by kernel_rfl)) fun a F => ?_
  refine q_eff F rfl rfl (by decide) (e_box F (v := .agg #[.slice A6 a1.length C6, .slice none 0 0, .int .i64 0]) rfl c1 (m + 1)) ?_
  rintro v w3 a ⟨c3, qa, rfl, E3, h7, B3⟩ F
  have B3 := B3 (m + 3) (B1.size Z2) (by omega)
  have h7 : AT true (m + 1) c3 w3 qa [.slice A6 a1.length C6, .slice none 0 0, .int .i64 0] := h7
  have h6 := h6.ev E3 (fun q => q.elim) (fun q => q.elim)
  refine q_val F rfl rfl (by decide) (r_assign F rfl) fun a F => ?_
  refine nil ?_
  refine hK4 _ _ ?_
  refine wp_ret ?_
  refine out1 F rfl rfl ?_
  have ET : Ev (fun x => False ∨ m ≤ x) c0 w0 c3 w3 := ((E1.mono (M' := fun x => False ∨ m ≤ x) (fun _ q => q.elim)).trans (E2.mono (M' := fun x => False ∨ m ≤ x) (fun x q => Or.inr (by omega))) (fun _ q => q)).trans (E3.mono (M' := fun x => False ∨ m ≤ x) (fun _ q => q.elim)) (fun _ q => q)
  have EL := ET.leave B0 (fun x => if x = m + 1 then jr else if x < m then x else 0) (fun x hx => by show (if x = m + 1 then jr else if x < m then x else 0) = x; rw [if_neg (by omega), if_pos hx])
  refine ⟨fun b => if c3 b = m + 1 then jr else if c3 b < m then c3 b else 0, some qa, rfl, EL, fun b hb => by show (if c3 b = m + 1 then jr else if c3 b < m then c3 b else 0) < m; (repeat' split) <;> omega, ?_⟩
  exact RD.mk (t := ⟨a1, [], 0⟩) (h7.rc (fun k hk => by show (if c3 k = m + 1 then jr else if c3 k < m then c3 k else 0) = _; rw [hk, if_pos rfl])) (h6.r.rc (fun k hk => by show (if c3 k = m + 1 then jr else if c3 k < m then c3 k else 0) = _; rw [hk]; (repeat' split) <;> omega) (fun k hk => by show (if c3 k = m + 1 then jr else if c3 k < m then c3 k else 0) = _; rw [hk]; (repeat' split) <;> omega)) SL.nil
end Go.Proofs.YthankpjbfpcldaaGreat.G
namespace Go.Proofs.YthankpjbfpcldaaGreat.G
open Go Go.RowKit
set_option linter.unusedVariables false
set_option linter.unusedSimpArgs false
set_option maxRecDepth 100000
set_option maxHeartbeats 40000000
theorem parcel_Reader_Done.calls {m : Nat} {c0 : Nat → Nat} {w0 : World} {j4 : Nat} {p2 : Option Addr} {a1 : Option Rdr} (hm0 : 0 < m) (B0 : CB m c0 w0) (h3 : RD j4 c0 w0 p2 a1) (bj4 : j4 < m) (r : Int) (H : parcel_Reader_Done.f a1 = some r) : Calls Tryz.prog 70 #[.pointer p2] w0 (fun e w_ => ∃ (c_ : Nat → Nat), e = .returned (.int .i64 r) ∧ Ev (fun x => False) c0 w0 c_ w_ ∧ CB m c_ w_) := by
 unfold parcel_Reader_Done.f at H
 have B := B0.mono (show m ≤ m + 1 by omega)
 have E : Ev (fun x => False ∨ m ≤ x) c0 w0 c0 w0 := Ev.refl
 refine enter (N := 31) (l := [.pointer p2]) Tryz.func70 rfl rfl (nb rfl) fun a F => ?_
 refine wp_seq_k fun K5 hK5 => reg ?_
 refine qa F fun a F => ?_
 refine nil (hK5 _ _ ?_)
 refine wp_seq_k fun K6 hK6 => ?_
 refine wp_block ?_
 refine wp_seq_k fun K7 hK7 => reg ?_
 refine qm F fun a F => ?_
 refine qv F (r_peqlA F Tryz.underlying108 rfl rfl (RD.isNone h3)) fun a F => ?_
 refine qa F fun a F => ?_
 refine nil (hK7 _ _ ?_)
 by_cases hb8 : (Option.isNone a1) = true
 ·replace H := ip hb8 H
  refine wp_cond_true (fb F hb8) ?_
  refine wp_seq_k fun K9 hK9 => reg ?_
  refine qa F fun a F => ?_
  refine nil (hK9 _ _ ?_)
  refine wp_ret ?_
  refine inbR ?_
  refine thenR ?_
  replace H := si H
  subst H
  refine out1 F rfl rfl ?_
  exact ⟨cf (fun x_ => if x_ < m then x_ else 0) c0, rfl, E.lv B0, cfb⟩
 replace H := im hb8 H
 refine wp_cond_false (fb F (bfalse hb8)) ?_
 refine wp_seq_k fun K10 hK10 => reg ?_
 refine qm F fun a F => ?_
 obtain ⟨ob11, e12, H⟩ := bind_some H
 have z13 := h3
 rw [e12] at z13
 obtain ⟨ad14, A16, C17, A19, C20, rfl, hat15, h18, h21⟩ := RD.some z13
 refine qv F (r_nil F rfl) fun a F => ?_
 refine qf F ff_147_2 fun a F => ?_
 refine qv F (r_load F rfl ag_33 (AT.cell hat15 rfl)) fun a F => ?_
 refine qv F (r_neq F rfl rfl) fun a F => ?_
 refine qa F fun a F => ?_
 refine nil (hK10 _ _ ?_)
 replace F : Fr a 31 [(0, .pointer (some ad14)), (6, .bool (!decide (ob11.fault = 0)))] := F.sub ⟨rfl, rfl, trivial⟩
 by_cases hb23 : ob11.fault = 0
 ·replace H := ip hb23 H
  refine wp_cond_false (fb F (congrArg not (dt hb23))) ?_
  refine wp_seq_k fun K24 hK24 => ?_
  have J27 : ∀ (c28 : Nat → Nat) (w29 : World) (a : Act) (b26 : Bool), Fr a 31 [(16, .bool b26)] → Ev (fun x => False ∨ m ≤ x) c0 w0 c28 w29 → CB (m + 1) c28 w29 → parcel_Reader_Done.j1 b26 = some r → K24 a w29 := by
   intro c28 w29 a b26 F E B  H
   unfold parcel_Reader_Done.j1 at H
   refine hK24 _ _ ?_
   by_cases hb30 : b26 = true
   ·replace H := ip hb30 H
    refine wp_cond_true (fb F hb30) ?_
    refine wp_seq_k fun K31 hK31 => reg ?_
    refine qa F fun a F => ?_
    refine nil (hK31 _ _ ?_)
    refine wp_ret ?_
    refine inbR ?_
    refine thenR ?_
    replace H := si H
    subst H
    refine out1 F rfl rfl ?_
    exact ⟨cf (fun x_ => if x_ < m then x_ else 0) c28, rfl, E.lv B0, cfb⟩
   replace H := im hb30 H
   refine wp_cond_false (fb F (bfalse hb30)) (wp_skip (hK6 _ _ ?_))
   refine wp_seq_k fun K33 hK33 => reg ?_
   refine qa F fun a F => ?_
   refine nil (hK33 _ _ ?_)
   refine wp_ret ?_
   replace H := si H
   subst H
   refine out1 F rfl rfl ?_
   exact ⟨cf (fun x_ => if x_ < m then x_ else 0) c28, rfl, E.lv B0, cfb⟩
  refine reg ?_
  refine qm F fun a F => ?_
  refine qv F (r_nil F rfl) fun a F => ?_
  refine qf F ff_147_0 fun a F => ?_
  refine qv F (r_load F rfl ag_27 (AT.cell hat15 rfl)) fun a F => ?_
  refine qv F (r_lensl F Tryz.underlying27 rfl) fun a F => ?_
  refine qv F (r_gtr F rfl rfl) fun a F => ?_
  refine qm F fun a F => ?_
  by_cases hb25 : 0 < (ob11.left.length : Int)
  ·replace H := ip hb25 H
   refine qn F (dt hb25) fun a F => ?_
   refine qn F (dt hb25) fun a F => ?_
   refine qn F (dt hb25) fun a F => ?_
   refine qn F (dt hb25) fun a F => ?_
   refine qn F (dt hb25) fun a F => ?_
   refine qn F (dt hb25) fun a F => ?_
   refine qv F (r_pick_t F rfl (dt hb25) rfl) fun a F => ?_
   refine qa F fun a F => ?_
   refine nil ?_
   exact J27 c0 w0 a true (F.sub ⟨rfl, trivial⟩) E B  H
  replace H := im hb25 H
  refine qy F (dz hb25) ?_
  refine qm F fun a F => ?_
  refine qy F (dz hb25) ?_
  refine qv F (r_nil F rfl) fun a F => ?_
  refine qy F (dz hb25) ?_
  refine qf F ff_147_1 fun a F => ?_
  refine qy F (dz hb25) ?_
  refine qv F (r_load F rfl ag_144 (AT.cell hat15 rfl)) fun a F => ?_
  refine qy F (dz hb25) ?_
  refine qv F (r_lensl F Tryz.underlying144 rfl) fun a F => ?_
  refine qy F (dz hb25) ?_
  refine qv F (r_gtr F rfl rfl) fun a F => ?_
  refine qv F (r_pick_f F rfl (dz hb25) rfl) fun a F => ?_
  refine qa F fun a F => ?_
  refine nil ?_
  exact J27 c0 w0 a (decide (0 < (ob11.outer.length : Int))) (F.sub ⟨rfl, trivial⟩) E B  H
 replace H := im hb23 H
 refine wp_cond_true (fb F (congrArg not (dz hb23))) ?_
 refine wp_seq_k fun K32 hK32 => reg ?_
 refine qm F fun a F => ?_
 refine qv F (r_nil F rfl) fun a F => ?_
 refine qf F ff_147_2 fun a F => ?_
 refine qv F (r_load F rfl ag_33 (AT.cell hat15 rfl)) fun a F => ?_
 refine qa F fun a F => ?_
 refine nil (hK32 _ _ ?_)
 refine wp_ret ?_
 refine inbR ?_
 refine thenR ?_
 replace H := si H
 subst H
 refine out1 F rfl rfl ?_
 exact ⟨cf (fun x_ => if x_ < m then x_ else 0) c0, rfl, E.lv B0, cfb⟩
end Go.Proofs.YthankpjbfpcldaaGreat.G
namespace Go.Proofs.YthankpjbfpcldaaGreat.G
open Go Go.RowKit
set_option linter.unusedVariables false
set_option linter.unusedSimpArgs false
theorem lsz_int : ∀ w, (sizeOf 3).run Tryz.prog w = .ok 1 w := fun _ => by kernel_rfl
theorem lzv_int : ∀ w, (zeroValue 3).run Tryz.prog w = .ok (.int .i64 0) w := fun _ => by kernel_rfl
set_option maxHeartbeats 2000000 in
theorem byte1_calls {m : Nat} {c0 : Nat → Nat} {w0 : World} {j jb : Nat} {p : Option Addr} {q1 : Addr} {r : Rdr} (B0 : CB m c0 w0) (h : RD j c0 w0 p (some r)) (hj : 0 < j) (h1 : AT true jb c0 w0 q1 [.pointer p]) :
    Calls Tryz.prog 167 #[.pointer (some q1)] w0 (RX m j c0 w0 p r.outer (rbyte r.left r.fault) (retI .i64)) := by
  refine enter (N := 7) (l := [.pointer (some q1)]) Tryz.func167 rfl rfl (Nat.le_of_ble_eq_true rfl) fun a F => ?_
  refine wp_seq_k fun K1 hK1 => ?_
  refine reg ?_
  refine q_val F rfl rfl (by decide) (r_assign F rfl) fun a F => ?_
  refine nil ?_
  refine hK1 _ _ ?_
  refine wp_seq_k fun K2 hK2 => ?_
  refine preg ?_
  refine p_val F rfl rfl (by decide) (r_load F rfl lag_rd (AT.cell0 h1 rfl)) fun a F => ?_
  refine p_call F rfl rfl (by decide) (r_call (vs := [.pointer p, .int .i64 1]) F Tryz.func119 rfl rfl rfl) (next_calls B0 h hj) ?_
  rintro e w1 ⟨c1, E1, B1, hx⟩
  obtain ⟨xs, ou, f⟩ := r
  cases xs with
  | nil =>
    right
    have e0 : rnext ([] : List Int) f 1 = .inl ([], f) := rfl
    rw [show (⟨[], ou, f⟩ : Rdr).left = [] from rfl, show (⟨[], ou, f⟩ : Rdr).fault = f from rfl, e0] at hx
    obtain ⟨⟨t, u, rfl⟩, hR1⟩ := hx
    refine ⟨_, rfl, fun a F => ?_⟩
    repeat (first | refine thenP ?_ | refine inbP ?_)
    refine outP (F.sub (L' := []) trivial) ?_
    exact ⟨c1, E1, B1, ⟨t, u, rfl⟩, hR1⟩
  | cons x xs =>
    left
    have e0 : rnext (x :: xs) f 1 = .inr ([x], xs, f) := by
      unfold rnext; rw [if_pos (by simp; omega)]; rfl
    rw [show (⟨x :: xs, ou, f⟩ : Rdr).left = x :: xs from rfl, show (⟨x :: xs, ou, f⟩ : Rdr).fault = f from rfl, e0] at hx
    obtain ⟨⟨v, rfl, A, C, rfl, hs⟩, hR1⟩ := hx
    obtain ⟨qa, rfl, hcell⟩ := sl_one hs
    refine ⟨_, rfl, fun a F => ?_⟩
    refine p_val F rfl rfl (by decide) (r_indexAddr F Tryz.underlying27 sz_5 rfl rfl (by omega) (by simp)) fun a F => ?_
    refine p_val F rfl rfl (by decide) (r_load F rfl ag_5 hcell) fun a F => ?_
    refine p_val F rfl rfl (by decide) (r_convi F Tryz.underlying3 (by kernel_rfl) rfl) fun a F => ?_
    refine p_val F rfl rfl (by decide) (r_assign F rfl) fun a F => ?_
    refine pnil ?_
    refine hK2 _ _ ?_
    refine wp_ret ?_
    repeat (first | refine thenR ?_ | refine inbR ?_)
    refine out1 F rfl rfl ?_
    exact ⟨c1, E1, B1, ⟨_, rfl, rfl⟩, hR1⟩
set_option maxHeartbeats 2000000 in
theorem catchP_i64 {c : Nat → Nat} {w : World} {j jb jz jv : Nat} {ad q1 qz qv : Addr} {r : Rdr} {z v0 : Value} (hj : 0 < j) (h : RD j c w (some ad) (some r)) (h1 : AT true jb c w q1 [.pointer (some ad)]) (hz : AT true jz c w qz [z]) (hv : AT true jv c w qv [v0])
    (n1 : jb ≠ j) (n2 : jz ≠ j) (n3 : jv ≠ j) (n4 : 0 < jv) (hone : z.oneCell' = true) (t : TypeId) (u : Value) (older : List PanicEntry) :
    CallsD Tryz.prog 186 #[.pointer (some q1), .pointer (some qz), .pointer (some qv)] (.panicking ({ v := .iface t u, recovered := false } :: older)) w fun e u' w' =>
      e = .returned (.tuple #[]) ∧ u' = .panicking ({ v := .iface t u, recovered := true } :: older) ∧ Rcv j jv c w (some ad) qv ⟨r.left, r.outer, 10⟩ z w' := by
  refine enterS (N := 16) (l := [.pointer (some q1), .pointer (some qz), .pointer (some qv)]) Tryz.func186 rfl rfl (Nat.le_of_ble_eq_true rfl) fun c₀ cs hu a F => ?_
  refine wpS_seq ?_
  refine wpS_seq ?_
  refine wpS_region ?_
  refine s_rec_yes F rfl rfl rfl (by decide) (r_recover a) (v := .iface t u) (cs' := { c₀ with mode := .panicking ({ v := .iface t u, recovered := true } :: older) } :: cs) (by simp [recoverD, hu]) fun a F => ?_
  refine s_val F rfl rfl rfl (by decide) (r_assign F rfl) fun a F => ?_
  show Code.wpS _ _ _ _ _ _
  refine wpS_of_wp ?_
  obtain ⟨ad', A1, C1, A2, C2, e0, hat, hl, ho⟩ := RD.some h
  cases e0
  have m0 : ¬ ((0 : Nat) = j) := by omega
  refine wp_seq_k fun K2 hK2 => ?_
  refine reg ?_
  refine q_val F rfl rfl (by decide) (r_move F rfl) fun a F => ?_
  refine q_val F rfl rfl (by decide) (r_ifneq_t F (by kernel_rfl) rfl) fun a F => ?_
  refine nil ?_
  refine hK2 _ _ ?_
  refine wp_cond_true (F.ev rfl) ?_
  refine reg ?_
  refine q_val F rfl rfl (by decide) (r_load F rfl lag_rd (AT.cell0 h1 rfl)) fun a F => ?_
  refine q_val F rfl rfl (by decide) (r_nil F rfl) fun a F => ?_
  refine q_val F rfl rfl (by decide) (r_fieldAddr F rfl ff_147_2) fun a F => ?_
  refine q_eff0 F rfl rfl (e_store F rfl rfl sz_33 hat (by simp) rfl) ?_
  rintro w2 a ⟨E2, hat2, hz2⟩ F
  refine nil ?_
  show Code.wpS _ _ _ _ _ _
  refine wpS_of_wp ?_
  refine wp_seq_k fun K3 hK3 => ?_
  refine reg ?_
  refine q_val F rfl rfl (by decide) (r_load F rfl lag_rd (AT.cell0 (h1.ev E2 n1) rfl)) fun a F => ?_
  refine q_val F rfl rfl (by decide) (r_nil F rfl) fun a F => ?_
  refine q_val F rfl rfl (by decide) (r_fieldAddr F rfl ff_147_2) fun a F => ?_
  refine q_val F rfl rfl (by decide) (r_load F rfl ag_33 (AT.cell hat2 rfl)) fun a F => ?_
  refine q_val F rfl rfl (by decide) (r_neq F rfl rfl) fun a F => ?_
  refine nil ?_
  refine hK3 _ _ ?_
  refine wp_cond_true (F.ev rfl) ?_
  refine reg ?_
  refine q_val F rfl rfl (by decide) (r_load F rfl lag_int (AT.cell0 (hz.ev E2 n2) rfl)) fun a F => ?_
  refine q_eff0 F rfl rfl (e_store0 F rfl rfl lsz_int (hv.ev E2 n3) (by simp) hone) ?_
  rintro w3 a ⟨E3, hat3, hz3⟩ F
  refine nil ?_
  have n5 : ¬ (j = jv) := fun q => n3 q.symm
  have m1 : ¬ ((0 : Nat) = jv) := by omega
  refine ⟨F.dfr, _, rfl, .tuple #[], results_none rfl _ _ _, rfl, rfl, ?_⟩
  exact ⟨(E2.mono (fun _ q => Or.inl q)).trans (E3.mono (M' := fun x => x = j ∨ x = jv) (fun _ q => Or.inr q)) (fun _ q => q), by rw [hz3, hz2], RD.mk (t := ⟨r.left, r.outer, 10⟩) (hat2.ev E3 n5) ((hl.ev E2 m0 m0).ev E3 m1 m1) ((ho.ev E2 m0 m0).ev E3 m1 m1), hat3⟩
set_option maxHeartbeats 2000000 in
theorem catchR_i64 {c : Nat → Nat} {w : World} {j jb jz jv : Nat} {ad q1 qz qv : Addr} {r : Rdr} {z v0 : Value} (hj : 0 < j) (h : RD j c w (some ad) (some r)) (h1 : AT true jb c w q1 [.pointer (some ad)]) (hz : AT true jz c w qz [z]) (hv : AT true jv c w qv [v0])
    (n1 : jb ≠ j) (n2 : jz ≠ j) (n3 : jv ≠ j) (n4 : 0 < jv) (hone : z.oneCell' = true) :
    CallsD Tryz.prog 186 #[.pointer (some q1), .pointer (some qz), .pointer (some qv)] .returning w fun e u' w' =>
      e = .returned (.tuple #[]) ∧ u' = .returning ∧ Rcv j jv c w (some ad) qv r (if r.fault = 0 then v0 else z) w' := by
  refine enterS (N := 16) (l := [.pointer (some q1), .pointer (some qz), .pointer (some qv)]) Tryz.func186 rfl rfl (Nat.le_of_ble_eq_true rfl) fun c₀ cs hu a F => ?_
  refine wpS_seq ?_
  refine wpS_seq ?_
  refine wpS_region ?_
  refine s_rec_no F rfl rfl rfl (by decide) (r_recover a) (by simp [recoverD, hu]) fun a F => ?_
  refine s_val F rfl rfl rfl (by decide) (r_assign F rfl) fun a F => ?_
  show Code.wpS _ _ _ _ _ _
  refine wpS_of_wp ?_
  obtain ⟨ad', A1, C1, A2, C2, e0, hat, hl, ho⟩ := RD.some h
  cases e0
  have m1 : ¬ ((0 : Nat) = jv) := by omega
  have n5 : ¬ (j = jv) := fun q => n3 q.symm
  have hc0 : ({ c₀ with mode := .returning } : Frame) = c₀ := by cases c₀; simp_all
  refine wp_seq_k fun K2 hK2 => ?_
  refine reg ?_
  refine q_val F rfl rfl (by decide) (r_move F rfl) fun a F => ?_
  refine q_val F rfl rfl (by decide) (r_ifneq_f F (by kernel_rfl) rfl) fun a F => ?_
  refine nil ?_
  refine hK2 _ _ ?_
  refine wp_cond_false (F.ev rfl) ?_
  refine wp_skip ?_
  show Code.wpS _ _ _ _ _ _
  refine wpS_of_wp ?_
  refine wp_seq_k fun K3 hK3 => ?_
  refine reg ?_
  refine q_val F rfl rfl (by decide) (r_load F rfl lag_rd (AT.cell0 h1 rfl)) fun a F => ?_
  refine q_val F rfl rfl (by decide) (r_nil F rfl) fun a F => ?_
  refine q_val F rfl rfl (by decide) (r_fieldAddr F rfl ff_147_2) fun a F => ?_
  refine q_val F rfl rfl (by decide) (r_load F rfl ag_33 (AT.cell hat rfl)) fun a F => ?_
  refine q_val F rfl rfl (by decide) (r_neq F rfl rfl) fun a F => ?_
  refine nil ?_
  refine hK3 _ _ ?_
  by_cases hf : r.fault = 0
  · refine wp_cond_false ((F.ev rfl).trans (congrArg Value.bool (congrArg not (decide_eq_true hf)))) ?_
    refine wp_skip ?_
    refine ⟨F.dfr, .returning, by rw [hc0], .tuple #[], results_none rfl _ _ _, rfl, rfl, ?_⟩
    rw [if_pos hf]
    exact ⟨Ev.refl, rfl, h, hv⟩
  · refine wp_cond_true ((F.ev rfl).trans (congrArg Value.bool (congrArg not (decide_eq_false hf)))) ?_
    refine reg ?_
    refine q_val F rfl rfl (by decide) (r_load F rfl lag_int (AT.cell0 hz rfl)) fun a F => ?_
    refine q_eff0 F rfl rfl (e_store0 F rfl rfl lsz_int hv (by simp) hone) ?_
    rintro w3 a ⟨E3, hat3, hz3⟩ F
    refine nil ?_
    refine ⟨F.dfr, .returning, by rw [hc0], .tuple #[], results_none rfl _ _ _, rfl, rfl, ?_⟩
    rw [if_neg hf]
    exact ⟨E3.mono (fun _ q => Or.inr q), hz3, h.ev E3 n5 m1, hat3⟩
set_option maxRecDepth 100000 in
set_option maxHeartbeats 4000000 in
theorem take_calls_i64 {m : Nat} {c0 : Nat → Nat} {w0 : World} {j : Nat} {p : Option Addr} {a1 : Option Rdr} {f : FuncId} {fn : Func} {fst cp : Array Value} {X : Rdr → (List Int × Int) ⊕ (Int × List Int × Int)} (B0 : CB m c0 w0) (h : RD j c0 w0 p a1) (hj : 0 < j ∧ j < m)
    (hf : Tryz.prog.funcs[f]? = some fn) (hfb : fn.body.isNone = false) (hfn : (fn.name == "runtime.NumGoroutine") = false)
    (hcl : ∀ r, a1 = some r → r.fault = 0 → ∀ c1 w1, Ev No c0 w0 c1 w1 → CB (m + 3) c1 w1 → RD j c1 w1 p (some r) → Calls Tryz.prog f (fst ++ cp) w1 (RX (m + 4) j c1 w1 p r.outer (X r) (retI .i64))) :
    Calls Tryz.prog 166 #[.pointer p, .func (.func f) fst cp] w0 (fun e w_ => ∃ c_, Ev (fun x => x = j) c0 w0 c_ w_ ∧ CB (m + 4) c_ w_ ∧ (∃ v, e = .returned v ∧ (retI .i64) (takeF 0 a1 X).1 c_ w_ v) ∧ RD j c_ w_ p (takeF 0 a1 X).2) := by
  refine enterD (N := 19) (l := [.pointer p, .func (.func f) fst cp]) Tryz.func166 rfl rfl (Nat.le_of_ble_eq_true rfl) fun a F => ?_
  refine wp_seq_k fun K1 hK1 => ?_
  refine reg ?_
  refine q_eff F rfl rfl (by decide) (e_box F rfl c0 m) ?_
  rintro v w1 a ⟨c1, qb, rfl, E1, hb1, M1⟩ F
  have hb1 : AT true m c1 w1 qb [.pointer p] := hb1
  have B1 : CB (m + 4) c1 w1 := M1 _ (B0.mono (by omega)) (by omega)
  refine q_eff F rfl rfl (by decide) (e_alloc F lzv_int c1 (m + 1)) ?_
  rintro v w2 a ⟨c2, qv, rfl, E2, hv2, M2⟩ F
  have hv2 : AT true (m + 1) c2 w2 qv [.int .i64 0] := hv2
  have B2 : CB (m + 4) c2 w2 := M2 _ B1 (by omega)
  refine nil ?_
  refine hK1 _ _ ?_
  refine wp_seq_k fun K2 hK2 => ?_
  refine reg ?_
  refine q_eff F rfl rfl (by decide) (e_alloc F lzv_int c2 (m + 2)) ?_
  rintro v w3 a ⟨c3, qz, rfl, E3, hz3, M3⟩ F
  have hz3 : AT true (m + 2) c3 w3 qz [.int .i64 0] := hz3
  have B3 : CB (m + 3) c3 w3 := M3 _ (M2 _ (M1 _ (B0.mono (by omega)) (by omega)) (by omega)) (by omega)
  have no : ∀ x, ¬ No x := fun x q => q
  have hb3 : AT true m c3 w3 qb [.pointer p] := (hb1.ev E2 (no _)).ev E3 (no _)
  have hv3 : AT true (m + 1) c3 w3 qv [.int .i64 0] := hv2.ev E3 (no _)
  have E : Ev No c0 w0 c3 w3 := (E1.trans E2 (fun _ q => q)).trans E3 (fun _ q => q)
  have hR : RD j c3 w3 p a1 := h.ev E (no _) (no _)
  clear E1 E2 E3 hb1 hv2 B1 B2 M1 M2 M3
  have EX : Ev (fun x => x = j ∨ m ≤ x) c0 w0 c3 w3 := E.mono (fun _ q => q.elim)
  refine nil ?_
  refine hK2 _ _ ?_
  refine wp_seq_k fun K3 hK3 => ?_
  refine wp_seq_k fun K4 hK4 => ?_
  have early : ∀ a, Fr a 19 [(4, .pointer (some qv)), (5, .pointer (some qz)), (14, .bool true)] → takeF 0 a1 X = (0, a1) → K4 a w3 := by
    intro a F ht
    refine hK4 _ _ ?_
    refine wp_cond_true (F.ev rfl) ?_
    refine wp_seq_k fun K5 hK5 => ?_
    refine reg ?_
    refine q_val F rfl rfl (by decide) (r_load F rfl lag_int (AT.cell0 hz3 rfl)) fun a F => ?_
    refine q_eff0 F rfl rfl (e_store0 F rfl rfl lsz_int hv3 (by simp) rfl) ?_
    rintro w4 a ⟨E4, hv4, hs4⟩ F
    refine nil ?_
    refine hK5 _ _ ?_
    refine wp_ret ?_
    repeat (first | refine thenR ?_ | refine inbR ?_)
    show Leaves _ _ _ _ _ _ _
    rw [F.dfr]
    refine leaves1 F rfl ⟨qv, rfl, lv_one lag_int (AT.cell0 hv4 rfl)⟩ ?_
    refine ⟨c3, (EX.trans (E4.mono (M' := fun x => x = j ∨ m ≤ x) (fun x q => Or.inr (by omega))) (fun _ q => q)).leave B0 id (fun _ _ => rfl), (B3.size hs4).mono (by omega), ⟨_, rfl, ?_⟩, ?_⟩
    · rw [ht]; exact rfl
    · rw [ht]; exact hR.ev E4 (by omega) (by omega)
  refine reg ?_
  refine q_val F rfl rfl (by decide) (r_load F rfl lag_rd (AT.cell0 hb3 rfl)) fun a F => ?_
  refine q_val F rfl rfl (by decide) (r_peqlA F Tryz.underlying108 rfl rfl (RD.isNone hR)) fun a F => ?_
  refine q_val F rfl rfl (by decide) (r_move F rfl) fun a F => ?_
  cases a1 with
  | none =>
    refine q_no F rfl (by decide) rfl rfl (by decide) fun a F => ?_
    refine q_no F rfl (by decide) rfl rfl (by decide) fun a F => ?_
    refine q_no F rfl (by decide) rfl rfl (by decide) fun a F => ?_
    refine q_no F rfl (by decide) rfl rfl (by decide) fun a F => ?_
    refine q_no F rfl (by decide) rfl rfl (by decide) fun a F => ?_
    refine q_val F rfl rfl (by decide) (r_pick_t F rfl rfl rfl) fun a F => ?_
    refine nil ?_
    exact early a (F.sub ⟨rfl, rfl, rfl, trivial⟩) rfl
  | some r =>
    obtain ⟨ad, A1, C1, A2, C2, rfl, hat, hl, ho⟩ := RD.some hR
    refine q_yes F rfl (by decide) rfl rfl ?_
    refine q_val F rfl rfl (by decide) (r_load F rfl lag_rd (AT.cell0 hb3 rfl)) fun a F => ?_
    refine q_yes F rfl (by decide) rfl rfl ?_
    refine q_val F rfl rfl (by decide) (r_nil F rfl) fun a F => ?_
    refine q_yes F rfl (by decide) rfl rfl ?_
    refine q_val F rfl rfl (by decide) (r_fieldAddr F rfl ff_147_2) fun a F => ?_
    refine q_yes F rfl (by decide) rfl rfl ?_
    refine q_val F rfl rfl (by decide) (r_load F rfl ag_33 (AT.cell hat rfl)) fun a F => ?_
    refine q_yes F rfl (by decide) rfl rfl ?_
    refine q_val F rfl rfl (by decide) (r_neq F rfl rfl) fun a F => ?_
    refine q_val F rfl rfl (by decide) (r_pick_f F rfl rfl rfl) fun a F => ?_
    refine nil ?_
    by_cases hft : r.fault = 0
    · rw [decide_eq_true hft] at F
      refine hK4 _ _ ?_
      refine wp_cond_false (F.ev rfl) ?_
      refine wp_skip ?_
      refine hK3 _ _ ?_
      have htk : takeF 0 (some r) X = rtake 0 r (X r) := by unfold takeF; simp only [if_pos hft]
      rw [htk]
      refine wp_seq_k fun K5 hK5 => ?_
      refine preg ?_
      refine p_val F rfl rfl (by decide) (r_makeFunc (vs := [.pointer (some qb), .pointer (some qz), .pointer (some qv)]) F rfl) fun a F => ?_
      refine p_defer F rfl rfl (r_defer F rfl) fun a F => ?_
      refine pnil ?_
      refine hK5 _ _ ?_
      refine wp_seq_k fun K6 hK6 => ?_
      refine preg ?_
      refine p_val F rfl rfl (by decide) (r_move F rfl) fun a F => ?_
      refine p_call F rfl rfl (by decide) (r_callv F hf hfb hfn rfl) (hcl r rfl hft c3 w3 E B3 hR) ?_
      rintro e w4 ⟨c4, E4, B4, hx⟩
      have hb4 := hb3.ev E4 (show ¬ m = j by omega)
      have hv4 := hv3.ev E4 (show ¬ m + 1 = j by omega)
      have hz4 := hz3.ev E4 (show ¬ m + 2 = j by omega)
      generalize hXr : X r = res at hx
      match res with
      | .inl (l, ft) =>
        right
        obtain ⟨⟨t, u, rfl⟩, hR4⟩ := hx
        refine ⟨_, rfl, fun a F => ?_⟩
        repeat (first | refine thenP ?_ | refine inbP ?_)
        show Leaves _ _ _ _ _ _ _
        rw [F.dfr]
        refine leaves_cons (f := 186) (args := #[.pointer (some qb), .pointer (some qz), .pointer (some qv)]) (by simp) (invoke_fn (args := #[]) Tryz.func186 rfl rfl) ?_
        refine (catchP_i64 (jb := m) (jz := m + 2) (jv := m + 1) hj.1 hR4 hb4 hz4 hv4 (by omega) (by omega) (by omega) (by omega) rfl t u []).mono ?_
        rintro e u' w6 ⟨rfl, rfl, E6, hs6, hR6, hv6⟩
        show Leaves _ _ _ _ _ .returning _
        refine leaves1 F rfl ⟨qv, rfl, lv_one lag_int (AT.cell0 hv6 rfl)⟩ ?_
        refine ⟨c4, ((EX.trans (E4.mono (M' := fun x => x = j ∨ m ≤ x) (fun x q => Or.inl q)) (fun _ q => q)).trans (E6.mono (M' := fun x => x = j ∨ m ≤ x) (fun x q => q.elim (fun q => Or.inl q) (fun q => Or.inr (by omega)))) (fun _ q => q)).leave B0 id (fun _ _ => rfl), B4.size hs6, ⟨_, rfl, ?_⟩, hR6⟩
        exact rfl
      | .inr (x, l, ft) =>
        left
        obtain ⟨⟨v, rfl, hv⟩, hR4⟩ := hx
        have hone : v.oneCell' = true := by cases (show v = .int .i64 x from hv); rfl
        refine ⟨v, rfl, fun a F => ?_⟩
        refine p_eff0 F rfl rfl (e_store0 F rfl rfl lsz_int hv4 (by simp) hone) ?_
        rintro w5 a ⟨E5, hv5, hs5⟩ F
        have hv5 : AT true (m + 1) c4 w5 qv [v] := hv5
        refine pnil ?_
        refine hK6 _ _ ?_
        refine wp_ret ?_
        repeat (first | refine thenR ?_ | refine inbR ?_)
        show Leaves _ _ _ _ _ _ _
        rw [F.dfr]
        refine leaves_cons (f := 186) (args := #[.pointer (some qb), .pointer (some qz), .pointer (some qv)]) (by simp) (invoke_fn (args := #[]) Tryz.func186 rfl rfl) ?_
        refine (catchR_i64 (jb := m) (jz := m + 2) (jv := m + 1) hj.1 (hR4.ev E5 (by omega) (by omega)) (hb4.ev E5 (by omega)) (hz4.ev E5 (by omega)) hv5 (by omega) (by omega) (by omega) (by omega) rfl).mono ?_
        rintro e u' w6 ⟨rfl, rfl, E6, hs6, hR6, hv6⟩
        show Leaves _ _ _ _ _ .returning _
        refine leaves1 F rfl ⟨qv, rfl, lv_one lag_int (AT.cell0 hv6 rfl)⟩ ?_
        rw [hXr]
        have ET : Ev (fun x => x = j) c0 w0 c4 w6 := (((EX.trans (E4.mono (M' := fun x => x = j ∨ m ≤ x) (fun x q => Or.inl q)) (fun _ q => q)).trans (E5.mono (M' := fun x => x = j ∨ m ≤ x) (fun x q => Or.inr (by omega))) (fun _ q => q)).trans (E6.mono (M' := fun x => x = j ∨ m ≤ x) (fun x q => q.elim (fun q => Or.inl q) (fun q => Or.inr (by omega)))) (fun _ q => q)).leave B0 id (fun _ _ => rfl)
        by_cases hq : ft = 0
        · rw [if_pos (show (⟨l, r.outer, ft⟩ : Rdr).fault = 0 from hq)]
          refine ⟨c4, ET, (B4.size hs5).size hs6, ⟨_, rfl, ?_⟩, ?_⟩
          · show (retI .i64) (rtake 0 r (.inr (x, l, ft))).1 c4 w6 v
            unfold rtake; simp only [if_pos hq]
            exact hv
          · unfold rtake; simp only [if_pos hq]; exact hR6
        · rw [if_neg (show ¬ (⟨l, r.outer, ft⟩ : Rdr).fault = 0 from hq)]
          refine ⟨c4, ET, (B4.size hs5).size hs6, ⟨_, rfl, ?_⟩, ?_⟩
          · show (retI .i64) (rtake 0 r (.inr (x, l, ft))).1 c4 w6 _
            unfold rtake; simp only [if_neg hq]
            exact rfl
          · unfold rtake; simp only [if_neg hq]; exact hR6
    · rw [decide_eq_false hft] at F
      exact early a (F.sub ⟨rfl, rfl, rfl, trivial⟩) (by unfold takeF; simp only [if_neg hft])
set_option maxHeartbeats 2000000 in
theorem parcel_Reader_Byte.calls {m : Nat} {c0 : Nat → Nat} {w0 : World} {j4 : Nat} {p2 : Option Addr} {a1 : Option Rdr} (hm0 : 0 < m) (B0 : CB m c0 w0) (h3 : RD j4 c0 w0 p2 a1) (bj4 : 0 < j4 ∧ j4 < m) (r : Int × (Option Rdr)) (H : parcel_Reader_Byte.f a1 = some r) :
    Calls Tryz.prog 123 #[.pointer p2] w0 (fun e w_ => ∃ (c_ : Nat → Nat), e = .returned (.int .i64 r.1) ∧ Ev (fun x => (x = j4)) c0 w0 c_ w_ ∧ CB m c_ w_ ∧ RD j4 c_ w_ p2 r.2) := by
  have hr : r = takeF 0 a1 (fun r => rbyte r.left r.fault) := by
    unfold parcel_Reader_Byte.f at H
    unfold takeF
    cases a1 with
    | none => exact (Option.some.inj H).symm
    | some q =>
      simp only at H ⊢
      split at H
      · rename_i hq; rw [if_pos hq]; exact (Option.some.inj H).symm
      · rename_i hq; rw [if_neg hq]; exact (Option.some.inj H).symm
  subst hr
  refine enter (N := 6) (l := [.pointer p2]) Tryz.func123 rfl rfl (Nat.le_of_ble_eq_true rfl) fun a F => ?_
  refine wp_seq_k fun K1 hK1 => ?_
  refine reg ?_
  refine q_eff F rfl rfl (by decide) (e_box F rfl c0 m) ?_
  rintro v w1 a ⟨c1, q1, rfl, E1, hb1, M1⟩ F
  have hb1 : AT true m c1 w1 q1 [.pointer p2] := hb1
  have no : ∀ x, ¬ No x := fun x q => q
  have B2 : CB (m + 1) c1 w1 := M1 _ (B0.mono (by omega)) (by omega)
  have hR := h3.ev E1 (no _) (no _)
  refine q_val F rfl rfl (by decide) (r_assign F rfl) fun a F => ?_
  refine nil ?_
  refine hK1 _ _ ?_
  refine wp_seq_k fun K2 hK2 => ?_
  refine reg ?_
  refine q_val F rfl rfl (by decide) (r_load F rfl lag_rd (AT.cell0 hb1 rfl)) fun a F => ?_
  refine q_val F rfl rfl (by decide) (r_makeFunc (vs := [.pointer (some q1)]) F rfl) fun a F => ?_
  refine q_call F rfl rfl (by decide) (r_call (vs := [.pointer p2, .func (.func 167) #[] #[.pointer (some q1)]]) F Tryz.func166 rfl rfl rfl)
    (take_calls_i64 (X := fun r => rbyte r.left r.fault) (m := m + 1) B2 hR ⟨bj4.1, by omega⟩ Tryz.func167 rfl rfl (fun q e0 hf c3 w3 E3 B3 hR3 => byte1_calls (jb := m) (B3.mono (by omega)) hR3 bj4.1 (hb1.ev E3 (no _)))) ?_
  rintro e w3 ⟨c3, E3, B3, ⟨v, rfl, hv⟩, hR3⟩
  have hv : v = .int .i64 (takeF 0 a1 (fun r => rbyte r.left r.fault)).1 := hv
  subst hv
  refine ⟨_, rfl, fun a F => ?_⟩
  refine q_val F rfl rfl (by decide) (r_assign F rfl) fun a F => ?_
  refine nil ?_
  refine hK2 _ _ ?_
  refine wp_ret ?_
  refine out1 F rfl rfl ?_
  have ET : Ev (fun x => x = j4 ∨ m ≤ x) c0 w0 c3 w3 := (E1.mono (M' := fun x => x = j4 ∨ m ≤ x) (fun _ q => q.elim)).trans (E3.mono (M' := fun x => x = j4 ∨ m ≤ x) (fun _ q => Or.inl q)) (fun _ q => q)
  have EL := ET.leave B0 (fun x => if x < m then x else 0) (fun x hx => if_pos hx)
  exact ⟨fun b => if c3 b < m then c3 b else 0, rfl, EL, fun b hb => by show (if c3 b < m then c3 b else 0) < m; split <;> omega, hR3.rc (fun k hk => by show (if c3 k < m then c3 k else 0) = _; rw [hk, if_pos bj4.2]) (fun k hk => by show (if c3 k < m then c3 k else 0) = _; rw [hk]; split <;> omega)⟩
end Go.Proofs.YthankpjbfpcldaaGreat.G
namespace Go.Proofs.YthankpjbfpcldaaGreat.G
open Go Go.RowKit
set_option linter.unusedVariables false
set_option linter.unusedSimpArgs false
set_option maxRecDepth 100000
set_option maxHeartbeats 40000000
theorem shard_number.calls {m : Nat} {c0 : Nat → Nat} {w0 : World} {j4 : Nat} {p2 : Option Addr} {a1 : Option Rdr} (hm0 : 0 < m) (B0 : CB m c0 w0) (h3 : RD j4 c0 w0 p2 a1) (bj4 : 0 < j4 ∧ j4 < m) (r : Int × (Option Rdr)) (H : shard_number.f a1 = some r) : Calls Tryz.prog 122 #[.pointer p2] w0 (fun e w_ => ∃ (c_ : Nat → Nat), e = .returned (.int .i64 r.1) ∧ Ev (fun x => (x = j4)) c0 w0 c_ w_ ∧ CB m c_ w_ ∧ RD j4 c_ w_ p2 r.2) := by
 unfold shard_number.f at H
 have B := B0.mono (show m ≤ m + 1 by omega)
 have E : Ev (fun x => (x = j4) ∨ m ≤ x) c0 w0 c0 w0 := Ev.refl
 refine enter (N := 10) (l := [.pointer p2]) Tryz.func122 rfl rfl (nb rfl) fun a F => ?_
 refine wp_seq_k fun K5 hK5 => reg ?_
 refine qa F fun a F => ?_
 refine nil (hK5 _ _ ?_)
 refine wp_seq_k fun K6 hK6 => reg ?_
 refine qm F fun a F => ?_
 obtain ⟨t7, q8, H⟩ := bind_some H
 refine qc F Tryz.func67 (parcel_Reader_Num.calls (m := m + 1) (pl hm0) B h3 (by omega) _ q8) ?_
 rintro e w10 ⟨c9, rfl, E11, B12, h13⟩
 refine ⟨_, rfl, fun a F => ?_⟩
 have B := B12
 replace E := E.trans E11 (fun x (q : x = j4) => Or.inl (q))
 refine qa F fun a F => ?_
 refine nil (hK6 _ _ ?_)
 refine wp_seq_k fun K15 hK15 => ?_
 refine wp_seq_k fun K16 hK16 => reg ?_
 refine qm F fun a F => ?_
 refine qv F (r_gtr F rfl rfl) fun a F => ?_
 refine nil (hK16 _ _ ?_)
 by_cases hb17 : 4611686018427387904 < t7.1
 ·replace H := ip hb17 H
  refine wp_cond_true (fb F (dt hb17)) ?_
  refine wp_seq_k fun K18 hK18 => reg ?_
  refine qa F fun a F => ?_
  refine nil (hK18 _ _ ?_)
  refine wp_ret ?_
  refine thenR ?_
  replace H := si H
  subst H
  refine out1 F rfl rfl ?_
  exact ⟨cf (fun x_ => if x_ < m then x_ else 0) c9, rfl, E.lv B0, cfb, RD.rc h13 cfk cfk⟩
 replace H := im hb17 H
 refine wp_cond_false (fb F (dz hb17)) (wp_skip (hK15 _ _ ?_))
 refine wp_seq_k fun K19 hK19 => reg ?_
 refine qm F fun a F => ?_
 refine qv F (r_convi F Tryz.underlying3 rfl rfl) fun a F => ?_
 refine qa F fun a F => ?_
 refine nil (hK19 _ _ ?_)
 replace F : Fr a 10 [(2, .int .i64 (IntKind.i64.wrap t7.1))] := F.sub ⟨rfl, trivial⟩
 refine wp_ret ?_
 replace H := si H
 subst H
 refine out1 F rfl rfl ?_
 exact ⟨cf (fun x_ => if x_ < m then x_ else 0) c9, rfl, E.lv B0, cfb, RD.rc h13 cfk cfk⟩
theorem shard_readSeat.calls {m : Nat} {c0 : Nat → Nat} {w0 : World} {j4 : Nat} {p2 : Option Addr} {a1 : Option Rdr} {a5 : Int} (hm0 : 0 < m) (B0 : CB m c0 w0) (h3 : RD j4 c0 w0 p2 a1) (bj4 : 0 < j4 ∧ j4 < m) (r : api_Seat × Bool × (Option Rdr)) (H : shard_readSeat.f a1 a5 = some r) : Calls Tryz.prog 68 #[.pointer p2, .int .i64 a5] w0 (fun e w_ => ∃ (c_ : Nat → Nat) (A0_ : Option Addr) (C0_ : Nat) (A2_ : Option Addr) (C2_ : Nat), e = .returned (.tuple #[.agg #[.int .i64 r.1.Client, .int .i64 r.1.Seq, .bool r.1.Answer.Done, .slice A0_ r.1.Answer.Key.length C0_, .slice A2_ r.1.Answer.Value.length C2_, .int .i64 r.1.Answer.Rev, .int .i64 r.1.Answer.At], .bool r.2.1]) ∧ Ev (fun x => (x = j4)) c0 w0 c_ w_ ∧ CB m c_ w_ ∧ SL false (Kint .u8) 0 0 c_ w_ A0_ C0_ r.1.Answer.Key ∧ SL false (Kint .u8) 0 0 c_ w_ A2_ C2_ r.1.Answer.Value ∧ RD j4 c_ w_ p2 r.2.2) := by
 unfold shard_readSeat.f at H
 have B := B0.mono (show m ≤ m + 3 by omega)
 have E : Ev (fun x => (x = j4) ∨ m ≤ x) c0 w0 c0 w0 := Ev.refl
 refine enter (N := 82) (l := [.pointer p2, .int .i64 a5]) Tryz.func68 rfl rfl (nb rfl) fun a F => ?_
 refine wp_seq_k fun K6 hK6 => reg ?_
 refine q_eff F rfl rfl (by decide) (e_alloc F zv_60 c0 (m + 1)) ?_
 rintro v w8 a ⟨c7, qa9, rfl, E10, h11, B12⟩ F
 replace B := B12 _ B lm
 replace h3 := h3.ev E10 nq nq
 replace E := E.trans E10 nx
 replace h11 : AT true (m + 1) c7 w8 qa9 [.int .i64 0, .int .i64 0, .bool false, .slice none 0 0, .slice none 0 0, .int .i64 0, .int .i64 0] := h11
 refine qa F fun a F => ?_
 refine nil (hK6 _ _ ?_)
 refine wp_seq_k fun K14 hK14 => reg ?_
 refine qm F fun a F => ?_
 obtain ⟨t15, q16, H⟩ := bind_some H
 refine qc F Tryz.func122 (shard_number.calls (m := m + 3) (pl hm0) B h3 ⟨bj4.1, (Nat.lt_add_right _ bj4.2)⟩ _ q16) ?_
 rintro e w18 ⟨c17, rfl, E19, B20, h21⟩
 refine ⟨_, rfl, fun a F => ?_⟩
 have B := B20
 replace h11 := h11.ev E19 (ne_mp bj4.2)
 replace E := E.trans E19 (fun x (q : x = j4) => Or.inl (q))
 refine qm F fun a F => ?_
 obtain ⟨t23, q24, H⟩ := bind_some H
 refine qc F Tryz.func122 (shard_number.calls (m := m + 3) (pl hm0) B h21 ⟨bj4.1, (Nat.lt_add_right _ bj4.2)⟩ _ q24) ?_
 rintro e w26 ⟨c25, rfl, E27, B28, h29⟩
 refine ⟨_, rfl, fun a F => ?_⟩
 have B := B28
 replace h11 := h11.ev E27 (ne_mp bj4.2)
 replace E := E.trans E27 (fun x (q : x = j4) => Or.inl (q))
 refine qf F ff_60_0 fun a F => ?_
 refine q_eff0 F rfl rfl (e_store F rfl rfl sz_3 h11 (nb rfl) rfl) ?_
 rintro w31 a ⟨E32, h11, Z33⟩ F
 replace B := B.size Z33
 replace h29 := h29.ev E32 (ne_pm bj4.2) ne_zm
 replace E := E.trans E32 lc1
 replace h11 : AT true (m + 1) c25 w31 qa9 [.int .i64 t15.1, .int .i64 0, .bool false, .slice none 0 0, .slice none 0 0, .int .i64 0, .int .i64 0] := h11
 refine qf F ff_60_1 fun a F => ?_
 refine q_eff0 F rfl rfl (e_store F rfl rfl sz_3 h11 (nb rfl) rfl) ?_
 rintro w34 a ⟨E35, h11, Z36⟩ F
 replace B := B.size Z36
 replace h29 := h29.ev E35 (ne_pm bj4.2) ne_zm
 replace E := E.trans E35 lc1
 replace h11 : AT true (m + 1) c25 w34 qa9 [.int .i64 t15.1, .int .i64 t23.1, .bool false, .slice none 0 0, .slice none 0 0, .int .i64 0, .int .i64 0] := h11
 refine nil (hK14 _ _ ?_)
 refine wp_seq_k fun K37 hK37 => reg ?_
 refine qm F fun a F => ?_
 obtain ⟨t38, q39, H⟩ := bind_some H
 refine qc F Tryz.func123 (parcel_Reader_Byte.calls (m := m + 3) (pl hm0) B h29 (by omega) _ q39) ?_
 rintro e w41 ⟨c40, rfl, E42, B43, h44⟩
 refine ⟨_, rfl, fun a F => ?_⟩
 have B := B43
 replace h11 := h11.ev E42 (ne_mp bj4.2)
 replace E := E.trans E42 (fun x (q : x = j4) => Or.inl (q))
 refine qa F fun a F => ?_
 refine nil (hK37 _ _ ?_)
 replace F : Fr a 82 [(0, .pointer p2), (1, .int .i64 a5), (4, .pointer (some qa9)), (6, .int .i64 t38.1)] := F.sub ⟨rfl, rfl, rfl, rfl, trivial⟩
 refine wp_seq_k fun K46 hK46 => reg ?_
 refine qm F fun a F => ?_
 refine qv F (r_eql F rfl rfl) fun a F => ?_
 refine qm F fun a F => ?_
 obtain ⟨t47, q48, H⟩ := bind_some H
 refine qc F Tryz.func66 (parcel_Reader_Text.calls (m := m + 3) (pl hm0) B h44 (by omega) 0 (pl hm0) _ q48) ?_
 rintro e w50 ⟨c49, A53, C54, rfl, E51, B52, h55, h56⟩
 refine ⟨_, rfl, fun a F => ?_⟩
 have B := B52
 replace h11 := h11.ev E51 (ne_mp bj4.2)
 replace E := E.trans E51 (fun x (q : x = j4) => Or.inl (q))
 refine qm F fun a F => ?_
 obtain ⟨t58, q59, H⟩ := bind_some H
 refine qc F Tryz.func66 (parcel_Reader_Text.calls (m := m + 3) (pl hm0) B h56 (by omega) 0 (pl hm0) _ q59) ?_
 rintro e w61 ⟨c60, A64, C65, rfl, E62, B63, h66, h67⟩
 refine ⟨_, rfl, fun a F => ?_⟩
 have B := B63
 replace h11 := h11.ev E62 (ne_mp bj4.2)
 replace h55 := h55.ev E62 (ne_z bj4.1) (ne_z bj4.1)
 replace E := E.trans E62 (fun x (q : x = j4) => Or.inl (q))
 refine qv F (r_build (v := .agg #[.bool (decide (t38.1 = 1)), .slice A53 t47.1.length C54, .slice A64 t58.1.length C65, .int .i64 0, .int .i64 0]) F [(0, .bool (decide (t38.1 = 1))), (1, .slice A53 t47.1.length C54), (2, .slice A64 t58.1.length C65)] (by exact ⟨rfl, rfl, rfl, rfl, rfl, rfl, trivial⟩) (fun w => by kernel_rfl)) fun a F => ?_
 refine q_eff F rfl rfl (by decide) (e_alloc F zv_32 c60 (m + 2)) ?_
 rintro v w70 a ⟨c69, qa71, rfl, E72, h73, B74⟩ F
 replace B := B74 _ B lm
 replace h11 := h11.ev E72 nq
 replace h55 := h55.ev E72 nq nq
 replace h66 := h66.ev E72 nq nq
 replace h67 := h67.ev E72 nq nq
 replace E := E.trans E72 nx
 replace h73 : AT true (m + 2) c69 w70 qa71 [.bool false, .slice none 0 0, .slice none 0 0, .int .i64 0, .int .i64 0] := h73
 refine q_eff0 F rfl rfl (e_storeN0 (us := [.bool (decide (t38.1 = 1)), .slice A53 t47.1.length C54, .slice A64 t58.1.length C65, .int .i64 0, .int .i64 0]) F rfl rfl sz_32 h73 (nb rfl) (one_all rfl)) ?_
 rintro w76 a ⟨E77, h73, Z78⟩ F
 replace B := B.size Z78
 replace h11 := h11.ev E77 mm
 replace h55 := h55.ev E77 ne_zm ne_zm
 replace h66 := h66.ev E77 ne_zm ne_zm
 replace h67 := h67.ev E77 (ne_pm bj4.2) ne_zm
 replace E := E.trans E77 lc1
 replace h73 : AT true (m + 2) c69 w76 qa71 [.bool (decide (t38.1 = 1)), .slice A53 t47.1.length C54, .slice A64 t58.1.length C65, .int .i64 0, .int .i64 0] := h73
 refine nil (hK46 _ _ ?_)
 refine wp_seq_k fun K79 hK79 => reg ?_
 refine qm F fun a F => ?_
 obtain ⟨t80, q81, H⟩ := bind_some H
 refine qc F Tryz.func122 (shard_number.calls (m := m + 3) (pl hm0) B h67 ⟨bj4.1, (Nat.lt_add_right _ bj4.2)⟩ _ q81) ?_
 rintro e w83 ⟨c82, rfl, E84, B85, h86⟩
 refine ⟨_, rfl, fun a F => ?_⟩
 have B := B85
 replace h11 := h11.ev E84 (ne_mp bj4.2)
 replace h55 := h55.ev E84 (ne_z bj4.1) (ne_z bj4.1)
 replace h66 := h66.ev E84 (ne_z bj4.1) (ne_z bj4.1)
 replace h73 := h73.ev E84 (ne_mp bj4.2)
 replace E := E.trans E84 (fun x (q : x = j4) => Or.inl (q))
 refine qm F fun a F => ?_
 obtain ⟨t88, q89, H⟩ := bind_some H
 refine qc F Tryz.func122 (shard_number.calls (m := m + 3) (pl hm0) B h86 ⟨bj4.1, (Nat.lt_add_right _ bj4.2)⟩ _ q89) ?_
 rintro e w91 ⟨c90, rfl, E92, B93, h94⟩
 refine ⟨_, rfl, fun a F => ?_⟩
 have B := B93
 replace h11 := h11.ev E92 (ne_mp bj4.2)
 replace h55 := h55.ev E92 (ne_z bj4.1) (ne_z bj4.1)
 replace h66 := h66.ev E92 (ne_z bj4.1) (ne_z bj4.1)
 replace h73 := h73.ev E92 (ne_mp bj4.2)
 replace E := E.trans E92 (fun x (q : x = j4) => Or.inl (q))
 refine qf F ff_32_3 fun a F => ?_
 refine q_eff0 F rfl rfl (e_store F rfl rfl sz_3 h73 (nb rfl) rfl) ?_
 rintro w96 a ⟨E97, h73, Z98⟩ F
 replace B := B.size Z98
 replace h11 := h11.ev E97 mm
 replace h55 := h55.ev E97 ne_zm ne_zm
 replace h66 := h66.ev E97 ne_zm ne_zm
 replace h94 := h94.ev E97 (ne_pm bj4.2) ne_zm
 replace E := E.trans E97 lc1
 replace h73 : AT true (m + 2) c90 w96 qa71 [.bool (decide (t38.1 = 1)), .slice A53 t47.1.length C54, .slice A64 t58.1.length C65, .int .i64 t80.1, .int .i64 0] := h73
 refine qf F ff_32_4 fun a F => ?_
 refine q_eff0 F rfl rfl (e_store F rfl rfl sz_3 h73 (nb rfl) rfl) ?_
 rintro w99 a ⟨E100, h73, Z101⟩ F
 replace B := B.size Z101
 replace h11 := h11.ev E100 mm
 replace h55 := h55.ev E100 ne_zm ne_zm
 replace h66 := h66.ev E100 ne_zm ne_zm
 replace h94 := h94.ev E100 (ne_pm bj4.2) ne_zm
 replace E := E.trans E100 lc1
 replace h73 : AT true (m + 2) c90 w99 qa71 [.bool (decide (t38.1 = 1)), .slice A53 t47.1.length C54, .slice A64 t58.1.length C65, .int .i64 t80.1, .int .i64 t88.1] := h73
 refine nil (hK79 _ _ ?_)
 replace F : Fr a 82 [(1, .int .i64 a5), (4, .pointer (some qa9)), (6, .int .i64 t38.1), (7, .pointer (some qa71))] := F.sub ⟨rfl, rfl, rfl, rfl, trivial⟩
 refine wp_seq_k fun K102 hK102 => reg ?_
 refine qv F (r_loads (cs := [.bool (decide (t38.1 = 1)), .slice A53 t47.1.length C54, .slice A64 t58.1.length C65, .int .i64 t80.1, .int .i64 t88.1]) F rfl ag_32 sz_32 h73) fun a F => ?_
 refine qf F ff_60_2 fun a F => ?_
 refine q_eff0 F rfl rfl (e_storeN (us := [.bool (decide (t38.1 = 1)), .slice A53 t47.1.length C54, .slice A64 t58.1.length C65, .int .i64 t80.1, .int .i64 t88.1]) F rfl rfl sz_32 h11 (nb rfl) (one_all rfl)) ?_
 rintro w103 a ⟨E104, h11, Z105⟩ F
 replace B := B.size Z105
 replace h55 := h55.ev E104 ne_zm ne_zm
 replace h66 := h66.ev E104 ne_zm ne_zm
 replace h73 := h73.ev E104 mm
 replace h94 := h94.ev E104 (ne_pm bj4.2) ne_zm
 replace E := E.trans E104 lc1
 replace h11 : AT true (m + 1) c90 w103 qa9 [.int .i64 t15.1, .int .i64 t23.1, .bool (decide (t38.1 = 1)), .slice A53 t47.1.length C54, .slice A64 t58.1.length C65, .int .i64 t80.1, .int .i64 t88.1] := h11
 refine nil (hK102 _ _ ?_)
 refine wp_seq_k fun K106 hK106 => ?_
 refine wp_block ?_
 refine wp_seq_k fun K107 hK107 => ?_
 have J117 : ∀ (c118 : Nat → Nat) (w119 : World) (a : Act) (b116 : Bool), Fr a 82 [(1, .int .i64 a5), (4, .pointer (some qa9)), (7, .pointer (some qa71)), (32, .bool b116)] → Ev (fun x => (x = j4) ∨ m ≤ x) c0 w0 c118 w119 → CB (m + 3) c118 w119 → AT true (m + 1) c118 w119 qa9 [.int .i64 t15.1, .int .i64 t23.1, .bool (decide (t38.1 = 1)), .slice A53 t47.1.length C54, .slice A64 t58.1.length C65, .int .i64 t80.1, .int .i64 t88.1] → AT true (m + 2) c118 w119 qa71 [.bool (decide (t38.1 = 1)), .slice A53 t47.1.length C54, .slice A64 t58.1.length C65, .int .i64 t80.1, .int .i64 t88.1] → SL true (Kint .u8) 0 0 c118 w119 A53 C54 t47.1 → SL true (Kint .u8) 0 0 c118 w119 A64 C65 t58.1 → RD j4 c118 w119 p2 t88.2 → shard_readSeat.j1 a5 t15 t23 t38 t47 t58 t80 t88 b116 = some r → K107 a w119 := by
  intro c118 w119 a b116 F E B h11 h73 h55 h66 h94 H
  unfold shard_readSeat.j1 at H
  refine hK107 _ _ ?_
  by_cases hb120 : b116 = true
  ·replace H := ip hb120 H
   refine wp_cond_true (fb F hb120) (wp_skip (hK106 _ _ ?_))
   refine wp_seq_k fun K142 hK142 => reg ?_
   refine qv F (r_loads (cs := [.int .i64 t15.1, .int .i64 t23.1, .bool (decide (t38.1 = 1)), .slice A53 t47.1.length C54, .slice A64 t58.1.length C65, .int .i64 t80.1, .int .i64 t88.1]) F rfl ag_60 sz_60 h11) fun a F => ?_
   refine q_eff0 F rfl rfl (e_storeN0 (us := [.int .i64 t15.1, .int .i64 t23.1, .bool (decide (t38.1 = 1)), .slice A53 t47.1.length C54, .slice A64 t58.1.length C65, .int .i64 t80.1, .int .i64 t88.1]) F rfl rfl sz_60 h11 (nb rfl) (one_all rfl)) ?_
   rintro w143 a ⟨E144, h11, Z145⟩ F
   replace B := B.size Z145
   replace h55 := h55.ev E144 ne_zm ne_zm
   replace h66 := h66.ev E144 ne_zm ne_zm
   replace h94 := h94.ev E144 (ne_pm bj4.2) ne_zm
   replace E := E.trans E144 lc1
   replace h11 : AT true (m + 1) c118 w143 qa9 [.int .i64 t15.1, .int .i64 t23.1, .bool (decide (t38.1 = 1)), .slice A53 t47.1.length C54, .slice A64 t58.1.length C65, .int .i64 t80.1, .int .i64 t88.1] := h11
   refine qa F fun a F => ?_
   refine nil (hK142 _ _ ?_)
   refine wp_ret ?_
   replace H := si H
   subst H
   refine outR2 F rfl ⟨_, rfl, lv_agg (cs := [.int .i64 t15.1, .int .i64 t23.1, .bool (decide (t38.1 = 1)), .slice A53 t47.1.length C54, .slice A64 t58.1.length C65, .int .i64 t80.1, .int .i64 t88.1]) ag_60 sz_60 h11⟩ rfl ?_
   exact ⟨cf (fun x_ => if x_ < m then x_ else 0) c118, A53, C54, A64, C65, rfl, E.lv B0, cfb, SL.rc h55.r cfk cfk, SL.rc h66.r cfk cfk, RD.rc h94 cfk cfk⟩
  replace H := im hb120 H
  refine wp_cond_false (fb F (bfalse hb120)) ?_
  refine wp_seq_k fun K121 hK121 => ?_
  have J134 : ∀ (c135 : Nat → Nat) (w136 : World) (a : Act) (b133 : Bool), Fr a 82 [(4, .pointer (some qa9)), (47, .bool b133)] → Ev (fun x => (x = j4) ∨ m ≤ x) c0 w0 c135 w136 → CB (m + 3) c135 w136 → AT true (m + 1) c135 w136 qa9 [.int .i64 t15.1, .int .i64 t23.1, .bool (decide (t38.1 = 1)), .slice A53 t47.1.length C54, .slice A64 t58.1.length C65, .int .i64 t80.1, .int .i64 t88.1] → SL true (Kint .u8) 0 0 c135 w136 A53 C54 t47.1 → SL true (Kint .u8) 0 0 c135 w136 A64 C65 t58.1 → RD j4 c135 w136 p2 t88.2 → shard_readSeat.j2 t15 t23 t38 t47 t58 t80 t88 b133 = some r → K121 a w136 := by
   intro c135 w136 a b133 F E B h11 h55 h66 h94 H
   unfold shard_readSeat.j2 at H
   refine hK121 _ _ ?_
   by_cases hb137 : b133 = true
   ·replace H := ip hb137 H
    refine wp_cond_true (fb F hb137) (wp_skip (hK106 _ _ ?_))
    refine wp_seq_k fun K146 hK146 => reg ?_
    refine qv F (r_loads (cs := [.int .i64 t15.1, .int .i64 t23.1, .bool (decide (t38.1 = 1)), .slice A53 t47.1.length C54, .slice A64 t58.1.length C65, .int .i64 t80.1, .int .i64 t88.1]) F rfl ag_60 sz_60 h11) fun a F => ?_
    refine q_eff0 F rfl rfl (e_storeN0 (us := [.int .i64 t15.1, .int .i64 t23.1, .bool (decide (t38.1 = 1)), .slice A53 t47.1.length C54, .slice A64 t58.1.length C65, .int .i64 t80.1, .int .i64 t88.1]) F rfl rfl sz_60 h11 (nb rfl) (one_all rfl)) ?_
    rintro w147 a ⟨E148, h11, Z149⟩ F
    replace B := B.size Z149
    replace h55 := h55.ev E148 ne_zm ne_zm
    replace h66 := h66.ev E148 ne_zm ne_zm
    replace h94 := h94.ev E148 (ne_pm bj4.2) ne_zm
    replace E := E.trans E148 lc1
    replace h11 : AT true (m + 1) c135 w147 qa9 [.int .i64 t15.1, .int .i64 t23.1, .bool (decide (t38.1 = 1)), .slice A53 t47.1.length C54, .slice A64 t58.1.length C65, .int .i64 t80.1, .int .i64 t88.1] := h11
    refine qa F fun a F => ?_
    refine nil (hK146 _ _ ?_)
    refine wp_ret ?_
    replace H := si H
    subst H
    refine outR2 F rfl ⟨_, rfl, lv_agg (cs := [.int .i64 t15.1, .int .i64 t23.1, .bool (decide (t38.1 = 1)), .slice A53 t47.1.length C54, .slice A64 t58.1.length C65, .int .i64 t80.1, .int .i64 t88.1]) ag_60 sz_60 h11⟩ rfl ?_
    exact ⟨cf (fun x_ => if x_ < m then x_ else 0) c135, A53, C54, A64, C65, rfl, E.lv B0, cfb, SL.rc h55.r cfk cfk, SL.rc h66.r cfk cfk, RD.rc h94 cfk cfk⟩
   replace H := im hb137 H
   refine wp_cond_false (fb F (bfalse hb137)) ?_
   refine wp_seq_k fun K138 hK138 => reg ?_
   refine qv F (r_loads (cs := [.int .i64 t15.1, .int .i64 t23.1, .bool (decide (t38.1 = 1)), .slice A53 t47.1.length C54, .slice A64 t58.1.length C65, .int .i64 t80.1, .int .i64 t88.1]) F rfl ag_60 sz_60 h11) fun a F => ?_
   refine q_eff0 F rfl rfl (e_storeN0 (us := [.int .i64 t15.1, .int .i64 t23.1, .bool (decide (t38.1 = 1)), .slice A53 t47.1.length C54, .slice A64 t58.1.length C65, .int .i64 t80.1, .int .i64 t88.1]) F rfl rfl sz_60 h11 (nb rfl) (one_all rfl)) ?_
   rintro w139 a ⟨E140, h11, Z141⟩ F
   replace B := B.size Z141
   replace h55 := h55.ev E140 ne_zm ne_zm
   replace h66 := h66.ev E140 ne_zm ne_zm
   replace h94 := h94.ev E140 (ne_pm bj4.2) ne_zm
   replace E := E.trans E140 lc1
   replace h11 : AT true (m + 1) c135 w139 qa9 [.int .i64 t15.1, .int .i64 t23.1, .bool (decide (t38.1 = 1)), .slice A53 t47.1.length C54, .slice A64 t58.1.length C65, .int .i64 t80.1, .int .i64 t88.1] := h11
   refine qa F fun a F => ?_
   refine nil (hK138 _ _ ?_)
   refine wp_ret ?_
   refine inbR ?_
   refine thenR ?_
   replace H := si H
   subst H
   refine outR2 F rfl ⟨_, rfl, lv_agg (cs := [.int .i64 t15.1, .int .i64 t23.1, .bool (decide (t38.1 = 1)), .slice A53 t47.1.length C54, .slice A64 t58.1.length C65, .int .i64 t80.1, .int .i64 t88.1]) ag_60 sz_60 h11⟩ rfl ?_
   exact ⟨cf (fun x_ => if x_ < m then x_ else 0) c135, A53, C54, A64, C65, rfl, E.lv B0, cfb, SL.rc h55.r cfk cfk, SL.rc h66.r cfk cfk, RD.rc h94 cfk cfk⟩
  refine wp_seq_k fun K122 hK122 => reg ?_
  refine qf F ff_32_4 fun a F => ?_
  refine qv F (r_load F rfl ag_3 (AT.cell h73 rfl)) fun a F => ?_
  refine qv F (r_lss F rfl rfl) fun a F => ?_
  refine qa F fun a F => ?_
  refine nil (hK122 _ _ ?_)
  by_cases hb123 : t88.1 < 1
  ·replace H := ip hb123 H
   refine wp_cond_true (fb F (dt hb123)) ?_
   refine wp_skip ?_
   exact J134 c118 w119 a (decide (t88.1 < 1)) (F.sub ⟨rfl, rfl, trivial⟩) E B h11 h55 h66 h94 H
  replace H := im hb123 H
  refine wp_cond_false (fb F (dz hb123)) ?_
  refine wp_seq_k fun K124 hK124 => reg ?_
  refine qf F ff_32_4 fun a F => ?_
  refine qv F (r_load F rfl ag_3 (AT.cell h73 rfl)) fun a F => ?_
  refine qm F fun a F => ?_
  refine qv F (r_gtr F rfl rfl) fun a F => ?_
  refine qa F fun a F => ?_
  refine nil (hK124 _ _ ?_)
  replace F : Fr a 82 [(4, .pointer (some qa9)), (7, .pointer (some qa71)), (47, .bool (decide (a5 < t88.1)))] := F.sub ⟨rfl, rfl, rfl, trivial⟩
  by_cases hb125 : a5 < t88.1
  ·replace H := ip hb125 H
   refine wp_cond_true (fb F (dt hb125)) ?_
   refine wp_skip ?_
   exact J134 c118 w119 a (decide (a5 < t88.1)) (F.sub ⟨rfl, rfl, trivial⟩) E B h11 h55 h66 h94 H
  replace H := im hb125 H
  refine wp_cond_false (fb F (dz hb125)) ?_
  refine wp_seq_k fun K126 hK126 => reg ?_
  refine qf F ff_32_3 fun a F => ?_
  refine qv F (r_load F rfl ag_3 (AT.cell h73 rfl)) fun a F => ?_
  refine qv F (r_lss F rfl rfl) fun a F => ?_
  refine qa F fun a F => ?_
  refine nil (hK126 _ _ ?_)
  by_cases hb127 : t80.1 < 0
  ·replace H := ip hb127 H
   refine wp_cond_true (fb F (dt hb127)) ?_
   refine wp_skip ?_
   exact J134 c118 w119 a (decide (t80.1 < 0)) (F.sub ⟨rfl, rfl, trivial⟩) E B h11 h55 h66 h94 H
  replace H := im hb127 H
  refine wp_cond_false (fb F (dz hb127)) ?_
  refine wp_seq_k fun K128 hK128 => reg ?_
  refine qf F ff_32_3 fun a F => ?_
  refine qv F (r_load F rfl ag_3 (AT.cell h73 rfl)) fun a F => ?_
  refine qf F ff_32_4 fun a F => ?_
  refine qv F (r_load F rfl ag_3 (AT.cell h73 rfl)) fun a F => ?_
  refine qv F (r_geq F rfl rfl) fun a F => ?_
  refine qa F fun a F => ?_
  refine nil (hK128 _ _ ?_)
  replace F : Fr a 82 [(4, .pointer (some qa9)), (7, .pointer (some qa71)), (47, .bool (decide (t88.1 ≤ t80.1)))] := F.sub ⟨rfl, rfl, rfl, trivial⟩
  by_cases hb129 : t88.1 ≤ t80.1
  ·replace H := ip hb129 H
   refine wp_cond_true (fb F (dt hb129)) ?_
   refine wp_skip ?_
   exact J134 c118 w119 a (decide (t88.1 ≤ t80.1)) (F.sub ⟨rfl, rfl, trivial⟩) E B h11 h55 h66 h94 H
  replace H := im hb129 H
  refine wp_cond_false (fb F (dz hb129)) ?_
  refine wp_seq_k fun K130 hK130 => reg ?_
  refine qf F ff_32_1 fun a F => ?_
  refine qv F (r_load F rfl ag_27 (AT.cell h73 rfl)) fun a F => ?_
  refine qv F (r_lensl F Tryz.underlying27 rfl) fun a F => ?_
  refine qv F (r_eql F rfl rfl) fun a F => ?_
  refine qf F ff_32_3 fun a F => ?_
  refine qv F (r_load F rfl ag_3 (AT.cell h73 rfl)) fun a F => ?_
  refine qv F (r_eql F rfl rfl) fun a F => ?_
  refine qv F (r_bneq F Tryz.underlying4 rfl rfl) fun a F => ?_
  refine qa F fun a F => ?_
  refine nil (hK130 _ _ ?_)
  replace F : Fr a 82 [(4, .pointer (some qa9)), (7, .pointer (some qa71)), (47, .bool (!((decide ((t47.1.length : Int) = 0)) == (decide (t80.1 = 0)))))] := F.sub ⟨rfl, rfl, rfl, trivial⟩
  by_cases hb131 : ((decide ((t47.1.length : Int) = 0)) == (decide (t80.1 = 0))) = true
  ·replace H := ip hb131 H
   refine wp_cond_false (fb F (congrArg not hb131)) ?_
   refine reg ?_
   refine qf F ff_32_1 fun a F => ?_
   refine qv F (r_load F rfl ag_27 (AT.cell h73 rfl)) fun a F => ?_
   refine qv F (r_lensl F Tryz.underlying27 rfl) fun a F => ?_
   refine qv F (r_eql F rfl rfl) fun a F => ?_
   refine qm F fun a F => ?_
   by_cases hb132 : (t47.1.length : Int) = 0
   ·replace H := ip hb132 H
    refine qy F (dt hb132) ?_
    refine qf F ff_32_2 fun a F => ?_
    refine qy F (dt hb132) ?_
    refine qv F (r_load F rfl ag_27 (AT.cell h73 rfl)) fun a F => ?_
    refine qy F (dt hb132) ?_
    refine qv F (r_lensl F Tryz.underlying27 rfl) fun a F => ?_
    refine qy F (dt hb132) ?_
    refine qv F (r_gtr F rfl rfl) fun a F => ?_
    refine qv F (r_pick_t F rfl (dt hb132) rfl) fun a F => ?_
    refine qa F fun a F => ?_
    refine nil ?_
    exact J134 c118 w119 a (decide (0 < (t58.1.length : Int))) (F.sub ⟨rfl, rfl, trivial⟩) E B h11 h55 h66 h94 H
   replace H := im hb132 H
   refine qn F (dz hb132) fun a F => ?_
   refine qn F (dz hb132) fun a F => ?_
   refine qn F (dz hb132) fun a F => ?_
   refine qn F (dz hb132) fun a F => ?_
   refine qv F (r_pick_f F rfl (dz hb132) rfl) fun a F => ?_
   refine qa F fun a F => ?_
   refine nil ?_
   exact J134 c118 w119 a false (F.sub ⟨rfl, rfl, trivial⟩) E B h11 h55 h66 h94 H
  replace H := im hb131 H
  refine wp_cond_true (fb F (congrArg not (bfalse hb131))) ?_
  refine wp_skip ?_
  exact J134 c118 w119 a (!((decide ((t47.1.length : Int) = 0)) == (decide (t80.1 = 0)))) (F.sub ⟨rfl, rfl, trivial⟩) E B h11 h55 h66 h94 H
 refine wp_seq_k fun K108 hK108 => reg ?_
 refine qf F ff_60_0 fun a F => ?_
 refine qv F (r_load F rfl ag_3 (AT.cell h11 rfl)) fun a F => ?_
 refine qv F (r_lss F rfl rfl) fun a F => ?_
 refine qa F fun a F => ?_
 refine nil (hK108 _ _ ?_)
 by_cases hb109 : t15.1 < 0
 ·replace H := ip hb109 H
  refine wp_cond_true (fb F (dt hb109)) ?_
  refine wp_skip ?_
  exact J117 c90 w103 a (decide (t15.1 < 0)) (F.sub ⟨rfl, rfl, rfl, rfl, trivial⟩) E B h11 h73 h55 h66 h94 H
 replace H := im hb109 H
 refine wp_cond_false (fb F (dz hb109)) ?_
 refine wp_seq_k fun K110 hK110 => reg ?_
 refine qf F ff_60_0 fun a F => ?_
 refine qv F (r_load F rfl ag_3 (AT.cell h11 rfl)) fun a F => ?_
 refine qv F (r_geq F rfl rfl) fun a F => ?_
 refine qa F fun a F => ?_
 refine nil (hK110 _ _ ?_)
 replace F : Fr a 82 [(1, .int .i64 a5), (4, .pointer (some qa9)), (6, .int .i64 t38.1), (7, .pointer (some qa71)), (32, .bool (decide (16 ≤ t15.1)))] := F.sub ⟨rfl, rfl, rfl, rfl, rfl, trivial⟩
 by_cases hb111 : 16 ≤ t15.1
 ·replace H := ip hb111 H
  refine wp_cond_true (fb F (dt hb111)) ?_
  refine wp_skip ?_
  exact J117 c90 w103 a (decide (16 ≤ t15.1)) (F.sub ⟨rfl, rfl, rfl, rfl, trivial⟩) E B h11 h73 h55 h66 h94 H
 replace H := im hb111 H
 refine wp_cond_false (fb F (dz hb111)) ?_
 refine wp_seq_k fun K112 hK112 => reg ?_
 refine qf F ff_60_1 fun a F => ?_
 refine qv F (r_load F rfl ag_3 (AT.cell h11 rfl)) fun a F => ?_
 refine qv F (r_lss F rfl rfl) fun a F => ?_
 refine qa F fun a F => ?_
 refine nil (hK112 _ _ ?_)
 by_cases hb113 : t23.1 < 1
 ·replace H := ip hb113 H
  refine wp_cond_true (fb F (dt hb113)) ?_
  refine wp_skip ?_
  exact J117 c90 w103 a (decide (t23.1 < 1)) (F.sub ⟨rfl, rfl, rfl, rfl, trivial⟩) E B h11 h73 h55 h66 h94 H
 replace H := im hb113 H
 refine wp_cond_false (fb F (dz hb113)) ?_
 refine wp_seq_k fun K114 hK114 => reg ?_
 refine qf F ff_60_1 fun a F => ?_
 refine qv F (r_load F rfl ag_3 (AT.cell h11 rfl)) fun a F => ?_
 refine qv F (r_gtr F rfl rfl) fun a F => ?_
 refine qa F fun a F => ?_
 refine nil (hK114 _ _ ?_)
 by_cases hb115 : 1073741824 < t23.1
 ·replace H := ip hb115 H
  refine wp_cond_true (fb F (dt hb115)) ?_
  refine wp_skip ?_
  exact J117 c90 w103 a (decide (1073741824 < t23.1)) (F.sub ⟨rfl, rfl, rfl, rfl, trivial⟩) E B h11 h73 h55 h66 h94 H
 replace H := im hb115 H
 refine wp_cond_false (fb F (dz hb115)) ?_
 refine reg ?_
 refine qm F fun a F => ?_
 refine qv F (r_gtr F rfl rfl) fun a F => ?_
 refine qa F fun a F => ?_
 refine nil ?_
 exact J117 c90 w103 a (decide (1 < t38.1)) (F.sub ⟨rfl, rfl, rfl, rfl, trivial⟩) E B h11 h73 h55 h66 h94 H
theorem table_Read.calls (k : Nat) {m : Nat} {c0 : Nat → Nat} {w0 : World} {j5 : Nat} {A2 : Option Addr} {C3 : Nat} {a1 : List Int} (hm0 : 0 < m) (B0 : CB m c0 w0) (h4 : SL false (Kint .u8) j5 0 c0 w0 A2 C3 a1) (bj5 : j5 < m) (jr533 : Nat) (bjr533 : jr533 < m) (r : (Option Tab) × Int) (H : table_Read.f k a1 = some r) : Calls Tryz.prog 65 #[.slice A2 a1.length C3] w0 (fun e w_ => ∃ (c_ : Nat → Nat) (P0_ : Option Addr), e = .returned (.tuple #[.pointer P0_, .int .i64 r.2]) ∧ Ev (fun x => False) c0 w0 c_ w_ ∧ CB m c_ w_ ∧ TB jr533 c_ w_ P0_ r.1) := by
 unfold table_Read.f at H
 have B := B0.mono (show m ≤ m + 5 by omega)
 have E : Ev (fun x => False ∨ m ≤ x) c0 w0 c0 w0 := Ev.refl
 refine enter (N := 81) (l := [.slice A2 a1.length C3]) Tryz.func65 rfl rfl (nb rfl) fun a F => ?_
 refine wp_seq_k fun K6 hK6 => reg ?_
 refine qa F fun a F => ?_
 refine qa F fun a F => ?_
 refine nil (hK6 _ _ ?_)
 refine wp_seq_k fun K7 hK7 => reg ?_
 refine qm F fun a F => ?_
 obtain ⟨t8, q9, H⟩ := bind_some H
 refine qc F Tryz.func64 (parcel_Read.calls (m := m + 5) (pl hm0) B h4 (by omega) (m + 1) lm _ q9) ?_
 rintro e w11 ⟨c10, p14, rfl, E12, B13, h15⟩
 refine ⟨_, rfl, fun a F => ?_⟩
 have B := B13
 replace E := E.trans E12 nx
 refine qa F fun a F => ?_
 refine nil (hK7 _ _ ?_)
 refine wp_seq_k fun K17 hK17 => reg ?_
 refine qm F fun a F => ?_
 obtain ⟨t18, q19, H⟩ := bind_some H
 as_aux_lemma =>
 refine qc F Tryz.func67 (parcel_Reader_Num.calls (m := m + 5) (pl hm0) B h15 (by omega) _ q19) ?_
 rintro e w21 ⟨c20, rfl, E22, B23, h24⟩
 refine ⟨_, rfl, fun a F => ?_⟩
 have B := B23
 replace E := E.trans E22 lc1
 refine qm F fun a F => ?_
 obtain ⟨t26, q27, H⟩ := bind_some H
 refine qc F Tryz.func67 (parcel_Reader_Num.calls (m := m + 5) (pl hm0) B h24 (by omega) _ q27) ?_
 rintro e w29 ⟨c28, rfl, E30, B31, h32⟩
 refine ⟨_, rfl, fun a F => ?_⟩
 have B := B31
 replace E := E.trans E30 lc1
 refine qa F fun a F => ?_
 refine qa F fun a F => ?_
 refine nil (hK17 _ _ ?_)
 replace F : Fr a 81 [(4, .pointer p14), (5, .int .u64 t18.1), (6, .int .u64 t26.1)] := F.sub ⟨rfl, rfl, rfl, trivial⟩
 refine wp_seq_k fun K34 hK34 => reg ?_
 obtain ⟨t35, q36, H⟩ := bind_some H
 refine qc F Tryz.func40 (table_New.calls (m := m + 5) (pl hm0) B (m + 2) lm _ q36) ?_
 rintro e w38 ⟨c37, p41, rfl, E39, B40, h42⟩
 refine ⟨_, rfl, fun a F => ?_⟩
 have B := B40
 as_aux_lemma =>
 replace h32 := h32.ev E39 nq nq
 replace E := E.trans E39 nx
 refine qa F fun a F => ?_
 refine nil (hK34 _ _ ?_)
 refine wp_seq_k fun K44 hK44 => reg ?_
 refine qm F fun a F => ?_
 refine qm F fun a F => ?_
 refine qv F (r_min F rfl rfl) fun a F => ?_
 refine qv F (r_convi F Tryz.underlying3 rfl rfl) fun a F => ?_
 obtain ⟨ob45, e46, H⟩ := bind_some H
 have z47 := h42
 rw [e46] at z47
 obtain ⟨ad48, p50, rfl, hat49, h51⟩ := TB.some z47
 refine qv F (r_nil F rfl) fun a F => ?_
 refine qf F ff_135_1 fun a F => ?_
 refine q_eff0 F rfl rfl (e_store F rfl rfl sz_3 hat49 (nb rfl) rfl) ?_
 rintro w53 a ⟨E54, hat49, Z55⟩ F
 replace B := B.size Z55
 replace h32 := h32.ev E54 mm ne_zm
 replace h51 := h51.ev E54 ne_zm ne_zm
 replace E := E.trans E54 lc1
 replace hat49 : AT true (m + 2) c37 w53 ad48 [.pointer p50, .int .i64 (IntKind.i64.wrap (min t18.1 1099511627776)), .int .i64 ob45.size] := hat49
 have h56 : TB (m + 2) c37 w53 (some ad48) (some (Tab.mk ob45.rows (IntKind.i64.wrap (min t18.1 1099511627776)) ob45.size)) := TB.mk hat49 h51
 as_aux_lemma =>
 refine nil (hK44 _ _ ?_)
 refine wp_seq_k fun K57 hK57 => reg ?_
 refine qm F fun a F => ?_
 refine qv F (r_leq F rfl rfl) fun a F => ?_
 refine qa F fun a F => ?_
 refine nil (hK57 _ _ ?_)
 replace F : Fr a 81 [(4, .pointer p14), (5, .int .u64 t18.1), (6, .int .u64 t26.1), (7, .pointer (some ad48)), (8, .bool (decide (t18.1 ≤ 1099511627776)))] := F.sub ⟨rfl, rfl, rfl, rfl, rfl, trivial⟩
 refine wp_seq_k fun K58 hK58 => reg ?_
 refine q_eff F rfl rfl (by decide) (e_makeMap (q := .u64) (K := 53) (emb := Value.bool) F c37 (m + 3) (fun w => by kernel_rfl)) ?_
 rintro v w60 a ⟨c59, qa61, rfl, E62, h63, B64⟩ F
 replace B := B64 _ B lm
 replace h32 := h32.ev E62 nq nq
 replace h56 := h56.ev E62 nq nq
 replace E := E.trans E62 nx
 replace h63 : MU148 (m + 3) c59 w60 (some qa61) (MpV.mk (fun _ => none) 0) := h63
 refine qa F fun a F => ?_
 refine nil (hK58 _ _ ?_)
 refine wp_seq_k fun K65 hK65 => reg ?_
 refine qa F fun a F => ?_
 refine nil (hK65 _ _ ?_)
 refine wp_seq_k fun K66 hK66 => ?_
 refine wp_block ?_
 obtain ⟨x304, HL, HR303⟩ := bind_some H
 have J513 : ∀ (c514 : Nat → Nat) (w515 : World) (a : Act) (o509 : Option Rdr) (o511 : Option Tab) (b512 : Bool), Fr a 81 [(4, .pointer p14), (7, .pointer (some ad48)), (8, .bool b512)] → Ev (fun x => False ∨ m ≤ x) c0 w0 c514 w515 → CB (m + 5) c514 w515 → RD (m + 1) c514 w515 p14 o509 → TB (m + 2) c514 w515 (some ad48) o511 → table_Read.j8 o509 o511 b512 = some r → K66 a w515 := by
  intro c514 w515 a o509 o511 b512 F E B h508 h510 H
  unfold table_Read.j8 at H
  as_aux_lemma =>
  refine hK66 _ _ ?_
  refine wp_seq_k fun K516 hK516 => ?_
  refine wp_seq_k fun K517 hK517 => ?_
  have J527 : ∀ (c528 : Nat → Nat) (w529 : World) (a : Act) (b526 : Bool), Fr a 81 [(7, .pointer (some ad48)), (79, .bool b526)] → Ev (fun x => False ∨ m ≤ x) c0 w0 c528 w529 → CB (m + 5) c528 w529 → TB (m + 2) c528 w529 (some ad48) o511 → table_Read.j9 o511 b526 = some r → K517 a w529 := by
   intro c528 w529 a b526 F E B h510 H
   unfold table_Read.j9 at H
   refine hK517 _ _ ?_
   by_cases hb530 : b526 = true
   ·replace H := ip hb530 H
    refine wp_cond_true (fb F hb530) ?_
    refine wp_seq_k fun K531 hK531 => reg ?_
    refine qa F fun a F => ?_
    refine qa F fun a F => ?_
    refine nil (hK531 _ _ ?_)
    refine wp_ret ?_
    refine thenR ?_
    replace H := si H
    subst H
    refine out2 F rfl rfl rfl ?_
    exact ⟨cf (fun x_ => if x_ = m + 2 then jr533 else if x_ < m then x_ else 0) c528, none, rfl, E.lv B0, cfb, TB.nil⟩
   replace H := im hb530 H
   refine wp_cond_false (fb F (bfalse hb530)) (wp_skip (hK516 _ _ ?_))
   refine wp_seq_k fun K532 hK532 => reg ?_
   as_aux_lemma =>
   refine qm F fun a F => ?_
   refine qa F fun a F => ?_
   refine qa F fun a F => ?_
   refine nil (hK532 _ _ ?_)
   refine wp_ret ?_
   replace H := si H
   subst H
   refine out2 F rfl rfl rfl ?_
   exact ⟨cf (fun x_ => if x_ = m + 2 then jr533 else if x_ < m then x_ else 0) c528, (some ad48), rfl, E.lv B0, cfb, TB.rc h510 cfk cfk⟩
  refine reg ?_
  refine qm F fun a F => ?_
  refine qv F (r_not F rfl) fun a F => ?_
  refine qm F fun a F => ?_
  by_cases hb518 : b512 = true
  ·replace H := ip hb518 H
   refine qy F (congrArg not hb518) ?_
   refine qm F fun a F => ?_
   obtain ⟨t519, q520, H⟩ := bind_some H
   refine qy F (congrArg not hb518) ?_
   refine qc F Tryz.func70 (parcel_Reader_Done.calls (m := m + 5) (pl hm0) B h508 lm _ q520) ?_
   rintro e w522 ⟨c521, rfl, E523, B524⟩
   refine ⟨_, rfl, fun a F => ?_⟩
   have B := B524
   as_aux_lemma =>
   replace h510 := h510.ev E523 nq nq
   replace E := E.trans E523 nx
   refine qy F (congrArg not hb518) ?_
   refine qv F (r_neq F rfl rfl) fun a F => ?_
   refine qv F (r_pick_f F rfl (congrArg not hb518) rfl) fun a F => ?_
   refine nil ?_
   exact J527 c521 w522 a (!decide (t519 = 0)) (F.sub ⟨rfl, rfl, trivial⟩) E B h510 H
  replace H := im hb518 H
  refine qn F (congrArg not (bfalse hb518)) fun a F => ?_
  refine qn F (congrArg not (bfalse hb518)) fun a F => ?_
  refine qn F (congrArg not (bfalse hb518)) fun a F => ?_
  refine qv F (r_pick_t F rfl (congrArg not (bfalse hb518)) rfl) fun a F => ?_
  refine nil ?_
  exact J527 c514 w515 a true (F.sub ⟨rfl, rfl, trivial⟩) E B h510 H
 refine loop_fuel (I := fun n a w => ∃ (o285 : Option Rdr) (i286 : Int) (o289 : Option Tab) (b290 : Bool) (o293 : MpV Bool) (s294 : ByteArray) (c : Nat → Nat), Fr a 81 [(4, .pointer p14), (5, .int .u64 t18.1), (6, .int .u64 i286), (7, .pointer (some ad48)), (8, .bool b290), (9, .map (Option.map Addr.block (some qa61))), (10, .string s294)] ∧ Ev (fun x => False ∨ m ≤ x) c0 w0 c w ∧ CB (m + 5) c w ∧ RD (m + 1) c w p14 o285 ∧ TB (m + 2) c w (some ad48) o289 ∧ MU148 (m + 3) c w (some qa61) o293 ∧ loop (fun (s_ : (Option Rdr) × Int × (Option Tab) × Bool × (MpV Bool) × ByteArray) => table_Read.b7 k t18 s_.1 s_.2.1 s_.2.2.1 s_.2.2.2.1 s_.2.2.2.2.1 s_.2.2.2.2.2) n (o285, i286, o289, b290, o293, s294) = some x304) (k := k) ⟨t26.2, t26.1, (some (Tab.mk ob45.rows (IntKind.i64.wrap (min t18.1 1099511627776)) ob45.size)), (decide (t18.1 ≤ 1099511627776)), (MpV.mk (fun _ => none) 0), ({ data := #[] }), c59, F.sub ⟨rfl, rfl, rfl, rfl, rfl, rfl, rfl, trivial⟩, E, B, h32, h56, h63, HL⟩ ?_
 clear HL H E F B
 intro n301 X297 hX297 a w296 ⟨o285, i286, o289, b290, o293, s294, c295, F, E, B, h284, h288, h292, HL⟩
 obtain ⟨n302, ctl300, rfl, HB, HN298, HD299⟩ := loop_some HL
 have H : table_Read.b7 k t18 o285 i286 o289 b290 o293 s294 = some ctl300 := HB
 clear HB HL
 unfold table_Read.b7 at H
 refine wp_seq_k fun K305 hK305 => ?_
 as_aux_lemma =>
 refine wp_seq_k fun K306 hK306 => ?_
 have J309 : ∀ (c310 : Nat → Nat) (w311 : World) (a : Act) (b308 : Bool), Fr a 81 [(4, .pointer p14), (5, .int .u64 t18.1), (6, .int .u64 i286), (7, .pointer (some ad48)), (8, .bool b290), (9, .map (Option.map Addr.block (some qa61))), (10, .string s294), (34, .bool b308)] → Ev (fun x => False ∨ m ≤ x) c0 w0 c310 w311 → CB (m + 5) c310 w311 → RD (m + 1) c310 w311 p14 o285 → TB (m + 2) c310 w311 (some ad48) o289 → MU148 (m + 3) c310 w311 (some qa61) o293 → table_Read.j4 k t18 o285 i286 o289 b290 o293 s294 b308 = some ctl300 → K306 a w311 := by
  intro c310 w311 a b308 F E B h284 h288 h292 H
  unfold table_Read.j4 at H
  refine hK306 _ _ ?_
  by_cases hb312 : b308 = true
  ·replace H := ip hb312 H
   refine wp_cond_true (fb F hb312) (wp_skip (hK305 _ _ ?_))
   refine wp_seq_k fun K313 hK313 => ?_
   refine wp_block ?_
   refine wp_seq_k fun K314 hK314 => ?_
   have J462 : ∀ (c463 : Nat → Nat) (w464 : World) (a : Act) (t92 : (List Int) × (Option Rdr)) (qa127 : Addr) (t114 : (List Int) × (Option Rdr)) (A459 : Option Addr) (C460 : Nat), Fr a 81 [(4, .pointer p14), (5, .int .u64 t18.1), (6, .int .u64 i286), (7, .pointer (some ad48)), (9, .map (Option.map Addr.block (some qa61))), (10, .string s294), (11, .string (bs t92.1)), (12, .pointer (some qa127))] → Ev (fun x => False ∨ m ≤ x) c0 w0 c463 w464 → CB (m + 5) c463 w464 → AT true (m + 4) c463 w464 qa127 [.slice A459 t114.1.length C460, .int .i64 0] → TB (m + 2) c463 w464 (some ad48) o289 → MU148 (m + 3) c463 w464 (some qa61) o293 → RD (m + 1) c463 w464 p14 t114.2 → SL true (Kint .u8) 0 0 c463 w464 A459 C460 t114.1 → table_Read.j5 k t18 t92 t114 i286 o289 o293 s294 = some ctl300 → K314 a w464 := by
    intro c463 w464 a t92 qa127 t114 A459 C460 F E B h129 h288 h292 h458 h461 H
    unfold table_Read.j5 at H
    refine hK314 _ _ ?_
    refine wp_seq_k fun K465 hK465 => reg ?_
    refine qm F fun a F => ?_
    obtain ⟨t248, q249, H⟩ := bind_some H
    refine qc F Tryz.func67 (parcel_Reader_Num.calls (m := m + 5) (pl hm0) B h458 (by omega) _ q249) ?_
    rintro e w467 ⟨c466, rfl, E468, B469, h470⟩
    refine ⟨_, rfl, fun a F => ?_⟩
    have B := B469
    replace h129 := h129.ev E468 mm
    as_aux_lemma =>
    replace h288 := h288.ev E468 mm ne_zm
    replace h292 := h292.ev E468 mm ne_zm
    replace h461 := h461.ev E468 ne_zm ne_zm
    replace E := E.trans E468 lc1
    refine qa F fun a F => ?_
    refine nil (hK465 _ _ ?_)
    refine wp_seq_k fun K472 hK472 => reg ?_
    refine qm F fun a F => ?_
    refine qv F (r_convi F Tryz.underlying3 rfl rfl) fun a F => ?_
    refine qf F ff_133_1 fun a F => ?_
    refine q_eff0 F rfl rfl (e_store F rfl rfl sz_3 h129 (nb rfl) rfl) ?_
    rintro w473 a ⟨E474, h129, Z475⟩ F
    replace B := B.size Z475
    replace h288 := h288.ev E474 mm ne_zm
    replace h292 := h292.ev E474 mm ne_zm
    replace h461 := h461.ev E474 ne_zm ne_zm
    replace h470 := h470.ev E474 mm ne_zm
    replace E := E.trans E474 lc1
    replace h129 : AT true (m + 4) c466 w473 qa127 [.slice A459 t114.1.length C460, .int .i64 (IntKind.i64.wrap t248.1)] := h129
    refine nil (hK472 _ _ ?_)
    refine wp_seq_k fun K476 hK476 => ?_
    have J482 : ∀ (c483 : Nat → Nat) (w484 : World) (a : Act) (b481 : Bool), Fr a 81 [(4, .pointer p14), (5, .int .u64 t18.1), (6, .int .u64 i286), (7, .pointer (some ad48)), (8, .bool b481), (9, .map (Option.map Addr.block (some qa61))), (11, .string (bs t92.1)), (12, .pointer (some qa127)), (13, .int .u64 t248.1)] → Ev (fun x => False ∨ m ≤ x) c0 w0 c483 w484 → CB (m + 5) c483 w484 → AT true (m + 4) c483 w484 qa127 [.slice A459 t114.1.length C460, .int .i64 (IntKind.i64.wrap t248.1)] → RD (m + 1) c483 w484 p14 t248.2 → TB (m + 2) c483 w484 (some ad48) o289 → MU148 (m + 3) c483 w484 (some qa61) o293 → SL true (Kint .u8) 0 0 c483 w484 A459 C460 t114.1 → table_Read.j6 k t92 t114 t248 i286 o289 o293 b481 = some ctl300 → K476 a w484 := by
     intro c483 w484 a b481 F E B h129 h470 h288 h292 h461 H
     unfold table_Read.j6 at H
     as_aux_lemma =>
     refine hK476 _ _ ?_
     refine wp_seq_k fun K485 hK485 => reg ?_
     refine qm F fun a F => ?_
     refine qm F fun a F => ?_
     refine qm F fun a F => ?_
     replace H := ifN H
     obtain ⟨g270, H⟩ := H
     refine q_eff0 F rfl rfl (e_mapUpdate (z := true) F Tryz.underlying53 Tryz.underlying148 rfl rfl rfl h292 g270.1 (n_ok g270.2)) ?_
     rintro w486 a ⟨E487, h488, Z489⟩ F
     replace B := B.size Z489
     replace h129 := h129.ev E487 mm
     replace h470 := h470.ev E487 mm ne_zm
     replace h288 := h288.ev E487 mm ne_zm
     replace h461 := h461.ev E487 ne_zm ne_zm
     replace E := E.trans E487 lc1
     replace h488 : MU148 (m + 3) c483 w486 (some qa61) (MpV.mk (fun i_ => if i_ = t248.1 then some true else o293.f i_) (o293.n + 1)) := h488
     refine qa F fun a F => ?_
     refine nil (hK485 _ _ ?_)
     refine reg ?_
     refine qm F fun a F => ?_
     refine qm F fun a F => ?_
     refine qv F (r_loads (cs := [.slice A459 t114.1.length C460, .int .i64 (IntKind.i64.wrap t248.1)]) F rfl ag_133 sz_133 h129) fun a F => ?_
     obtain ⟨t275, q276, H⟩ := bind_some H
     as_aux_lemma =>
     refine qc F Tryz.func114 (table_Table_set.calls k (m := m + 5) (a6 := table_cell.mk t114.1 (IntKind.i64.wrap t248.1)) (pl hm0) B h288 h461.r ⟨(pl hm0), lm⟩ _ q276) ?_
     rintro e w491 ⟨c490, rfl, E492, B493, h494⟩
     refine ⟨_, rfl, fun a F => ?_⟩
     have B := B493
     replace h470 := h470.ev E492 mm ne_zm
     replace h488 := h488.ev E492 mm ne_zm
     replace E := E.trans E492 lc1
     refine nil (hK313 _ _ ?_)
     replace F : Fr a 81 [(4, .pointer p14), (5, .int .u64 t18.1), (6, .int .u64 i286), (7, .pointer (some ad48)), (8, .bool b481), (9, .map (Option.map Addr.block (some qa61))), (10, .string (bs t92.1))] := F.sub ⟨rfl, rfl, rfl, rfl, rfl, rfl, rfl, trivial⟩
     refine reg ?_
     refine qm F fun a F => ?_
     refine qv F (r_sub F rfl rfl) fun a F => ?_
     refine qa F fun a F => ?_
     refine nil ?_
     replace H := HN298 _ (si H).symm
     exact hX297 _ _ _ (Nat.lt_succ_self _) ⟨t248.2, (IntKind.u64.wrap (i286 - 1)), t275, b481, (MpV.mk (fun i_ => if i_ = t248.1 then some true else o293.f i_) (o293.n + 1)), (bs t92.1), c490, F.sub ⟨rfl, rfl, rfl, rfl, rfl, rfl, rfl, trivial⟩, E, B, h470, h494, h488, H⟩
    refine reg ?_
    refine qm F fun a F => ?_
    refine qm F fun a F => ?_
    refine qv F (r_sgtr F rfl rfl) fun a F => ?_
    refine qm F fun a F => ?_
    by_cases hb477 : (Op.bytesLess (bs t92.1).toList s294.toList || ((bs t92.1).toList == s294.toList)) = true
    ·replace H := ip hb477 H
     as_aux_lemma =>
     refine qn F (congrArg not hb477) fun a F => ?_
     refine qn F (congrArg not hb477) fun a F => ?_
     refine qv F (r_pick_f F rfl (congrArg not hb477) rfl) fun a F => ?_
     refine qm F fun a F => ?_
     refine qn F rfl fun a F => ?_
     refine qn F rfl fun a F => ?_
     refine qn F rfl fun a F => ?_
     refine qv F (r_pick_f F rfl rfl rfl) fun a F => ?_
     refine qm F fun a F => ?_
     refine qn F rfl fun a F => ?_
     refine qn F rfl fun a F => ?_
     refine qn F rfl fun a F => ?_
     refine qn F rfl fun a F => ?_
     refine qv F (r_pick_f F rfl rfl rfl) fun a F => ?_
     refine qa F fun a F => ?_
     refine nil ?_
     exact J482 c466 w473 a false (F.sub ⟨rfl, rfl, rfl, rfl, rfl, rfl, rfl, rfl, rfl, trivial⟩) E B h129 h470 h288 h292 h461 H
    replace H := im hb477 H
    refine qy F (congrArg not (bfalse hb477)) ?_
    refine qm F fun a F => ?_
    refine qy F (congrArg not (bfalse hb477)) ?_
    refine qv F (r_gtr F rfl rfl) fun a F => ?_
    as_aux_lemma =>
    refine qv F (r_pick_t F rfl (congrArg not (bfalse hb477)) rfl) fun a F => ?_
    refine qm F fun a F => ?_
    by_cases hb478 : 0 < t248.1
    ·replace H := ip hb478 H
     refine qy F (dt hb478) ?_
     refine qm F fun a F => ?_
     refine qy F (dt hb478) ?_
     refine qm F fun a F => ?_
     refine qy F (dt hb478) ?_
     refine qv F (r_leq F rfl rfl) fun a F => ?_
     refine qv F (r_pick_t F rfl (dt hb478) rfl) fun a F => ?_
     refine qm F fun a F => ?_
     by_cases hb479 : t248.1 ≤ t18.1
     ·replace H := ip hb479 H
      refine qy F (dt hb479) ?_
      refine qm F fun a F => ?_
      refine qy F (dt hb479) ?_
      refine qm F fun a F => ?_
      replace H := ifN H
      obtain ⟨g480, H⟩ := H
      refine qy F (dt hb479) ?_
      refine qv F (r_lookupm (emb := Value.bool) (z := false) F Tryz.underlying53 Tryz.underlying148 (fun w => by kernel_rfl) rfl rfl h292 g480) fun a F => ?_
      refine qy F (dt hb479) ?_
      refine qv F (r_not F rfl) fun a F => ?_
      as_aux_lemma =>
      refine qv F (r_pick_t F rfl (dt hb479) rfl) fun a F => ?_
      refine qa F fun a F => ?_
      refine nil ?_
      exact J482 c466 w473 a (!((o293.f t248.1).getD false)) (F.sub ⟨rfl, rfl, rfl, rfl, rfl, rfl, rfl, rfl, rfl, trivial⟩) E B h129 h470 h288 h292 h461 H
     replace H := im hb479 H
     refine qn F (dz hb479) fun a F => ?_
     refine qn F (dz hb479) fun a F => ?_
     refine qn F (dz hb479) fun a F => ?_
     refine qn F (dz hb479) fun a F => ?_
     refine qv F (r_pick_f F rfl (dz hb479) rfl) fun a F => ?_
     refine qa F fun a F => ?_
     refine nil ?_
     exact J482 c466 w473 a false (F.sub ⟨rfl, rfl, rfl, rfl, rfl, rfl, rfl, rfl, rfl, trivial⟩) E B h129 h470 h288 h292 h461 H
    replace H := im hb478 H
    refine qn F (dz hb478) fun a F => ?_
    refine qn F (dz hb478) fun a F => ?_
    refine qn F (dz hb478) fun a F => ?_
    refine qv F (r_pick_f F rfl (dz hb478) rfl) fun a F => ?_
    refine qm F fun a F => ?_
    refine qn F rfl fun a F => ?_
    refine qn F rfl fun a F => ?_
    refine qn F rfl fun a F => ?_
    as_aux_lemma =>
    refine qn F rfl fun a F => ?_
    refine qv F (r_pick_f F rfl rfl rfl) fun a F => ?_
    refine qa F fun a F => ?_
    refine nil ?_
    exact J482 c466 w473 a false (F.sub ⟨rfl, rfl, rfl, rfl, rfl, rfl, rfl, rfl, rfl, trivial⟩) E B h129 h470 h288 h292 h461 H
   refine regD (SB (fun x => x = m + 1) c310 w311) 8 (.q 0 (.q 3 (.f 1 (.g 2 (.f 4 (.q 5 (.e 6 (.q 7 (.e 8 .nil)))) 6 (.e 4 (.q 5 (.q 7 (.e 8 .nil))))) 4 (.q 5 (.f 2 (.e 6 (.q 7 (.e 8 .nil))) 6 (.e 2 (.q 7 (.e 8 .nil))))) 6 (.f 2 (.e 4 (.q 5 (.q 7 (.e 8 .nil)))) 4 (.q 5 (.e 2 (.q 7 (.e 8 .nil)))))) 6 (.e 1 (.f 2 (.e 4 (.q 5 (.q 7 (.e 8 .nil)))) 4 (.q 5 (.e 2 (.q 7 (.e 8 .nil))))))))) Tryz_hm (by decide +kernel) ?_
   intro w326 w1_ w2_ w3_ w4_
   have E327 : Ev No c310 w311 c310 w326 := Ev.same w1_ w2_ w3_ w4_
   replace B := B.same w1_
   have ER : Ev (fun x => x = m + 1) c310 w311 c310 w326 := Ev.same w1_ w2_ w3_ w4_
   replace h284 := h284.ev E327 nq nq
   replace h288 := h288.ev E327 nq nq
   replace h292 := h292.ev E327 nq nq
   replace E := E.trans E327 nx
   refine dm F ER.sb fun a F => ?_
   refine dm F ER.sb fun a F => ?_
   refine d_f ?_ ?_
   ·obtain ⟨t92, q93, H⟩ := bind_some H
    refine oc F Tryz.func66 (parcel_Reader_Text.calls (m := m + 5) (pl hm0) B h284 (by omega) 0 (pl hm0) _ q93) ?_
    rintro e w329 ⟨c328, A332, C333, rfl, E330, B331, h334, h335⟩
    refine ⟨_, rfl, fun a F => ?_⟩
    have B := B331
    replace ER := ER.trans E330 (fun x q => by replace q : x = m + 1 := q; show x = m + 1; omega)
    as_aux_lemma =>
    replace h288 := h288.ev E330 mm ne_zm
    replace h292 := h292.ev E330 mm ne_zm
    replace E := E.trans E330 lc1
    refine ⟨fun _ => ER.sb, ?_⟩
    refine d_g ?_ ?_ ?_
    ·refine o_val F rfl rfl rfl (by decide) (r_bytesStr F Tryz.underlying27 Tryz.underlying5 Tryz.underlying9 rfl h334) fun a F => ?_
     refine ⟨fun _ => ER.sb, ?_⟩
     refine d_f ?_ ?_
     ·obtain ⟨t114, q115, H⟩ := bind_some H
      refine oc F Tryz.func66 (parcel_Reader_Text.calls (m := m + 5) (pl hm0) B h335 (by omega) 0 (pl hm0) _ q115) ?_
      rintro e w338 ⟨c337, A341, C342, rfl, E339, B340, h343, h344⟩
      refine ⟨_, rfl, fun a F => ?_⟩
      have B := B340
      replace ER := ER.trans E339 (fun x q => by replace q : x = m + 1 := q; show x = m + 1; omega)
      replace h288 := h288.ev E339 mm ne_zm
      replace h292 := h292.ev E339 mm ne_zm
      replace E := E.trans E339 lc1
      refine ⟨fun _ => ER.sb, ?_⟩
      refine d_q F rfl rfl rfl (by decide) (fun wq hS => r_build (v := .agg #[.slice A341 t114.1.length C342, .int .i64 0]) F [(0, .slice A341 t114.1.length C342)] (by exact ⟨rfl, rfl, trivial⟩) (fun w => by kernel_rfl)) ER.sb fun a F => ?_
      refine d_e ?_
      refine o_eff F rfl rfl rfl (by decide) (e_alloc F zv_133 c337 (m + 4)) ?_
      rintro v w347 a ⟨c346, qa127, rfl, E348, h129, B349⟩ F
      replace B := B349 _ B lm
      replace ER := ER.trans E348 nx
      as_aux_lemma =>
      replace h288 := h288.ev E348 nq nq
      replace h292 := h292.ev E348 nq nq
      replace h343 := h343.ev E348 nq nq
      replace h344 := h344.ev E348 nq nq
      replace E := E.trans E348 nx
      replace h129 : AT true (m + 4) c346 w347 qa127 [.slice none 0 0, .int .i64 0] := h129
      refine ⟨fun _ => ER.sb, ?_⟩
      refine da F ER.sb fun a F => ?_
      refine d_e ?_
      refine o_eff0 F rfl rfl rfl (e_storeN0 (us := [.slice A341 t114.1.length C342, .int .i64 0]) F rfl rfl sz_133 h129 (nb rfl) (one_all rfl)) ?_
      rintro w350 a ⟨E351, h129, Z352⟩ F
      replace B := B.size Z352
      replace h288 := h288.ev E351 mm ne_zm
      replace h292 := h292.ev E351 mm ne_zm
      replace h343 := h343.ev E351 ne_zm ne_zm
      replace h344 := h344.ev E351 mm ne_zm
      replace E := E.trans E351 lc1
      replace h129 : AT true (m + 4) c346 w350 qa127 [.slice A341 t114.1.length C342, .int .i64 0] := h129
      refine ⟨fun q => absurd rfl q, ?_⟩
      refine d_nil ?_
      exact J462 c346 w350 a t92 qa127 t114 A341 C342 (F.sub ⟨rfl, rfl, rfl, rfl, rfl, rfl, rfl, rfl, trivial⟩) E B h129 h288 h292 h344 h343 H
     obtain ⟨t114, q115, H⟩ := bind_some H
     as_aux_lemma =>
     refine o_eff F rfl rfl rfl (by decide) (e_alloc F zv_133 c328 (m + 4)) ?_
     rintro v w354 a ⟨c353, qa127, rfl, E355, h129, B356⟩ F
     replace B := B356 _ B lm
     replace ER := ER.trans E355 nx
     replace h288 := h288.ev E355 nq nq
     replace h292 := h292.ev E355 nq nq
     replace h335 := h335.ev E355 nq nq
     replace E := E.trans E355 nx
     replace h129 : AT true (m + 4) c353 w354 qa127 [.slice none 0 0, .int .i64 0] := h129
     refine ⟨fun _ => ER.sb, ?_⟩
     refine d_e ?_
     refine oc F Tryz.func66 (parcel_Reader_Text.calls (m := m + 5) (pl hm0) B h335 (by omega) 0 (pl hm0) _ q115) ?_
     rintro e w358 ⟨c357, A361, C362, rfl, E359, B360, h363, h364⟩
     refine ⟨_, rfl, fun a F => ?_⟩
     have B := B360
     replace ER := ER.trans E359 (fun x q => by replace q : x = m + 1 := q; show x = m + 1; omega)
     replace h288 := h288.ev E359 mm ne_zm
     replace h292 := h292.ev E359 mm ne_zm
     replace h129 := h129.ev E359 mm
     replace E := E.trans E359 lc1
     refine ⟨fun _ => ER.sb, ?_⟩
     refine d_q F rfl rfl rfl (by decide) (fun wq hS => r_build (v := .agg #[.slice A361 t114.1.length C362, .int .i64 0]) F [(0, .slice A361 t114.1.length C362)] (by exact ⟨rfl, rfl, trivial⟩) (fun w => by kernel_rfl)) ER.sb fun a F => ?_
     as_aux_lemma =>
     refine da F ER.sb fun a F => ?_
     refine d_e ?_
     refine o_eff0 F rfl rfl rfl (e_storeN0 (us := [.slice A361 t114.1.length C362, .int .i64 0]) F rfl rfl sz_133 h129 (nb rfl) (one_all rfl)) ?_
     rintro w366 a ⟨E367, h129, Z368⟩ F
     replace B := B.size Z368
     replace h288 := h288.ev E367 mm ne_zm
     replace h292 := h292.ev E367 mm ne_zm
     replace h363 := h363.ev E367 ne_zm ne_zm
     replace h364 := h364.ev E367 mm ne_zm
     replace E := E.trans E367 lc1
     replace h129 : AT true (m + 4) c357 w366 qa127 [.slice A361 t114.1.length C362, .int .i64 0] := h129
     refine ⟨fun q => absurd rfl q, ?_⟩
     refine d_nil ?_
     exact J462 c357 w366 a t92 qa127 t114 A361 C362 (F.sub ⟨rfl, rfl, rfl, rfl, rfl, rfl, rfl, rfl, trivial⟩) E B h129 h288 h292 h364 h363 H
    ·obtain ⟨t114, q115, H⟩ := bind_some H
     refine oc F Tryz.func66 (parcel_Reader_Text.calls (m := m + 5) (pl hm0) B h335 (by omega) 0 (pl hm0) _ q115) ?_
     rintro e w370 ⟨c369, A373, C374, rfl, E371, B372, h375, h376⟩
     refine ⟨_, rfl, fun a F => ?_⟩
     have B := B372
     replace ER := ER.trans E371 (fun x q => by replace q : x = m + 1 := q; show x = m + 1; omega)
     replace h288 := h288.ev E371 mm ne_zm
     replace h292 := h292.ev E371 mm ne_zm
     replace h334 := h334.ev E371 ne_zm ne_zm
     as_aux_lemma =>
     replace E := E.trans E371 lc1
     refine ⟨fun _ => ER.sb, ?_⟩
     refine d_q F rfl rfl rfl (by decide) (fun wq hS => r_build (v := .agg #[.slice A373 t114.1.length C374, .int .i64 0]) F [(0, .slice A373 t114.1.length C374)] (by exact ⟨rfl, rfl, trivial⟩) (fun w => by kernel_rfl)) ER.sb fun a F => ?_
     refine d_f ?_ ?_
     ·refine o_val F rfl rfl rfl (by decide) (r_bytesStr F Tryz.underlying27 Tryz.underlying5 Tryz.underlying9 rfl h334) fun a F => ?_
      refine ⟨fun _ => ER.sb, ?_⟩
      refine d_e ?_
      refine o_eff F rfl rfl rfl (by decide) (e_alloc F zv_133 c369 (m + 4)) ?_
      rintro v w379 a ⟨c378, qa127, rfl, E380, h129, B381⟩ F
      replace B := B381 _ B lm
      replace ER := ER.trans E380 nx
      replace h288 := h288.ev E380 nq nq
      replace h292 := h292.ev E380 nq nq
      replace h375 := h375.ev E380 nq nq
      replace h376 := h376.ev E380 nq nq
      replace E := E.trans E380 nx
      replace h129 : AT true (m + 4) c378 w379 qa127 [.slice none 0 0, .int .i64 0] := h129
      refine ⟨fun _ => ER.sb, ?_⟩
      refine da F ER.sb fun a F => ?_
      refine d_e ?_
      refine o_eff0 F rfl rfl rfl (e_storeN0 (us := [.slice A373 t114.1.length C374, .int .i64 0]) F rfl rfl sz_133 h129 (nb rfl) (one_all rfl)) ?_
      rintro w382 a ⟨E383, h129, Z384⟩ F
      replace B := B.size Z384
      as_aux_lemma =>
      replace h288 := h288.ev E383 mm ne_zm
      replace h292 := h292.ev E383 mm ne_zm
      replace h375 := h375.ev E383 ne_zm ne_zm
      replace h376 := h376.ev E383 mm ne_zm
      replace E := E.trans E383 lc1
      replace h129 : AT true (m + 4) c378 w382 qa127 [.slice A373 t114.1.length C374, .int .i64 0] := h129
      refine ⟨fun q => absurd rfl q, ?_⟩
      refine d_nil ?_
      exact J462 c378 w382 a t92 qa127 t114 A373 C374 (F.sub ⟨rfl, rfl, rfl, rfl, rfl, rfl, rfl, rfl, trivial⟩) E B h129 h288 h292 h376 h375 H
     refine o_eff F rfl rfl rfl (by decide) (e_alloc F zv_133 c369 (m + 4)) ?_
     rintro v w386 a ⟨c385, qa127, rfl, E387, h129, B388⟩ F
     replace B := B388 _ B lm
     replace ER := ER.trans E387 nx
     replace h288 := h288.ev E387 nq nq
     replace h292 := h292.ev E387 nq nq
     replace h334 := h334.ev E387 nq nq
     replace h375 := h375.ev E387 nq nq
     replace h376 := h376.ev E387 nq nq
     replace E := E.trans E387 nx
     replace h129 : AT true (m + 4) c385 w386 qa127 [.slice none 0 0, .int .i64 0] := h129
     refine ⟨fun _ => ER.sb, ?_⟩
     refine d_e ?_
     as_aux_lemma =>
     refine o_val F rfl rfl rfl (by decide) (r_bytesStr F Tryz.underlying27 Tryz.underlying5 Tryz.underlying9 rfl h334) fun a F => ?_
     refine ⟨fun _ => ER.sb, ?_⟩
     refine da F ER.sb fun a F => ?_
     refine d_e ?_
     refine o_eff0 F rfl rfl rfl (e_storeN0 (us := [.slice A373 t114.1.length C374, .int .i64 0]) F rfl rfl sz_133 h129 (nb rfl) (one_all rfl)) ?_
     rintro w389 a ⟨E390, h129, Z391⟩ F
     replace B := B.size Z391
     replace h288 := h288.ev E390 mm ne_zm
     replace h292 := h292.ev E390 mm ne_zm
     replace h375 := h375.ev E390 ne_zm ne_zm
     replace h376 := h376.ev E390 mm ne_zm
     replace E := E.trans E390 lc1
     replace h129 : AT true (m + 4) c385 w389 qa127 [.slice A373 t114.1.length C374, .int .i64 0] := h129
     refine ⟨fun q => absurd rfl q, ?_⟩
     refine d_nil ?_
     exact J462 c385 w389 a t92 qa127 t114 A373 C374 (F.sub ⟨rfl, rfl, rfl, rfl, rfl, rfl, rfl, rfl, trivial⟩) E B h129 h288 h292 h376 h375 H
    refine o_eff F rfl rfl rfl (by decide) (e_alloc F zv_133 c328 (m + 4)) ?_
    rintro v w393 a ⟨c392, qa127, rfl, E394, h129, B395⟩ F
    replace B := B395 _ B lm
    replace ER := ER.trans E394 nx
    replace h288 := h288.ev E394 nq nq
    replace h292 := h292.ev E394 nq nq
    as_aux_lemma =>
    replace h334 := h334.ev E394 nq nq
    replace h335 := h335.ev E394 nq nq
    replace E := E.trans E394 nx
    replace h129 : AT true (m + 4) c392 w393 qa127 [.slice none 0 0, .int .i64 0] := h129
    refine ⟨fun _ => ER.sb, ?_⟩
    refine d_f ?_ ?_
    ·refine o_val F rfl rfl rfl (by decide) (r_bytesStr F Tryz.underlying27 Tryz.underlying5 Tryz.underlying9 rfl h334) fun a F => ?_
     refine ⟨fun _ => ER.sb, ?_⟩
     refine d_e ?_
     obtain ⟨t114, q115, H⟩ := bind_some H
     refine oc F Tryz.func66 (parcel_Reader_Text.calls (m := m + 5) (pl hm0) B h335 (by omega) 0 (pl hm0) _ q115) ?_
     rintro e w397 ⟨c396, A400, C401, rfl, E398, B399, h402, h403⟩
     refine ⟨_, rfl, fun a F => ?_⟩
     have B := B399
     replace ER := ER.trans E398 (fun x q => by replace q : x = m + 1 := q; show x = m + 1; omega)
     replace h288 := h288.ev E398 mm ne_zm
     replace h292 := h292.ev E398 mm ne_zm
     replace h129 := h129.ev E398 mm
     replace E := E.trans E398 lc1
     refine ⟨fun _ => ER.sb, ?_⟩
     refine d_q F rfl rfl rfl (by decide) (fun wq hS => r_build (v := .agg #[.slice A400 t114.1.length C401, .int .i64 0]) F [(0, .slice A400 t114.1.length C401)] (by exact ⟨rfl, rfl, trivial⟩) (fun w => by kernel_rfl)) ER.sb fun a F => ?_
     refine da F ER.sb fun a F => ?_
     refine d_e ?_
     as_aux_lemma =>
     refine o_eff0 F rfl rfl rfl (e_storeN0 (us := [.slice A400 t114.1.length C401, .int .i64 0]) F rfl rfl sz_133 h129 (nb rfl) (one_all rfl)) ?_
     rintro w405 a ⟨E406, h129, Z407⟩ F
     replace B := B.size Z407
     replace h288 := h288.ev E406 mm ne_zm
     replace h292 := h292.ev E406 mm ne_zm
     replace h402 := h402.ev E406 ne_zm ne_zm
     replace h403 := h403.ev E406 mm ne_zm
     replace E := E.trans E406 lc1
     replace h129 : AT true (m + 4) c396 w405 qa127 [.slice A400 t114.1.length C401, .int .i64 0] := h129
     refine ⟨fun q => absurd rfl q, ?_⟩
     refine d_nil ?_
     exact J462 c396 w405 a t92 qa127 t114 A400 C401 (F.sub ⟨rfl, rfl, rfl, rfl, rfl, rfl, rfl, rfl, trivial⟩) E B h129 h288 h292 h403 h402 H
    obtain ⟨t114, q115, H⟩ := bind_some H
    refine oc F Tryz.func66 (parcel_Reader_Text.calls (m := m + 5) (pl hm0) B h335 (by omega) 0 (pl hm0) _ q115) ?_
    rintro e w409 ⟨c408, A412, C413, rfl, E410, B411, h414, h415⟩
    refine ⟨_, rfl, fun a F => ?_⟩
    have B := B411
    replace ER := ER.trans E410 (fun x q => by replace q : x = m + 1 := q; show x = m + 1; omega)
    replace h288 := h288.ev E410 mm ne_zm
    replace h292 := h292.ev E410 mm ne_zm
    replace h334 := h334.ev E410 ne_zm ne_zm
    replace h129 := h129.ev E410 mm
    as_aux_lemma =>
    replace E := E.trans E410 lc1
    refine ⟨fun _ => ER.sb, ?_⟩
    refine d_q F rfl rfl rfl (by decide) (fun wq hS => r_build (v := .agg #[.slice A412 t114.1.length C413, .int .i64 0]) F [(0, .slice A412 t114.1.length C413)] (by exact ⟨rfl, rfl, trivial⟩) (fun w => by kernel_rfl)) ER.sb fun a F => ?_
    refine d_e ?_
    refine o_val F rfl rfl rfl (by decide) (r_bytesStr F Tryz.underlying27 Tryz.underlying5 Tryz.underlying9 rfl h334) fun a F => ?_
    refine ⟨fun _ => ER.sb, ?_⟩
    refine da F ER.sb fun a F => ?_
    refine d_e ?_
    refine o_eff0 F rfl rfl rfl (e_storeN0 (us := [.slice A412 t114.1.length C413, .int .i64 0]) F rfl rfl sz_133 h129 (nb rfl) (one_all rfl)) ?_
    rintro w417 a ⟨E418, h129, Z419⟩ F
    replace B := B.size Z419
    replace h288 := h288.ev E418 mm ne_zm
    replace h292 := h292.ev E418 mm ne_zm
    replace h414 := h414.ev E418 ne_zm ne_zm
    replace h415 := h415.ev E418 mm ne_zm
    replace E := E.trans E418 lc1
    replace h129 : AT true (m + 4) c408 w417 qa127 [.slice A412 t114.1.length C413, .int .i64 0] := h129
    refine ⟨fun q => absurd rfl q, ?_⟩
    refine d_nil ?_
    exact J462 c408 w417 a t92 qa127 t114 A412 C413 (F.sub ⟨rfl, rfl, rfl, rfl, rfl, rfl, rfl, rfl, trivial⟩) E B h129 h288 h292 h415 h414 H
   refine o_eff F rfl rfl rfl (by decide) (e_alloc F zv_133 c310 (m + 4)) ?_
   rintro v w421 a ⟨c420, qa127, rfl, E422, h129, B423⟩ F
   as_aux_lemma =>
   replace B := B423 _ B lm
   replace ER := ER.trans E422 nx
   replace h284 := h284.ev E422 nq nq
   replace h288 := h288.ev E422 nq nq
   replace h292 := h292.ev E422 nq nq
   replace E := E.trans E422 nx
   replace h129 : AT true (m + 4) c420 w421 qa127 [.slice none 0 0, .int .i64 0] := h129
   refine ⟨fun _ => ER.sb, ?_⟩
   refine d_e ?_
   obtain ⟨t92, q93, H⟩ := bind_some H
   refine oc F Tryz.func66 (parcel_Reader_Text.calls (m := m + 5) (pl hm0) B h284 (by omega) 0 (pl hm0) _ q93) ?_
   rintro e w425 ⟨c424, A428, C429, rfl, E426, B427, h430, h431⟩
   refine ⟨_, rfl, fun a F => ?_⟩
   have B := B427
   replace ER := ER.trans E426 (fun x q => by replace q : x = m + 1 := q; show x = m + 1; omega)
   replace h288 := h288.ev E426 mm ne_zm
   replace h292 := h292.ev E426 mm ne_zm
   replace h129 := h129.ev E426 mm
   replace E := E.trans E426 lc1
   refine ⟨fun _ => ER.sb, ?_⟩
   refine d_f ?_ ?_
   ·refine o_val F rfl rfl rfl (by decide) (r_bytesStr F Tryz.underlying27 Tryz.underlying5 Tryz.underlying9 rfl h430) fun a F => ?_
    refine ⟨fun _ => ER.sb, ?_⟩
    as_aux_lemma =>
    refine d_e ?_
    obtain ⟨t114, q115, H⟩ := bind_some H
    refine oc F Tryz.func66 (parcel_Reader_Text.calls (m := m + 5) (pl hm0) B h431 (by omega) 0 (pl hm0) _ q115) ?_
    rintro e w434 ⟨c433, A437, C438, rfl, E435, B436, h439, h440⟩
    refine ⟨_, rfl, fun a F => ?_⟩
    have B := B436
    replace ER := ER.trans E435 (fun x q => by replace q : x = m + 1 := q; show x = m + 1; omega)
    replace h288 := h288.ev E435 mm ne_zm
    replace h292 := h292.ev E435 mm ne_zm
    replace h129 := h129.ev E435 mm
    replace E := E.trans E435 lc1
    refine ⟨fun _ => ER.sb, ?_⟩
    refine d_q F rfl rfl rfl (by decide) (fun wq hS => r_build (v := .agg #[.slice A437 t114.1.length C438, .int .i64 0]) F [(0, .slice A437 t114.1.length C438)] (by exact ⟨rfl, rfl, trivial⟩) (fun w => by kernel_rfl)) ER.sb fun a F => ?_
    refine da F ER.sb fun a F => ?_
    refine d_e ?_
    refine o_eff0 F rfl rfl rfl (e_storeN0 (us := [.slice A437 t114.1.length C438, .int .i64 0]) F rfl rfl sz_133 h129 (nb rfl) (one_all rfl)) ?_
    rintro w442 a ⟨E443, h129, Z444⟩ F
    replace B := B.size Z444
    replace h288 := h288.ev E443 mm ne_zm
    replace h292 := h292.ev E443 mm ne_zm
    replace h439 := h439.ev E443 ne_zm ne_zm
    replace h440 := h440.ev E443 mm ne_zm
    as_aux_lemma =>
    replace E := E.trans E443 lc1
    replace h129 : AT true (m + 4) c433 w442 qa127 [.slice A437 t114.1.length C438, .int .i64 0] := h129
    refine ⟨fun q => absurd rfl q, ?_⟩
    refine d_nil ?_
    exact J462 c433 w442 a t92 qa127 t114 A437 C438 (F.sub ⟨rfl, rfl, rfl, rfl, rfl, rfl, rfl, rfl, trivial⟩) E B h129 h288 h292 h440 h439 H
   obtain ⟨t114, q115, H⟩ := bind_some H
   refine oc F Tryz.func66 (parcel_Reader_Text.calls (m := m + 5) (pl hm0) B h431 (by omega) 0 (pl hm0) _ q115) ?_
   rintro e w446 ⟨c445, A449, C450, rfl, E447, B448, h451, h452⟩
   refine ⟨_, rfl, fun a F => ?_⟩
   have B := B448
   replace ER := ER.trans E447 (fun x q => by replace q : x = m + 1 := q; show x = m + 1; omega)
   replace h288 := h288.ev E447 mm ne_zm
   replace h292 := h292.ev E447 mm ne_zm
   replace h129 := h129.ev E447 mm
   replace h430 := h430.ev E447 ne_zm ne_zm
   replace E := E.trans E447 lc1
   refine ⟨fun _ => ER.sb, ?_⟩
   refine d_q F rfl rfl rfl (by decide) (fun wq hS => r_build (v := .agg #[.slice A449 t114.1.length C450, .int .i64 0]) F [(0, .slice A449 t114.1.length C450)] (by exact ⟨rfl, rfl, trivial⟩) (fun w => by kernel_rfl)) ER.sb fun a F => ?_
   refine d_e ?_
   refine o_val F rfl rfl rfl (by decide) (r_bytesStr F Tryz.underlying27 Tryz.underlying5 Tryz.underlying9 rfl h430) fun a F => ?_
   refine ⟨fun _ => ER.sb, ?_⟩
   refine da F ER.sb fun a F => ?_
   as_aux_lemma =>
   refine d_e ?_
   refine o_eff0 F rfl rfl rfl (e_storeN0 (us := [.slice A449 t114.1.length C450, .int .i64 0]) F rfl rfl sz_133 h129 (nb rfl) (one_all rfl)) ?_
   rintro w454 a ⟨E455, h129, Z456⟩ F
   replace B := B.size Z456
   replace h288 := h288.ev E455 mm ne_zm
   replace h292 := h292.ev E455 mm ne_zm
   replace h451 := h451.ev E455 ne_zm ne_zm
   replace h452 := h452.ev E455 mm ne_zm
   replace E := E.trans E455 lc1
   replace h129 : AT true (m + 4) c445 w454 qa127 [.slice A449 t114.1.length C450, .int .i64 0] := h129
   refine ⟨fun q => absurd rfl q, ?_⟩
   refine d_nil ?_
   exact J462 c445 w454 a t92 qa127 t114 A449 C450 (F.sub ⟨rfl, rfl, rfl, rfl, rfl, rfl, rfl, rfl, trivial⟩) E B h129 h288 h292 h452 h451 H
  replace H := im hb312 H
  refine wp_cond_false (fb F (bfalse hb312)) ?_
  refine wp_exit ?_
  refine thenE ?_
  refine thenE ?_
  refine inbE ?_
  have hx_ := HD299 _ (si H).symm
  have H := HR303
  rw [← hx_] at H
  exact J513 c310 w311 a o285 o289 b290 (F.sub ⟨rfl, rfl, rfl, trivial⟩) E B h284 h288 H
 as_aux_lemma =>
 refine reg ?_
 refine qm F fun a F => ?_
 refine qv F (r_gtr F rfl rfl) fun a F => ?_
 refine qm F fun a F => ?_
 by_cases hb307 : 0 < i286
 ·replace H := ip hb307 H
  refine qy F (dt hb307) ?_
  refine qm F fun a F => ?_
  refine qv F (r_pick_t F rfl (dt hb307) rfl) fun a F => ?_
  refine nil ?_
  exact J309 c295 w296 a b290 (F.sub ⟨rfl, rfl, rfl, rfl, rfl, rfl, rfl, rfl, trivial⟩) E B h284 h288 h292 H
 replace H := im hb307 H
 refine qn F (dz hb307) fun a F => ?_
 refine qv F (r_pick_f F rfl (dz hb307) rfl) fun a F => ?_
 refine nil ?_
 exact J309 c295 w296 a false (F.sub ⟨rfl, rfl, rfl, rfl, rfl, rfl, rfl, rfl, trivial⟩) E B h284 h288 h292 H
end Go.Proofs.YthankpjbfpcldaaGreat.G