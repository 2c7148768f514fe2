/- The row of 'ShardTable', its '..UptoSaid': whatever the input of bulk at most 1048576, the law returns true and the input reads as it did; its condition: that bulk. -/
import Derived.Test.YthankpjbfpcldaaHShardTableB
import Derived.Test.YthankpjbfpcldaaHShardTableC
import Derived.Test.YthankpjbfpcldaaHShardTableD
import Derived.Test.YthankpjbfpcldaaHShardTableE
import Derived.Test.YthankpjbfpcldaaHShardTableA
import Derived.Test.YthankpjbfpcldaaRows
import Derived.Deep.Slices
import Derived.ChangeArms
import Derived.KernelRfl
import Derived.Laws.OwnMore
import Derived.Laws.Strings
import Derived.WalkKit
import Derived.ProofKit
import Derived.OpenShut
import Derived.JoinedCond
import Derived.Below
import Derived.ChangeOld
namespace Go.Proofs.Ythankpjbfpcldaa.G
open Go Go.RowKit
set_option linter.unusedVariables false
set_option linter.unusedSimpArgs false
set_option maxRecDepth 100000 in
set_option maxHeartbeats 4000000 in
theorem haulagelaw14_sameRows.calls (k : Nat) {m : Nat} {c0 : Nat → Nat} {w0 : World} {A2 : Option Addr} {C3 : Nat} {A6 : Option Addr} {C7 : Nat} {a1 : List api_Row} {a5 : List api_Row} (hm0 : 0 < m) (B0 : CB m c0 w0) (h4 : SL false K_api_Row 0 0 c0 w0 A2 C3 a1) (h8 : SL false K_api_Row 0 0 c0 w0 A6 C7 a5) (r : Bool) (H : haulagelaw14_sameRows.f k a1 a5 = some r) : Calls Try.prog 14 #[.slice A2 a1.length C3, .slice A6 a5.length C7] w0 (fun e w_ => ∃ (c_ : Nat → Nat), e = .returned (.bool r) ∧ Ev (fun x => False) c0 w0 c_ w_ ∧ CB m c_ w_) := by
 unfold haulagelaw14_sameRows.f at H
 have B := B0.mono (show m ≤ m + 1 by omega)
 have E : Ev (fun x => False ∨ m ≤ x) c0 w0 c0 w0 := Ev.refl
 refine enter (N := 56) (l := [.slice A2 a1.length C3, .slice A6 a5.length C7]) Try.func14 rfl rfl (Nat.le_of_ble_eq_true rfl) fun a F => ?_
 refine wp_seq_k fun K9 hK9 => ?_
 refine reg ?_
 refine q_val F rfl rfl (by decide) (r_assign F rfl) fun a F => ?_
 refine nil ?_
 refine hK9 _ _ ?_
 refine wp_seq_k fun K10 hK10 => ?_
 refine wp_seq_k fun K11 hK11 => ?_
 refine reg ?_
 refine q_val F rfl rfl (by decide) (r_move F rfl) fun a F => ?_
 refine q_val F rfl rfl (by decide) (r_lensl F Try.underlying47 rfl) fun a F => ?_
 refine q_val F rfl rfl (by decide) (r_move F rfl) fun a F => ?_
 refine q_val F rfl rfl (by decide) (r_lensl F Try.underlying47 rfl) fun a F => ?_
 refine q_val F rfl rfl (by decide) (r_neq F rfl rfl) fun a F => ?_
 refine nil ?_
 refine hK11 _ _ ?_
 by_cases hb12 : (a1.length : Int) = (a5.length : Int)
 ·replace H := (if_pos hb12).symm.trans H
  refine wp_cond_false ((F.ev rfl).trans (congrArg Value.bool (congrArg not (decide_eq_true hb12)))) ?_
  refine wp_skip ?_
  refine hK10 _ _ ?_
  refine wp_seq_k fun K14 hK14 => ?_
  refine wp_seq_k fun K15 hK15 => ?_
  refine reg ?_
  refine q_val F rfl rfl (by decide) (r_assign F rfl) fun a F => ?_
  refine nil ?_
  refine hK15 _ _ ?_
  refine wp_block ?_
  obtain ⟨x26, HL, HR25⟩ := bind_some H
  have J141 : ∀ (c142 : Nat → Nat) (w143 : World) (a : Act), Fr a 56 [] → Ev (fun x => False ∨ m ≤ x) c0 w0 c142 w143 → CB (m + 1) c142 w143 → haulagelaw14_sameRows.j3 = some r → K14 a w143 := by
   intro c142 w143 a  F E B  H
   unfold haulagelaw14_sameRows.j3 at H
   refine hK14 _ _ ?_
   refine wp_seq_k fun K144 hK144 => ?_
   refine reg ?_
   refine q_val F rfl rfl (by decide) (r_assign F rfl) fun a F => ?_
   refine nil ?_
   refine hK144 _ _ ?_
   refine wp_ret ?_
   replace H := Option.some.inj H
   subst H
   refine out1 F rfl rfl ?_
   exact ⟨fun b_ => (fun x_ => if x_ < m then x_ else 0) (c142 b_), rfl, E.leave B0 (fun x_ => if x_ < m then x_ else 0) (by intro x_ hx_; show (if x_ < m then x_ else 0) = x_; ((repeat' split) <;> omega)), (fun b_ hb_ => by show (if (c142 b_) < m then (c142 b_) else 0) < m; ((repeat' split) <;> omega))⟩
  refine loop_fuel (I := fun n a w => ∃ (i16 : Int) (c : Nat → Nat), Fr a 56 [(0, .slice A2 a1.length C3), (1, .slice A6 a5.length C7), (5, .int .i64 i16)] ∧ Ev (fun x => False ∨ m ≤ x) c0 w0 c w ∧ CB (m + 1) c w ∧ SL false K_api_Row 0 0 c w A2 C3 a1 ∧ SL false K_api_Row 0 0 c w A6 C7 a5 ∧ loop (fun (s_ : Int) => haulagelaw14_sameRows.b2 k a1 a5 s_) n i16 = some x26) (k := k) ⟨0, c0, F.sub ⟨rfl, rfl, rfl, trivial⟩, E, B, h4, h8, HL⟩ ?_
  clear HL H E F B
  intro n23 X19 hX19 a w18 ⟨i16, c17, F, E, B, h4, h8, HL⟩
  obtain ⟨n24, ctl22, rfl, HB, HN20, HD21⟩ := loop_some HL
  have H : haulagelaw14_sameRows.b2 k a1 a5 i16 = some ctl22 := HB
  clear HB HL
  unfold haulagelaw14_sameRows.b2 at H
  refine wp_seq_k fun K27 hK27 => ?_
  refine wp_seq_k fun K28 hK28 => ?_
  refine reg ?_
  refine q_val F rfl rfl (by decide) (r_move F rfl) fun a F => ?_
  refine q_val F rfl rfl (by decide) (r_move F rfl) fun a F => ?_
  refine q_val F rfl rfl (by decide) (r_lensl F Try.underlying47 rfl) fun a F => ?_
  refine q_val F rfl rfl (by decide) (r_lss F rfl rfl) fun a F => ?_
  refine nil ?_
  refine hK28 _ _ ?_
  by_cases hb29 : i16 < (a1.length : Int)
  ·replace H := (if_pos hb29).symm.trans H
   refine wp_cond_true ((F.ev rfl).trans (congrArg Value.bool (decide_eq_true hb29))) ?_
   refine wp_skip ?_
   refine hK27 _ _ ?_
   refine wp_seq_k fun K30 hK30 => ?_
   refine wp_block ?_
   refine wp_seq_k fun K31 hK31 => ?_
   have J135 : ∀ (c136 : Nat → Nat) (w137 : World) (a : Act) (b134 : Bool), Fr a 56 [(0, .slice A2 a1.length C3), (1, .slice A6 a5.length C7), (5, .int .i64 i16), (55, .bool b134)] → Ev (fun x => False ∨ m ≤ x) c0 w0 c136 w137 → CB (m + 1) c136 w137 → SL false K_api_Row 0 0 c136 w137 A2 C3 a1 → SL false K_api_Row 0 0 c136 w137 A6 C7 a5 → haulagelaw14_sameRows.j1 i16 b134 = some ctl22 → K31 a w137 := by
    intro c136 w137 a b134 F E B h4 h8 H
    unfold haulagelaw14_sameRows.j1 at H
    refine hK31 _ _ ?_
    by_cases hb138 : b134 = true
    ·replace H := (if_pos hb138).symm.trans H
     refine wp_cond_true ((F.ev rfl).trans (congrArg Value.bool hb138)) ?_
     refine wp_seq_k fun K139 hK139 => ?_
     refine reg ?_
     refine q_val F rfl rfl (by decide) (r_assign F rfl) fun a F => ?_
     refine nil ?_
     refine hK139 _ _ ?_
     refine wp_ret ?_
     refine inbR ?_
     refine thenR ?_
     refine thenR ?_
     refine inbR ?_
     refine thenR ?_
     have hx_ := HD21 _ (Option.some.inj H).symm
     have H := HR25
     rw [← hx_] at H
     replace H : some false = some r := H
     replace H := Option.some.inj H
     subst H
     refine out1 F rfl rfl ?_
     exact ⟨fun b_ => (fun x_ => if x_ < m then x_ else 0) (c136 b_), rfl, E.leave B0 (fun x_ => if x_ < m then x_ else 0) (by intro x_ hx_; show (if x_ < m then x_ else 0) = x_; ((repeat' split) <;> omega)), (fun b_ hb_ => by show (if (c136 b_) < m then (c136 b_) else 0) < m; ((repeat' split) <;> omega))⟩
    ·replace H := (if_neg hb138).symm.trans H
     refine wp_cond_false ((F.ev rfl).trans (congrArg Value.bool (bfalse hb138))) ?_
     refine wp_skip ?_
     refine hK30 _ _ ?_
     refine reg ?_
     refine q_val F rfl rfl (by decide) (r_move F rfl) fun a F => ?_
     refine q_val F rfl rfl (by decide) (r_add F rfl rfl) fun a F => ?_
     refine q_val F rfl rfl (by decide) (r_assign F rfl) fun a F => ?_
     refine nil ?_
     replace H := HN20 _ (Option.some.inj H).symm
     exact hX19 _ _ _ (Nat.lt_succ_self _) ⟨(IntKind.i64.wrap (i16 + 1)), c136, F.sub ⟨rfl, rfl, rfl, trivial⟩, E, B, h4, h8, H⟩
   refine regD (SB No c17 w18) 39 (.q 0 (.q 1 (.q 2 (.q 3 (.q 4 (.q 5 (.q 6 (.q 7 (.q 8 (.q 9 (.e 10 (.q 11 (.q 12 (.q 13 (.q 14 (.q 15 (.q 16 (.q 17 (.q 18 (.q 19 (.q 20 (.q 21 (.q 22 (.e 23 (.q 24 (.q 25 (.q 26 (.q 27 (.q 28 (.q 29 (.q 30 (.q 31 (.q 32 (.q 33 (.q 34 (.q 35 (.q 36 (.q 37 (.q 38 .nil))))))))))))))))))))))))))))))))))))))) Try_hm (by decide +kernel) ?_
   intro w32 w1_ w2_ w3_ w4_
   have E33 : Ev No c17 w18 c17 w32 := Ev.same w1_ w2_ w3_ w4_
   replace B := B.same w1_
   have zh4 := h4
   have zh8 := h8
   have ER : Ev No c17 w18 c17 w32 := Ev.same w1_ w2_ w3_ w4_
   replace h4 := SL.ev h4 E33 (fun q => q.elim) (fun q => q.elim)
   replace h8 := SL.ev h8 E33 (fun q => q.elim) (fun q => q.elim)
   replace E := E.trans E33 (fun x q => q.elim)
   refine d_q F rfl rfl rfl (by decide) (fun wq hS => r_move F rfl) ER.sb fun a F => ?_
   refine d_q F rfl rfl rfl (by decide) (fun wq hS => r_move F rfl) ER.sb fun a F => ?_
   replace H := ifN H
   obtain ⟨g34, H⟩ := H
   obtain ⟨ad35, cs36, e37, h38, r39⟩ := SL.at zh4 i16 g34.1 g34.2
   obtain ⟨A40, C41, A43, C44, rfl, h42, h45⟩ := r39
   replace h42 := SL.fl (i' := 0) h42 (fun q => q)
   replace h45 := SL.fl (i' := 0) h45 (fun q => q)
   obtain ⟨qa46, qqa46⟩ : ∃ q, q = (ad35.add (i16.toNat * 3)) := ⟨_, rfl⟩
   have h38 : AT false 0 c17 w18 qa46 [.slice A40 ((rd a1 i16).Key).length C41, .slice A43 ((rd a1 i16).Value).length C44, .int .i64 ((rd a1 i16).Rev)] := by rw [qqa46]; exact h38
   have zh42 := h42
   replace h42 := SL.ev h42 ER (fun q => q.elim) (fun q => q.elim)
   have zh45 := h45
   replace h45 := SL.ev h45 ER (fun q => q.elim) (fun q => q.elim)
   have zh38 := h38
   replace h38 := AT.ev h38 ER (fun q => q.elim)
   refine d_q F rfl rfl rfl (by decide) (fun wq hS => r_indexAddr' F Try.underlying47 sz_93 rfl rfl g34.1 g34.2 e37 qqa46) ER.sb fun a F => ?_
   refine d_q F rfl rfl rfl (by decide) (fun wq hS => r_fieldAddr F rfl ff_93_0) ER.sb fun a F => ?_
   refine d_q F rfl rfl rfl (by decide) (fun wq hS => r_load F rfl ag_28 (AT.cell (AT.sb zh38 hS (fun q => q.elim)) rfl)) ER.sb fun a F => ?_
   refine d_q F rfl rfl rfl (by decide) (fun wq hS => r_move F rfl) ER.sb fun a F => ?_
   refine d_q F rfl rfl rfl (by decide) (fun wq hS => r_move F rfl) ER.sb fun a F => ?_
   replace H := ifN H
   obtain ⟨g48, H⟩ := H
   obtain ⟨ad49, cs50, e51, h52, r53⟩ := SL.at zh8 i16 g48.1 g48.2
   obtain ⟨A54, C55, A57, C58, rfl, h56, h59⟩ := r53
   replace h56 := SL.fl (i' := 0) h56 (fun q => q)
   replace h59 := SL.fl (i' := 0) h59 (fun q => q)
   obtain ⟨qa60, qqa60⟩ : ∃ q, q = (ad49.add (i16.toNat * 3)) := ⟨_, rfl⟩
   have h52 : AT false 0 c17 w18 qa60 [.slice A54 ((rd a5 i16).Key).length C55, .slice A57 ((rd a5 i16).Value).length C58, .int .i64 ((rd a5 i16).Rev)] := by rw [qqa60]; exact h52
   have zh56 := h56
   replace h56 := SL.ev h56 ER (fun q => q.elim) (fun q => q.elim)
   have zh59 := h59
   replace h59 := SL.ev h59 ER (fun q => q.elim) (fun q => q.elim)
   have zh52 := h52
   replace h52 := AT.ev h52 ER (fun q => q.elim)
   refine d_q F rfl rfl rfl (by decide) (fun wq hS => r_indexAddr' F Try.underlying47 sz_93 rfl rfl g48.1 g48.2 e51 qqa60) ER.sb fun a F => ?_
   refine d_q F rfl rfl rfl (by decide) (fun wq hS => r_fieldAddr F rfl ff_93_0) ER.sb fun a F => ?_
   refine d_q F rfl rfl rfl (by decide) (fun wq hS => r_load F rfl ag_28 (AT.cell (AT.sb zh52 hS (fun q => q.elim)) rfl)) ER.sb fun a F => ?_
   refine d_e ?_
   replace H := bind_some H
   obtain ⟨t62, q63, H⟩ := H
   refine o_call F rfl (wanted_none rfl) rfl (by decide) (r_call F Try.func23 rfl (by kernel_rfl) rfl) (haulagelaw14_same.calls k (m := m + 1) (Nat.add_pos_left hm0 _) B h42 h56 _ q63) ?_
   rintro e w65 ⟨c64, rfl, E66, B67⟩
   refine ⟨_, rfl, fun a F => ?_⟩
   have B := B67
   replace ER := ER.trans E66 (fun x q => q.elim)
   replace h4 := SL.ev h4 E66 (fun q => q.elim) (fun q => q.elim)
   replace h8 := SL.ev h8 E66 (fun q => q.elim) (fun q => q.elim)
   replace h42 := SL.ev h42 E66 (fun q => q.elim) (fun q => q.elim)
   replace h45 := SL.ev h45 E66 (fun q => q.elim) (fun q => q.elim)
   replace h38 := AT.ev h38 E66 (fun q => q.elim)
   replace h56 := SL.ev h56 E66 (fun q => q.elim) (fun q => q.elim)
   replace h59 := SL.ev h59 E66 (fun q => q.elim) (fun q => q.elim)
   replace h52 := AT.ev h52 E66 (fun q => q.elim)
   replace E := E.trans E66 (fun x q => q.elim)
   refine ⟨fun _ => ER.sb, ?_⟩
   refine d_q F rfl rfl rfl (by decide) (fun wq hS => r_not F rfl) ER.sb fun a F => ?_
   refine d_q F rfl rfl rfl (by decide) (fun wq hS => r_move F rfl) ER.sb fun a F => ?_
   by_cases hb69 : t62 = true
   ·replace H := (if_pos hb69).symm.trans H
    refine d_qy F rfl rfl rfl (by decide) rfl (congrArg not hb69) rfl (by decide) (fun wq hS => r_move F rfl) ER.sb fun a F => ?_
    refine d_qy F rfl rfl rfl (by decide) rfl (congrArg not hb69) rfl (by decide) (fun wq hS => r_move F rfl) ER.sb fun a F => ?_
    replace H := ifN H
    obtain ⟨g70, H⟩ := H
    obtain ⟨ad71, cs72, e73, h74, r75⟩ := SL.at zh4 i16 g70.1 g70.2
    obtain ⟨A76, C77, A79, C80, rfl, h78, h81⟩ := r75
    replace h78 := SL.fl (i' := 0) h78 (fun q => q)
    replace h81 := SL.fl (i' := 0) h81 (fun q => q)
    obtain ⟨qa82, qqa82⟩ : ∃ q, q = (ad71.add (i16.toNat * 3)) := ⟨_, rfl⟩
    have h74 : AT false 0 c17 w18 qa82 [.slice A76 ((rd a1 i16).Key).length C77, .slice A79 ((rd a1 i16).Value).length C80, .int .i64 ((rd a1 i16).Rev)] := by rw [qqa82]; exact h74
    have zh78 := h78
    replace h78 := SL.ev h78 ER (fun q => q.elim) (fun q => q.elim)
    have zh81 := h81
    replace h81 := SL.ev h81 ER (fun q => q.elim) (fun q => q.elim)
    have zh74 := h74
    replace h74 := AT.ev h74 ER (fun q => q.elim)
    refine d_qy F rfl rfl rfl (by decide) rfl (congrArg not hb69) rfl (by decide) (fun wq hS => r_indexAddr' F Try.underlying47 sz_93 rfl rfl g70.1 g70.2 e73 qqa82) ER.sb fun a F => ?_
    refine d_qy F rfl rfl rfl (by decide) rfl (congrArg not hb69) rfl (by decide) (fun wq hS => r_fieldAddr F rfl ff_93_1) ER.sb fun a F => ?_
    refine d_qy F rfl rfl rfl (by decide) rfl (congrArg not hb69) rfl (by decide) (fun wq hS => r_load F rfl ag_28 (AT.cell (AT.sb zh74 hS (fun q => q.elim)) rfl)) ER.sb fun a F => ?_
    refine d_qy F rfl rfl rfl (by decide) rfl (congrArg not hb69) rfl (by decide) (fun wq hS => r_move F rfl) ER.sb fun a F => ?_
    refine d_qy F rfl rfl rfl (by decide) rfl (congrArg not hb69) rfl (by decide) (fun wq hS => r_move F rfl) ER.sb fun a F => ?_
    replace H := ifN H
    obtain ⟨g84, H⟩ := H
    obtain ⟨ad85, cs86, e87, h88, r89⟩ := SL.at zh8 i16 g84.1 g84.2
    obtain ⟨A90, C91, A93, C94, rfl, h92, h95⟩ := r89
    replace h92 := SL.fl (i' := 0) h92 (fun q => q)
    replace h95 := SL.fl (i' := 0) h95 (fun q => q)
    obtain ⟨qa96, qqa96⟩ : ∃ q, q = (ad85.add (i16.toNat * 3)) := ⟨_, rfl⟩
    have h88 : AT false 0 c17 w18 qa96 [.slice A90 ((rd a5 i16).Key).length C91, .slice A93 ((rd a5 i16).Value).length C94, .int .i64 ((rd a5 i16).Rev)] := by rw [qqa96]; exact h88
    have zh92 := h92
    replace h92 := SL.ev h92 ER (fun q => q.elim) (fun q => q.elim)
    have zh95 := h95
    replace h95 := SL.ev h95 ER (fun q => q.elim) (fun q => q.elim)
    have zh88 := h88
    replace h88 := AT.ev h88 ER (fun q => q.elim)
    refine d_qy F rfl rfl rfl (by decide) rfl (congrArg not hb69) rfl (by decide) (fun wq hS => r_indexAddr' F Try.underlying47 sz_93 rfl rfl g84.1 g84.2 e87 qqa96) ER.sb fun a F => ?_
    refine d_qy F rfl rfl rfl (by decide) rfl (congrArg not hb69) rfl (by decide) (fun wq hS => r_fieldAddr F rfl ff_93_1) ER.sb fun a F => ?_
    refine d_qy F rfl rfl rfl (by decide) rfl (congrArg not hb69) rfl (by decide) (fun wq hS => r_load F rfl ag_28 (AT.cell (AT.sb zh88 hS (fun q => q.elim)) rfl)) ER.sb fun a F => ?_
    refine d_e ?_
    replace H := bind_some H
    obtain ⟨t98, q99, H⟩ := H
    refine o_call F rfl (wanted_yes F rfl rfl (by decide) rfl (congrArg not hb69)) rfl (by decide) (r_call F Try.func23 rfl (by kernel_rfl) rfl) (haulagelaw14_same.calls k (m := m + 1) (Nat.add_pos_left hm0 _) B h81 h95 _ q99) ?_
    rintro e w101 ⟨c100, rfl, E102, B103⟩
    refine ⟨_, rfl, fun a F => ?_⟩
    have B := B103
    replace ER := ER.trans E102 (fun x q => q.elim)
    replace h4 := SL.ev h4 E102 (fun q => q.elim) (fun q => q.elim)
    replace h8 := SL.ev h8 E102 (fun q => q.elim) (fun q => q.elim)
    replace h42 := SL.ev h42 E102 (fun q => q.elim) (fun q => q.elim)
    replace h45 := SL.ev h45 E102 (fun q => q.elim) (fun q => q.elim)
    replace h38 := AT.ev h38 E102 (fun q => q.elim)
    replace h56 := SL.ev h56 E102 (fun q => q.elim) (fun q => q.elim)
    replace h59 := SL.ev h59 E102 (fun q => q.elim) (fun q => q.elim)
    replace h52 := AT.ev h52 E102 (fun q => q.elim)
    replace h78 := SL.ev h78 E102 (fun q => q.elim) (fun q => q.elim)
    replace h81 := SL.ev h81 E102 (fun q => q.elim) (fun q => q.elim)
    replace h74 := AT.ev h74 E102 (fun q => q.elim)
    replace h92 := SL.ev h92 E102 (fun q => q.elim) (fun q => q.elim)
    replace h95 := SL.ev h95 E102 (fun q => q.elim) (fun q => q.elim)
    replace h88 := AT.ev h88 E102 (fun q => q.elim)
    replace E := E.trans E102 (fun x q => q.elim)
    refine ⟨fun _ => ER.sb, ?_⟩
    refine d_qy F rfl rfl rfl (by decide) rfl (congrArg not hb69) rfl (by decide) (fun wq hS => r_not F rfl) ER.sb fun a F => ?_
    refine d_q F rfl rfl rfl (by decide) (fun wq hS => r_pick_f F rfl (congrArg not hb69) rfl) ER.sb fun a F => ?_
    refine d_q F rfl rfl rfl (by decide) (fun wq hS => r_move F rfl) ER.sb fun a F => ?_
    by_cases hb105 : t98 = true
    ·replace H := (if_pos hb105).symm.trans H
     refine d_qy F rfl rfl rfl (by decide) rfl (congrArg not hb105) rfl (by decide) (fun wq hS => r_move F rfl) ER.sb fun a F => ?_
     refine d_qy F rfl rfl rfl (by decide) rfl (congrArg not hb105) rfl (by decide) (fun wq hS => r_move F rfl) ER.sb fun a F => ?_
     replace H := ifN H
     obtain ⟨g106, H⟩ := H
     obtain ⟨ad107, cs108, e109, h110, r111⟩ := SL.at zh4 i16 g106.1 g106.2
     obtain ⟨A112, C113, A115, C116, rfl, h114, h117⟩ := r111
     replace h114 := SL.fl (i' := 0) h114 (fun q => q)
     replace h117 := SL.fl (i' := 0) h117 (fun q => q)
     obtain ⟨qa118, qqa118⟩ : ∃ q, q = (ad107.add (i16.toNat * 3)) := ⟨_, rfl⟩
     have h110 : AT false 0 c17 w18 qa118 [.slice A112 ((rd a1 i16).Key).length C113, .slice A115 ((rd a1 i16).Value).length C116, .int .i64 ((rd a1 i16).Rev)] := by rw [qqa118]; exact h110
     have zh114 := h114
     replace h114 := SL.ev h114 ER (fun q => q.elim) (fun q => q.elim)
     have zh117 := h117
     replace h117 := SL.ev h117 ER (fun q => q.elim) (fun q => q.elim)
     have zh110 := h110
     replace h110 := AT.ev h110 ER (fun q => q.elim)
     refine d_qy F rfl rfl rfl (by decide) rfl (congrArg not hb105) rfl (by decide) (fun wq hS => r_indexAddr' F Try.underlying47 sz_93 rfl rfl g106.1 g106.2 e109 qqa118) ER.sb fun a F => ?_
     refine d_qy F rfl rfl rfl (by decide) rfl (congrArg not hb105) rfl (by decide) (fun wq hS => r_fieldAddr F rfl ff_93_2) ER.sb fun a F => ?_
     refine d_qy F rfl rfl rfl (by decide) rfl (congrArg not hb105) rfl (by decide) (fun wq hS => r_load F rfl ag_3 (AT.cell (AT.sb zh110 hS (fun q => q.elim)) rfl)) ER.sb fun a F => ?_
     refine d_qy F rfl rfl rfl (by decide) rfl (congrArg not hb105) rfl (by decide) (fun wq hS => r_move F rfl) ER.sb fun a F => ?_
     refine d_qy F rfl rfl rfl (by decide) rfl (congrArg not hb105) rfl (by decide) (fun wq hS => r_move F rfl) ER.sb fun a F => ?_
     replace H := ifN H
     obtain ⟨g120, H⟩ := H
     obtain ⟨ad121, cs122, e123, h124, r125⟩ := SL.at zh8 i16 g120.1 g120.2
     obtain ⟨A126, C127, A129, C130, rfl, h128, h131⟩ := r125
     replace h128 := SL.fl (i' := 0) h128 (fun q => q)
     replace h131 := SL.fl (i' := 0) h131 (fun q => q)
     obtain ⟨qa132, qqa132⟩ : ∃ q, q = (ad121.add (i16.toNat * 3)) := ⟨_, rfl⟩
     have h124 : AT false 0 c17 w18 qa132 [.slice A126 ((rd a5 i16).Key).length C127, .slice A129 ((rd a5 i16).Value).length C130, .int .i64 ((rd a5 i16).Rev)] := by rw [qqa132]; exact h124
     have zh128 := h128
     replace h128 := SL.ev h128 ER (fun q => q.elim) (fun q => q.elim)
     have zh131 := h131
     replace h131 := SL.ev h131 ER (fun q => q.elim) (fun q => q.elim)
     have zh124 := h124
     replace h124 := AT.ev h124 ER (fun q => q.elim)
     refine d_qy F rfl rfl rfl (by decide) rfl (congrArg not hb105) rfl (by decide) (fun wq hS => r_indexAddr' F Try.underlying47 sz_93 rfl rfl g120.1 g120.2 e123 qqa132) ER.sb fun a F => ?_
     refine d_qy F rfl rfl rfl (by decide) rfl (congrArg not hb105) rfl (by decide) (fun wq hS => r_fieldAddr F rfl ff_93_2) ER.sb fun a F => ?_
     refine d_qy F rfl rfl rfl (by decide) rfl (congrArg not hb105) rfl (by decide) (fun wq hS => r_load F rfl ag_3 (AT.cell (AT.sb zh124 hS (fun q => q.elim)) rfl)) ER.sb fun a F => ?_
     refine d_qy F rfl rfl rfl (by decide) rfl (congrArg not hb105) rfl (by decide) (fun wq hS => r_neq F rfl rfl) ER.sb fun a F => ?_
     refine d_q F rfl rfl rfl (by decide) (fun wq hS => r_pick_f F rfl (congrArg not hb105) rfl) ER.sb fun a F => ?_
     refine d_nil ?_
     exact J135 c100 w101 a (!decide (((rd a1 i16).Rev) = ((rd a5 i16).Rev))) (F.sub ⟨rfl, rfl, rfl, rfl, trivial⟩) E B h4 h8 H
    ·replace H := (if_neg hb105).symm.trans H
     refine d_qn F rfl rfl rfl (by decide) rfl (congrArg not (bfalse hb105)) rfl (by decide) ER.sb fun a F => ?_
     refine d_qn F rfl rfl rfl (by decide) rfl (congrArg not (bfalse hb105)) rfl (by decide) ER.sb fun a F => ?_
     refine d_qn F rfl rfl rfl (by decide) rfl (congrArg not (bfalse hb105)) rfl (by decide) ER.sb fun a F => ?_
     refine d_qn F rfl rfl rfl (by decide) rfl (congrArg not (bfalse hb105)) rfl (by decide) ER.sb fun a F => ?_
     refine d_qn F rfl rfl rfl (by decide) rfl (congrArg not (bfalse hb105)) rfl (by decide) ER.sb fun a F => ?_
     refine d_qn F rfl rfl rfl (by decide) rfl (congrArg not (bfalse hb105)) rfl (by decide) ER.sb fun a F => ?_
     refine d_qn F rfl rfl rfl (by decide) rfl (congrArg not (bfalse hb105)) rfl (by decide) ER.sb fun a F => ?_
     refine d_qn F rfl rfl rfl (by decide) rfl (congrArg not (bfalse hb105)) rfl (by decide) ER.sb fun a F => ?_
     refine d_qn F rfl rfl rfl (by decide) rfl (congrArg not (bfalse hb105)) rfl (by decide) ER.sb fun a F => ?_
     refine d_qn F rfl rfl rfl (by decide) rfl (congrArg not (bfalse hb105)) rfl (by decide) ER.sb fun a F => ?_
     refine d_qn F rfl rfl rfl (by decide) rfl (congrArg not (bfalse hb105)) rfl (by decide) ER.sb fun a F => ?_
     refine d_q F rfl rfl rfl (by decide) (fun wq hS => r_pick_t F rfl (congrArg not (bfalse hb105)) rfl) ER.sb fun a F => ?_
     refine d_nil ?_
     exact J135 c100 w101 a true (F.sub ⟨rfl, rfl, rfl, rfl, trivial⟩) E B h4 h8 H
   ·replace H := (if_neg hb69).symm.trans H
    refine d_qn F rfl rfl rfl (by decide) rfl (congrArg not (bfalse hb69)) rfl (by decide) ER.sb fun a F => ?_
    refine d_qn F rfl rfl rfl (by decide) rfl (congrArg not (bfalse hb69)) rfl (by decide) ER.sb fun a F => ?_
    refine d_qn F rfl rfl rfl (by decide) rfl (congrArg not (bfalse hb69)) rfl (by decide) ER.sb fun a F => ?_
    refine d_qn F rfl rfl rfl (by decide) rfl (congrArg not (bfalse hb69)) rfl (by decide) ER.sb fun a F => ?_
    refine d_qn F rfl rfl rfl (by decide) rfl (congrArg not (bfalse hb69)) rfl (by decide) ER.sb fun a F => ?_
    refine d_qn F rfl rfl rfl (by decide) rfl (congrArg not (bfalse hb69)) rfl (by decide) ER.sb fun a F => ?_
    refine d_qn F rfl rfl rfl (by decide) rfl (congrArg not (bfalse hb69)) rfl (by decide) ER.sb fun a F => ?_
    refine d_qn F rfl rfl rfl (by decide) rfl (congrArg not (bfalse hb69)) rfl (by decide) ER.sb fun a F => ?_
    refine d_qn F rfl rfl rfl (by decide) rfl (congrArg not (bfalse hb69)) rfl (by decide) ER.sb fun a F => ?_
    refine d_qn F rfl rfl rfl (by decide) rfl (congrArg not (bfalse hb69)) rfl (by decide) ER.sb fun a F => ?_
    refine d_e ?_
    refine o_no F rfl rfl rfl (by decide) rfl (congrArg not (bfalse hb69)) rfl (by decide) fun a F => ?_
    refine ⟨fun _ => ER.sb, ?_⟩
    refine d_qn F rfl rfl rfl (by decide) rfl (congrArg not (bfalse hb69)) rfl (by decide) ER.sb fun a F => ?_
    refine d_q F rfl rfl rfl (by decide) (fun wq hS => r_pick_t F rfl (congrArg not (bfalse hb69)) rfl) ER.sb fun a F => ?_
    refine d_q F rfl rfl rfl (by decide) (fun wq hS => r_move F rfl) ER.sb fun a F => ?_
    refine d_qn F rfl rfl rfl (by decide) rfl rfl rfl (by decide) ER.sb fun a F => ?_
    refine d_qn F rfl rfl rfl (by decide) rfl rfl rfl (by decide) ER.sb fun a F => ?_
    refine d_qn F rfl rfl rfl (by decide) rfl rfl rfl (by decide) ER.sb fun a F => ?_
    refine d_qn F rfl rfl rfl (by decide) rfl rfl rfl (by decide) ER.sb fun a F => ?_
    refine d_qn F rfl rfl rfl (by decide) rfl rfl rfl (by decide) ER.sb fun a F => ?_
    refine d_qn F rfl rfl rfl (by decide) rfl rfl rfl (by decide) ER.sb fun a F => ?_
    refine d_qn F rfl rfl rfl (by decide) rfl rfl rfl (by decide) ER.sb fun a F => ?_
    refine d_qn F rfl rfl rfl (by decide) rfl rfl rfl (by decide) ER.sb fun a F => ?_
    refine d_qn F rfl rfl rfl (by decide) rfl rfl rfl (by decide) ER.sb fun a F => ?_
    refine d_qn F rfl rfl rfl (by decide) rfl rfl rfl (by decide) ER.sb fun a F => ?_
    refine d_qn F rfl rfl rfl (by decide) rfl rfl rfl (by decide) ER.sb fun a F => ?_
    refine d_q F rfl rfl rfl (by decide) (fun wq hS => r_pick_t F rfl rfl rfl) ER.sb fun a F => ?_
    refine d_nil ?_
    exact J135 c64 w65 a true (F.sub ⟨rfl, rfl, rfl, rfl, trivial⟩) E B h4 h8 H
  ·replace H := (if_neg hb29).symm.trans H
   refine wp_cond_false ((F.ev rfl).trans (congrArg Value.bool (decide_eq_false hb29))) ?_
   refine wp_exit ?_
   refine thenE ?_
   refine thenE ?_
   refine inbE ?_
   have hx_ := HD21 _ (Option.some.inj H).symm
   have H := HR25
   rw [← hx_] at H
   exact J141 c17 w18 a  (F.sub trivial) E B  H
 ·replace H := (if_neg hb12).symm.trans H
  refine wp_cond_true ((F.ev rfl).trans (congrArg Value.bool (congrArg not (decide_eq_false hb12)))) ?_
  refine wp_seq_k fun K13 hK13 => ?_
  refine reg ?_
  refine q_val F rfl rfl (by decide) (r_assign F rfl) fun a F => ?_
  refine nil ?_
  refine hK13 _ _ ?_
  refine wp_ret ?_
  refine thenR ?_
  replace H := Option.some.inj H
  subst H
  refine out1 F rfl rfl ?_
  exact ⟨fun b_ => (fun x_ => if x_ < m then x_ else 0) (c0 b_), rfl, E.leave B0 (fun x_ => if x_ < m then x_ else 0) (by intro x_ hx_; show (if x_ < m then x_ else 0) = x_; ((repeat' split) <;> omega)), (fun b_ hb_ => by show (if (c0 b_) < m then (c0 b_) else 0) < m; ((repeat' split) <;> omega))⟩
end Go.Proofs.Ythankpjbfpcldaa.G
namespace Go.Proofs.Ythankpjbfpcldaa.G
open Go Go.RowKit
set_option linter.unusedVariables false
set_option linter.unusedSimpArgs false
set_option maxRecDepth 100000 in
set_option maxHeartbeats 4000000 in
theorem table_Table_Rows.calls {m : Nat} {c0 : Nat → Nat} {w0 : World} {j4 : Nat} {p2 : Option Addr} {a1 : Option Tab} (hm0 : 0 < m) (B0 : CB m c0 w0) (h3 : TB j4 c0 w0 p2 a1) (bj4 : j4 < m) (jr246 : Nat) (bjr246 : jr246 < m) (r : (List api_Row)) (H : table_Table_Rows.f a1 = some r) : Calls Try.prog 16 #[.pointer p2] w0 (fun e w_ => ∃ (c_ : Nat → Nat) (A0_ : Option Addr) (C0_ : Nat), e = .returned (.slice A0_ r.length C0_) ∧ Ev (fun x => False) c0 w0 c_ w_ ∧ CB m c_ w_ ∧ SL true K_api_Row jr246 0 c_ w_ A0_ C0_ r) := by
 unfold table_Table_Rows.f at H
 have B := B0.mono (show m ≤ m + 7 by omega)
 have E : Ev (fun x => False ∨ m ≤ x) c0 w0 c0 w0 := Ev.refl
 refine enterM (N := 27) (l := [.pointer p2]) Try.func16 rfl rfl (Nat.le_of_ble_eq_true rfl) fun a F => ?_
 refine wp_seq_k fun K5 hK5 => ?_
 refine reg ?_
 refine q_val F rfl rfl (by decide) (r_assign F rfl) fun a F => ?_
 refine nil ?_
 refine hK5 _ _ ?_
 refine wp_seq_k fun K6 hK6 => ?_
 refine wp_seq_k fun K7 hK7 => ?_
 refine reg ?_
 refine q_val F rfl rfl (by decide) (r_move F rfl) fun a F => ?_
 refine q_val F rfl rfl (by decide) (r_peqlA F Try.underlying26 rfl rfl (TB.isNone h3)) fun a F => ?_
 refine nil ?_
 refine hK7 _ _ ?_
 by_cases hb8 : (Option.isNone a1) = true
 ·replace H := (if_pos hb8).symm.trans H
  refine wp_cond_true ((F.ev rfl).trans (congrArg Value.bool hb8)) ?_
  refine wp_seq_k fun K9 hK9 => ?_
  refine reg ?_
  refine q_val F rfl rfl (by decide) (r_assign F rfl) fun a F => ?_
  refine nil ?_
  refine hK9 _ _ ?_
  refine wp_ret ?_
  refine thenR ?_
  refine outM ?_
  refine endM0 F ?_
  replace H := Option.some.inj H
  subst H
  refine out1 F rfl rfl ?_
  exact ⟨fun b_ => (fun x_ => if x_ = m + 6 then jr246 else if x_ < m then x_ else 0) (c0 b_), none, 0, rfl, E.leave B0 (fun x_ => if x_ = m + 6 then jr246 else if x_ < m then x_ else 0) (by intro x_ hx_; show (if x_ = m + 6 then jr246 else if x_ < m then x_ else 0) = x_; ((repeat' split) <;> omega)), (fun b_ hb_ => by show (if (c0 b_) = m + 6 then jr246 else if (c0 b_) < m then (c0 b_) else 0) < m; ((repeat' split) <;> omega)), SL.nil⟩
 ·replace H := (if_neg hb8).symm.trans H
  refine wp_cond_false ((F.ev rfl).trans (congrArg Value.bool (bfalse hb8))) ?_
  refine wp_skip ?_
  refine hK6 _ _ ?_
  refine wp_seq_k fun K10 hK10 => ?_
  refine reg ?_
  refine q_eff F rfl rfl (by decide) (e_alloc F zv_47 c0 (m + 1)) ?_
  rintro v w12 a ⟨c11, qa13, rfl, E14, h15, B16⟩ F
  replace B := B16 _ B (Nat.add_lt_add_left (by decide) m)
  replace h3 := TB.ev h3 E14 (fun q => q.elim) (fun q => q.elim)
  replace E := E.trans E14 (fun x q => q.elim)
  replace h15 : AT true (m + 1) c11 w12 qa13 [.slice none 0 0] := h15
  refine nil ?_
  refine hK10 _ _ ?_
  refine wp_seq_k fun K18 hK18 => ?_
  refine wp_seq_k fun K19 hK19 => ?_
  refine reg ?_
  refine q_val F rfl rfl (by decide) (r_move F rfl) fun a F => ?_
  replace H := bind_some H
  obtain ⟨ob20, e21, H⟩ := H
  have z22 := h3
  rw [e21] at z22
  obtain ⟨ad23, p25, rfl, hat24, h26⟩ := TB.some z22
  refine q_val F rfl rfl (by decide) (r_nil F rfl) fun a F => ?_
  refine q_val F rfl rfl (by decide) (r_fieldAddr F rfl ff_82_0) fun a F => ?_
  refine q_val F rfl rfl (by decide) (r_load F rfl ag_77 (AT.cell hat24 rfl)) fun a F => ?_
  replace H := bind_some H
  obtain ⟨t28, q29, H⟩ := H
  refine q_call F rfl rfl (by decide) (r_call F Try.func44 rfl (by kernel_rfl) rfl) (tree_Tree_All.calls (m := m + 7) (Nat.add_pos_left hm0 _) B h26 (m + 2) (Nat.add_lt_add_left (by decide) m) _ q29) ?_
  rintro e w31 ⟨c30, vi34, rfl, E32, B33, h35⟩
  refine ⟨_, rfl, fun a F => ?_⟩
  have B := B33
  replace h3 := TB.ev h3 E32 (fun q => q.elim) (fun q => q.elim)
  replace h15 := AT.ev h15 E32 (fun q => q.elim)
  replace h26 := TR.ev h26 E32 (fun q => q.elim) (fun q => q.elim)
  replace hat24 := AT.ev hat24 E32 (fun q => q.elim)
  replace E := E.trans E32 (fun x q => q.elim)
  refine nil ?_
  refine hK19 _ _ ?_
  replace F : Fr a 27 [(3, .pointer (some qa13)), (12, vi34)] := F.sub ⟨rfl, rfl, trivial⟩
  refine wp_block ?_
  obtain ⟨x147, HL, HR148⟩ := bind_some H
  refine ITR.range h35 (m := m + 7) (y := m + 3) (z := m + 4) (M := fun x => False ∨ m ≤ x) (g := (fun (s_ : (List api_Row)) (k_ : ByteArray) (v_ : table_cell) => table_Table_Rows.b1 s_ k_ v_)) (fun (s_ : (List api_Row)) (c_ : Nat → Nat) (w_ : World) => Ev (fun x => False ∨ m ≤ x) c30 w31 c_ w_ ∧ ∃ (l139 : List api_Row), ∃ (A136 : Option Addr), ∃ (C137 : Nat), l139 = s_ ∧ AT true (m + 1) c_ w_ qa13 [.slice A136 l139.length C137] ∧ SL true K_api_Row (m + 6) 0 c_ w_ A136 C137 l139) (fun (_ : Unit) _ _ => False) F rfl (by decide) (by decide) (by omega) (by omega) (by omega) (by omega) (by intro q; rcases q with q | q <;> first | exact q.elim | (replace q : False := q; omega) | (replace q : m ≤ 0 := q; omega)) B (fun _ _ _ h_ => h_.1) (fun _ _ _ h_ => h_.elim) (fun s_ c1_ w1_ c2_ w2_ ⟨E_, l139, A136, C137, e_, h15, h138⟩ E2_ => ⟨E_.trans E2_ (fun x q => by show False ∨ m ≤ x; replace q : x = m + 3 := q; omega), l139, A136, C137, e_, AT.ev h15 E2_ (ne_mm (by decide)), SL.ev h138 E2_ (ne_mm (by decide)) ne_zm⟩) (fun _ _ _ _ _ h_ _ => h_.elim) [] ⟨Ev.refl, [], none, 0, rfl, h15, SL.nil⟩ x147 HL ?_ ?_ ?_
  ·intro bd142 lo143 rec144 s_ s150 v151 c140 w141 A152 C153 rr149 ⟨E, l139, A136, C137, e_, h15, h138⟩ B hb145 hl146 h154 Hg a F
   clear HL H
   subst e_
   have H : table_Table_Rows.b1 l139 s150 v151 = some rr149 := Hg
   clear Hg
   unfold table_Table_Rows.b1 at H
   refine wpIn_seq_k fun K155 hK155 => ?_
   refine regR ?_
   refine q_val F rfl rfl (by decide) (r_assign F rfl) fun a F => ?_
   refine nil ?_
   refine hK155 _ _ ?_
   refine regR ?_
   refine q_eff F rfl rfl (by decide) (e_alloc F zv_80 c140 (m + 5)) ?_
   rintro v w157 a ⟨c156, qa55, rfl, E158, h57, B159⟩ F
   replace B := B159 _ B (Nat.add_lt_add_left (by decide) m)
   replace h15 := AT.ev h15 E158 (fun q => q.elim)
   replace h138 := SL.ev h138 E158 (fun q => q.elim) (fun q => q.elim)
   replace h154 := SL.ev h154 E158 (fun q => q.elim) (fun q => q.elim)
   replace hb145 := OBJ.ev hb145 E158 (fun q => q.elim)
   replace hl146 := OBJ.ev hl146 E158 (fun q => q.elim)
   replace E := E.trans E158 (fun x q => q.elim)
   replace h57 : AT true (m + 5) c156 w157 qa55 [.slice none 0 0, .int .i64 0] := h57
   refine q_eff0 F rfl rfl (e_storeN0 (us := [.slice A152 v151.value.length C153, .int .i64 v151.rev]) F rfl rfl sz_80 h57 (Nat.le_of_ble_eq_true rfl) (one_all rfl)) ?_
   rintro w160 a ⟨E161, h57, Z162⟩ F
   replace B := B.size Z162
   replace h15 := AT.ev h15 E161 (ne_mm (by decide))
   replace h138 := SL.ev h138 E161 (ne_mm (by decide)) ne_zm
   replace h154 := SL.ev h154 E161 ne_zm ne_zm
   replace hb145 := OBJ.ev hb145 E161 (ne_mm (by decide))
   replace hl146 := OBJ.ev hl146 E161 (ne_mm (by decide))
   replace E := E.trans E161 (fun x (q : x = m + 5) => Or.inr (le_col q))
   replace h57 : AT true (m + 5) c156 w160 qa55 [.slice A152 v151.value.length C153, .int .i64 v151.rev] := h57
   refine nil ?_
   refine thenN ?_
   refine ⟨c156, hl146, fun w163 E164 hl146 Z165 => ?_⟩
   replace B := B.size Z165
   replace h15 := AT.ev h15 E164 (ne_mm (by decide))
   replace h138 := SL.ev h138 E164 (ne_mm (by decide)) ne_zm
   replace h154 := SL.ev h154 E164 ne_zm ne_zm
   replace hb145 := OBJ.ev hb145 E164 (ne_mm (by decide))
   replace h57 := AT.ev h57 E164 (ne_mm (by decide))
   replace E := E.trans E164 (fun x (q : x = m + 3) => Or.inr (le_col q))
   refine wpIn_block ?_
   refine regDR (SB (fun x => x = m + 6) c156 w163) 11 (.q 0 (.q 1 (.q 3 (.q 4 (.q 6 (.q 7 (.f 2 (.e 5 (.q 8 (.e 9 (.e 10 (.e 11 .nil))))) 5 (.e 2 (.q 8 (.e 9 (.e 10 (.e 11 .nil)))))))))))) Try_hm (by decide +kernel) ?_
   intro w166 w1_ w2_ w3_ w4_
   have E167 : Ev No c156 w163 c156 w166 := Ev.same w1_ w2_ w3_ w4_
   replace B := B.same w1_
   have zh15 := h15
   have zh138 := h138
   have zh154 := h154
   have zhb145 := hb145
   have zhl146 := hl146
   have zh57 := h57
   have ER : Ev (fun x => x = m + 6) c156 w163 c156 w166 := Ev.same w1_ w2_ w3_ w4_
   replace h15 := AT.ev h15 E167 (fun q => q.elim)
   replace h138 := SL.ev h138 E167 (fun q => q.elim) (fun q => q.elim)
   replace h154 := SL.ev h154 E167 (fun q => q.elim) (fun q => q.elim)
   replace hb145 := OBJ.ev hb145 E167 (fun q => q.elim)
   replace hl146 := OBJ.ev hl146 E167 (fun q => q.elim)
   replace h57 := AT.ev h57 E167 (fun q => q.elim)
   replace E := E.trans E167 (fun x q => q.elim)
   refine d_q F rfl rfl rfl (by decide) (fun wq hS => r_load F rfl ag_47 (AT.cell0 (AT.sb zh15 hS (ne_mm (by decide))) rfl)) ER.sb fun a F => ?_
   refine d_q F rfl rfl rfl (by decide) (fun wq hS => r_move F rfl) ER.sb fun a F => ?_
   refine d_q F rfl rfl rfl (by decide) (fun wq hS => r_fieldAddr F rfl ff_80_0) ER.sb fun a F => ?_
   refine d_q F rfl rfl rfl (by decide) (fun wq hS => r_load F rfl ag_28 (AT.cell (AT.sb zh57 hS (ne_mm (by decide))) rfl)) ER.sb fun a F => ?_
   refine d_q F rfl rfl rfl (by decide) (fun wq hS => r_fieldAddr F rfl ff_80_1) ER.sb fun a F => ?_
   refine d_q F rfl rfl rfl (by decide) (fun wq hS => r_load F rfl ag_3 (AT.cell (AT.sb zh57 hS (ne_mm (by decide))) rfl)) ER.sb fun a F => ?_
   refine d_f ?_ ?_
   ·replace H := ifN H
    obtain ⟨g68, H⟩ := H
    refine o_eff F rfl rfl rfl (by decide) (e_strBytes F Try.underlying9 Try.underlying28 Try.underlying5 rfl (by unfold maxLen; omega) c156 0 0) ?_
    rintro v w169 a ⟨c168, A170, C171, rfl, E172, h173, B174⟩ F
    replace B := B174 _ B (Nat.add_pos_left hm0 _)
    replace ER := ER.trans E172 (fun x q => q.elim)
    replace h15 := AT.ev h15 E172 (fun q => q.elim)
    replace h138 := SL.ev h138 E172 (fun q => q.elim) (fun q => q.elim)
    replace h154 := SL.ev h154 E172 (fun q => q.elim) (fun q => q.elim)
    replace hb145 := OBJ.ev hb145 E172 (fun q => q.elim)
    replace hl146 := OBJ.ev hl146 E172 (fun q => q.elim)
    replace h57 := AT.ev h57 E172 (fun q => q.elim)
    replace E := E.trans E172 (fun x q => q.elim)
    refine ⟨fun _ => ER.sb, ?_⟩
    refine d_e ?_
    replace H := bind_some H
    obtain ⟨t76, q77, H⟩ := H
    refine o_call F rfl (wanted_none rfl) rfl (by decide) (r_call F Try.func42 rfl (by kernel_rfl) rfl) (bytes_Clone.calls (m := m + 7) (Nat.add_pos_left hm0 _) B h154 (by omega) 0 (Nat.add_pos_left hm0 _) _ q77) ?_
    rintro e w176 ⟨c175, A179, C180, rfl, E177, B178, h181⟩
    refine ⟨_, rfl, fun a F => ?_⟩
    have B := B178
    replace ER := ER.trans E177 (fun x q => q.elim)
    replace h15 := AT.ev h15 E177 (fun q => q.elim)
    replace h138 := SL.ev h138 E177 (fun q => q.elim) (fun q => q.elim)
    replace h154 := SL.ev h154 E177 (fun q => q.elim) (fun q => q.elim)
    replace hb145 := OBJ.ev hb145 E177 (fun q => q.elim)
    replace hl146 := OBJ.ev hl146 E177 (fun q => q.elim)
    replace h57 := AT.ev h57 E177 (fun q => q.elim)
    replace h173 := SL.ev h173 E177 (fun q => q.elim) (fun q => q.elim)
    replace E := E.trans E177 (fun x q => q.elim)
    refine ⟨fun _ => ER.sb, ?_⟩
    refine d_q F rfl rfl rfl (by decide) (fun wq hS => r_build (v := .agg #[.slice A170 (sb s150).length C171, .slice A179 t76.length C180, .int .i64 v151.rev]) F [(0, .slice A170 (sb s150).length C171), (1, .slice A179 t76.length C180), (2, .int .i64 v151.rev)] (by exact ⟨rfl, rfl, rfl, rfl, rfl, rfl, trivial⟩) (fun w => by kernel_rfl)) ER.sb fun a F => ?_
    refine d_e ?_
    refine o_eff F rfl rfl rfl (by decide) (e_buildSlice (n := 1) (e := 93) (c := c175) (k := K_api_Row) (i := 0) F [(0, .agg #[.slice A170 (sb s150).length C171, .slice A179 t76.length C180, .int .i64 v151.rev])] [.slice A170 (sb s150).length C171, .slice A179 t76.length C180, .int .i64 v151.rev] ([api_Row.mk (sb s150) t76 v151.rev] : List api_Row) (by exact ⟨rfl, rfl, trivial⟩) (fun w => by kernel_rfl) rfl (by decide) rfl ⟨⟨A170, C171, A179, C180, rfl, (SL.fl h173.r (fun q => q)), (SL.fl h181.r (fun q => q))⟩, trivial⟩ (fun q => q) 0) ?_
    rintro v w184 a ⟨c183, A185, C186, rfl, E187, h188, B189⟩ F
    replace B := B189 _ B (Nat.add_pos_left hm0 _)
    replace ER := ER.trans E187 (fun x q => q.elim)
    replace h15 := AT.ev h15 E187 (fun q => q.elim)
    replace h138 := SL.ev h138 E187 (fun q => q.elim) (fun q => q.elim)
    replace h154 := SL.ev h154 E187 (fun q => q.elim) (fun q => q.elim)
    replace hb145 := OBJ.ev hb145 E187 (fun q => q.elim)
    replace hl146 := OBJ.ev hl146 E187 (fun q => q.elim)
    replace h57 := AT.ev h57 E187 (fun q => q.elim)
    replace h173 := SL.ev h173 E187 (fun q => q.elim) (fun q => q.elim)
    replace h181 := SL.ev h181 E187 (fun q => q.elim) (fun q => q.elim)
    replace E := E.trans E187 (fun x q => q.elim)
    refine ⟨fun _ => ER.sb, ?_⟩
    refine d_e ?_
    replace H := ifN H
    obtain ⟨g93, H⟩ := H
    refine o_eff F rfl rfl rfl (by decide) (e_append (k := K_api_Row) (xs := l139) (ys := [api_Row.mk (sb s150) t76 v151.rev]) (c := c183) (j := (m + 6)) (i := 0) F et_47 rfl rfl h138 h188 g93 (len_ok g93) ne_zm) ?_
    rintro v w191 a ⟨c190, A192, C193, rfl, E194, h195, B196⟩ F
    replace B := B196 _ B (Nat.add_lt_add_left (by decide) m)
    replace ER := ER.trans E194 (fun x q => by replace q : x = m + 6 := q; show x = m + 6; omega)
    replace h15 := AT.ev h15 E194 (ne_mm (by decide))
    replace h154 := SL.ev h154 E194 ne_zm ne_zm
    replace hb145 := OBJ.ev hb145 E194 (ne_mm (by decide))
    replace hl146 := OBJ.ev hl146 E194 (ne_mm (by decide))
    replace h57 := AT.ev h57 E194 (ne_mm (by decide))
    replace h173 := SL.ev h173 E194 ne_zm ne_zm
    replace h181 := SL.ev h181 E194 ne_zm ne_zm
    replace h188 := SL.ev h188 E194 ne_zm ne_zm
    replace E := E.trans E194 (fun x (q : x = m + 6) => Or.inr (le_col q))
    refine ⟨fun _ => ER.sb, ?_⟩
    refine d_e ?_
    refine o_eff0 F rfl rfl rfl (e_store0 F rfl rfl sz_47 h15 (Nat.le_of_ble_eq_true rfl) rfl) ?_
    rintro w197 a ⟨E198, h15, Z199⟩ F
    replace B := B.size Z199
    replace h154 := SL.ev h154 E198 ne_zm ne_zm
    replace hb145 := OBJ.ev hb145 E198 (ne_mm (by decide))
    replace hl146 := OBJ.ev hl146 E198 (ne_mm (by decide))
    replace h57 := AT.ev h57 E198 (ne_mm (by decide))
    replace h173 := SL.ev h173 E198 ne_zm ne_zm
    replace h181 := SL.ev h181 E198 ne_zm ne_zm
    replace h188 := SL.ev h188 E198 ne_zm ne_zm
    replace h195 := SL.ev h195 E198 (ne_mm (by decide)) ne_zm
    replace E := E.trans E198 (fun x (q : x = m + 1) => Or.inr (le_col q))
    replace h15 : AT true (m + 1) c190 w197 qa13 [.slice A192 (l139 ++ [api_Row.mk (sb s150) t76 v151.rev]).length C193] := h15
    refine ⟨fun q => absurd rfl q, ?_⟩
    refine d_nil ?_
    have hr_ := Option.some.inj H
    subst hr_
    first | refine REn c190 hl146 ?_ | refine inbN (REn c190 hl146 ?_) | refine inbN (inbN (REn c190 hl146 ?_))
    exact ⟨⟨E, (l139 ++ [api_Row.mk (sb s150) t76 v151.rev]), A192, C193, rfl, h15, h195⟩, B, hb145⟩
   ·replace H := ifN H
    obtain ⟨g68, H⟩ := H
    replace H := bind_some H
    obtain ⟨t76, q77, H⟩ := H
    refine o_call F rfl (wanted_none rfl) rfl (by decide) (r_call F Try.func42 rfl (by kernel_rfl) rfl) (bytes_Clone.calls (m := m + 7) (Nat.add_pos_left hm0 _) B h154 (by omega) 0 (Nat.add_pos_left hm0 _) _ q77) ?_
    rintro e w201 ⟨c200, A204, C205, rfl, E202, B203, h206⟩
    refine ⟨_, rfl, fun a F => ?_⟩
    have B := B203
    replace ER := ER.trans E202 (fun x q => q.elim)
    replace h15 := AT.ev h15 E202 (fun q => q.elim)
    replace h138 := SL.ev h138 E202 (fun q => q.elim) (fun q => q.elim)
    replace h154 := SL.ev h154 E202 (fun q => q.elim) (fun q => q.elim)
    replace hb145 := OBJ.ev hb145 E202 (fun q => q.elim)
    replace hl146 := OBJ.ev hl146 E202 (fun q => q.elim)
    replace h57 := AT.ev h57 E202 (fun q => q.elim)
    replace E := E.trans E202 (fun x q => q.elim)
    refine ⟨fun _ => ER.sb, ?_⟩
    refine d_e ?_
    refine o_eff F rfl rfl rfl (by decide) (e_strBytes F Try.underlying9 Try.underlying28 Try.underlying5 rfl (by unfold maxLen; omega) c200 0 0) ?_
    rintro v w209 a ⟨c208, A210, C211, rfl, E212, h213, B214⟩ F
    replace B := B214 _ B (Nat.add_pos_left hm0 _)
    replace ER := ER.trans E212 (fun x q => q.elim)
    replace h15 := AT.ev h15 E212 (fun q => q.elim)
    replace h138 := SL.ev h138 E212 (fun q => q.elim) (fun q => q.elim)
    replace h154 := SL.ev h154 E212 (fun q => q.elim) (fun q => q.elim)
    replace hb145 := OBJ.ev hb145 E212 (fun q => q.elim)
    replace hl146 := OBJ.ev hl146 E212 (fun q => q.elim)
    replace h57 := AT.ev h57 E212 (fun q => q.elim)
    replace h206 := SL.ev h206 E212 (fun q => q.elim) (fun q => q.elim)
    replace E := E.trans E212 (fun x q => q.elim)
    refine ⟨fun _ => ER.sb, ?_⟩
    refine d_q F rfl rfl rfl (by decide) (fun wq hS => r_build (v := .agg #[.slice A210 (sb s150).length C211, .slice A204 t76.length C205, .int .i64 v151.rev]) F [(0, .slice A210 (sb s150).length C211), (1, .slice A204 t76.length C205), (2, .int .i64 v151.rev)] (by exact ⟨rfl, rfl, rfl, rfl, rfl, rfl, trivial⟩) (fun w => by kernel_rfl)) ER.sb fun a F => ?_
    refine d_e ?_
    refine o_eff F rfl rfl rfl (by decide) (e_buildSlice (n := 1) (e := 93) (c := c208) (k := K_api_Row) (i := 0) F [(0, .agg #[.slice A210 (sb s150).length C211, .slice A204 t76.length C205, .int .i64 v151.rev])] [.slice A210 (sb s150).length C211, .slice A204 t76.length C205, .int .i64 v151.rev] ([api_Row.mk (sb s150) t76 v151.rev] : List api_Row) (by exact ⟨rfl, rfl, trivial⟩) (fun w => by kernel_rfl) rfl (by decide) rfl ⟨⟨A210, C211, A204, C205, rfl, (SL.fl h213.r (fun q => q)), (SL.fl h206.r (fun q => q))⟩, trivial⟩ (fun q => q) 0) ?_
    rintro v w216 a ⟨c215, A217, C218, rfl, E219, h220, B221⟩ F
    replace B := B221 _ B (Nat.add_pos_left hm0 _)
    replace ER := ER.trans E219 (fun x q => q.elim)
    replace h15 := AT.ev h15 E219 (fun q => q.elim)
    replace h138 := SL.ev h138 E219 (fun q => q.elim) (fun q => q.elim)
    replace h154 := SL.ev h154 E219 (fun q => q.elim) (fun q => q.elim)
    replace hb145 := OBJ.ev hb145 E219 (fun q => q.elim)
    replace hl146 := OBJ.ev hl146 E219 (fun q => q.elim)
    replace h57 := AT.ev h57 E219 (fun q => q.elim)
    replace h206 := SL.ev h206 E219 (fun q => q.elim) (fun q => q.elim)
    replace h213 := SL.ev h213 E219 (fun q => q.elim) (fun q => q.elim)
    replace E := E.trans E219 (fun x q => q.elim)
    refine ⟨fun _ => ER.sb, ?_⟩
    refine d_e ?_
    replace H := ifN H
    obtain ⟨g93, H⟩ := H
    refine o_eff F rfl rfl rfl (by decide) (e_append (k := K_api_Row) (xs := l139) (ys := [api_Row.mk (sb s150) t76 v151.rev]) (c := c215) (j := (m + 6)) (i := 0) F et_47 rfl rfl h138 h220 g93 (len_ok g93) ne_zm) ?_
    rintro v w223 a ⟨c222, A224, C225, rfl, E226, h227, B228⟩ F
    replace B := B228 _ B (Nat.add_lt_add_left (by decide) m)
    replace ER := ER.trans E226 (fun x q => by replace q : x = m + 6 := q; show x = m + 6; omega)
    replace h15 := AT.ev h15 E226 (ne_mm (by decide))
    replace h154 := SL.ev h154 E226 ne_zm ne_zm
    replace hb145 := OBJ.ev hb145 E226 (ne_mm (by decide))
    replace hl146 := OBJ.ev hl146 E226 (ne_mm (by decide))
    replace h57 := AT.ev h57 E226 (ne_mm (by decide))
    replace h206 := SL.ev h206 E226 ne_zm ne_zm
    replace h213 := SL.ev h213 E226 ne_zm ne_zm
    replace h220 := SL.ev h220 E226 ne_zm ne_zm
    replace E := E.trans E226 (fun x (q : x = m + 6) => Or.inr (le_col q))
    refine ⟨fun _ => ER.sb, ?_⟩
    refine d_e ?_
    refine o_eff0 F rfl rfl rfl (e_store0 F rfl rfl sz_47 h15 (Nat.le_of_ble_eq_true rfl) rfl) ?_
    rintro w229 a ⟨E230, h15, Z231⟩ F
    replace B := B.size Z231
    replace h154 := SL.ev h154 E230 ne_zm ne_zm
    replace hb145 := OBJ.ev hb145 E230 (ne_mm (by decide))
    replace hl146 := OBJ.ev hl146 E230 (ne_mm (by decide))
    replace h57 := AT.ev h57 E230 (ne_mm (by decide))
    replace h206 := SL.ev h206 E230 ne_zm ne_zm
    replace h213 := SL.ev h213 E230 ne_zm ne_zm
    replace h220 := SL.ev h220 E230 ne_zm ne_zm
    replace h227 := SL.ev h227 E230 (ne_mm (by decide)) ne_zm
    replace E := E.trans E230 (fun x (q : x = m + 1) => Or.inr (le_col q))
    replace h15 : AT true (m + 1) c222 w229 qa13 [.slice A224 (l139 ++ [api_Row.mk (sb s150) t76 v151.rev]).length C225] := h15
    refine ⟨fun q => absurd rfl q, ?_⟩
    refine d_nil ?_
    have hr_ := Option.some.inj H
    subst hr_
    first | refine REn c222 hl146 ?_ | refine inbN (REn c222 hl146 ?_) | refine inbN (inbN (REn c222 hl146 ?_))
    exact ⟨⟨E, (l139 ++ [api_Row.mk (sb s150) t76 v151.rev]), A224, C225, rfl, h15, h227⟩, B, hb145⟩
  ·intro s_ hx240 c236 w237 bd238 ⟨E241, l139, A136, C137, e_, h15, h138⟩ B hb239 a F
   subst e_
   rw [hx240] at HR148
   have H : table_Table_Rows.j2 l139 = some r := HR148
   unfold table_Table_Rows.j2 at H
   replace E := E.trans E241 (fun _ q => q)
   refine hK18 _ _ ?_
   refine wp_seq_k fun K242 hK242 => ?_
   refine reg ?_
   refine q_val F rfl rfl (by decide) (r_load F rfl ag_47 (AT.cell0 h15 rfl)) fun a F => ?_
   refine q_val F rfl rfl (by decide) (r_assign F rfl) fun a F => ?_
   refine nil ?_
   refine hK242 _ _ ?_
   refine wp_ret ?_
   refine outM ?_
   refine endM F hb239 fun w243 E244 Z245 a F => ?_
   replace B := B.size Z245
   replace h15 := AT.ev h15 E244 (ne_mm (by decide))
   replace h138 := SL.ev h138 E244 (ne_mm (by decide)) ne_zm
   replace E := E.trans E244 (fun x (q : x = m + 4) => Or.inr (le_col q))
   refine endM0 F ?_
   replace H := Option.some.inj H
   subst H
   refine out1 F rfl rfl ?_
   exact ⟨fun b_ => (fun x_ => if x_ = m + 6 then jr246 else if x_ < m then x_ else 0) (c236 b_), A136, C137, rfl, E.leave B0 (fun x_ => if x_ = m + 6 then jr246 else if x_ < m then x_ else 0) (by intro x_ hx_; show (if x_ = m + 6 then jr246 else if x_ < m then x_ else 0) = x_; ((repeat' split) <;> omega)), (fun b_ hb_ => by show (if (c236 b_) = m + 6 then jr246 else if (c236 b_) < m then (c236 b_) else 0) < m; ((repeat' split) <;> omega)), SL.rc h138 (fun k_ hk_ => by show (if (c236 k_) = m + 6 then jr246 else if (c236 k_) < m then (c236 k_) else 0) = _; rw [hk_]; ((repeat' split) <;> omega)) (fun k_ hk_ => by show (if (c236 k_) = m + 6 then jr246 else if (c236 k_) < m then (c236 k_) else 0) = _; rw [hk_]; ((repeat' split) <;> omega))⟩
  ·intro s_ hx_ c_ w_ bd_ h_
   exact h_.elim
end Go.Proofs.Ythankpjbfpcldaa.G
namespace Go.Proofs.Ythankpjbfpcldaa.G
open Go Go.RowKit
set_option linter.unusedVariables false
set_option linter.unusedSimpArgs false
set_option maxRecDepth 100000 in
set_option maxHeartbeats 4000000 in
theorem shard_Shard_Rows.calls {m : Nat} {c0 : Nat → Nat} {w0 : World} {j4 : Nat} {j5 : Nat} {p2 : Option Addr} {a1 : Option Sha} (hm0 : 0 < m) (B0 : CB m c0 w0) (h3 : SH j4 j5 c0 w0 p2 a1) (bj4 : j4 < m) (bj5 : j5 < m ∧ j5 ≠ j4) (r : (List api_Row)) (H : shard_Shard_Rows.f a1 = some r) : Calls Try.prog 15 #[.pointer p2] w0 (fun e w_ => ∃ (c_ : Nat → Nat) (A0_ : Option Addr) (C0_ : Nat), e = .returned (.slice A0_ r.length C0_) ∧ Ev (fun x => False) c0 w0 c_ w_ ∧ CB m c_ w_ ∧ SL false K_api_Row 0 0 c_ w_ A0_ C0_ r) := by
 unfold shard_Shard_Rows.f at H
 have B := B0.mono (show m ≤ m + 1 by omega)
 have E : Ev (fun x => False ∨ m ≤ x) c0 w0 c0 w0 := Ev.refl
 refine enter (N := 10) (l := [.pointer p2]) Try.func15 rfl rfl (Nat.le_of_ble_eq_true rfl) fun a F => ?_
 refine wp_seq_k fun K6 hK6 => ?_
 refine reg ?_
 refine q_val F rfl rfl (by decide) (r_assign F rfl) fun a F => ?_
 refine nil ?_
 refine hK6 _ _ ?_
 refine wp_seq_k fun K7 hK7 => ?_
 refine wp_seq_k fun K8 hK8 => ?_
 refine reg ?_
 refine q_val F rfl rfl (by decide) (r_move F rfl) fun a F => ?_
 refine q_val F rfl rfl (by decide) (r_peqlA F Try.underlying24 rfl rfl (SH.isNone h3)) fun a F => ?_
 refine nil ?_
 refine hK8 _ _ ?_
 by_cases hb9 : (Option.isNone a1) = true
 ·replace H := (if_pos hb9).symm.trans H
  refine wp_cond_true ((F.ev rfl).trans (congrArg Value.bool hb9)) ?_
  refine wp_seq_k fun K10 hK10 => ?_
  refine reg ?_
  refine q_val F rfl rfl (by decide) (r_assign F rfl) fun a F => ?_
  refine nil ?_
  refine hK10 _ _ ?_
  refine wp_ret ?_
  refine thenR ?_
  replace H := Option.some.inj H
  subst H
  refine out1 F rfl rfl ?_
  exact ⟨fun b_ => (fun x_ => if x_ < m then x_ else 0) (c0 b_), none, 0, rfl, E.leave B0 (fun x_ => if x_ < m then x_ else 0) (by intro x_ hx_; show (if x_ < m then x_ else 0) = x_; ((repeat' split) <;> omega)), (fun b_ hb_ => by show (if (c0 b_) < m then (c0 b_) else 0) < m; ((repeat' split) <;> omega)), SL.nil⟩
 ·replace H := (if_neg hb9).symm.trans H
  refine wp_cond_false ((F.ev rfl).trans (congrArg Value.bool (bfalse hb9))) ?_
  refine wp_skip ?_
  refine hK7 _ _ ?_
  refine wp_seq_k fun K11 hK11 => ?_
  refine reg ?_
  refine q_val F rfl rfl (by decide) (r_move F rfl) fun a F => ?_
  replace H := bind_some H
  obtain ⟨ob12, e13, H⟩ := H
  have z14 := h3
  rw [e13] at z14
  obtain ⟨ad15, p17, cs19, rfl, hat16, h18, h20⟩ := SH.some z14
  refine q_val F rfl rfl (by decide) (r_nil F rfl) fun a F => ?_
  refine q_val F rfl rfl (by decide) (r_fieldAddr F rfl ff_76_0) fun a F => ?_
  refine q_val F rfl rfl (by decide) (r_load F rfl ag_26 (AT.cell hat16 rfl)) fun a F => ?_
  replace H := bind_some H
  obtain ⟨t22, q23, H⟩ := H
  refine q_call F rfl rfl (by decide) (r_call F Try.func16 rfl (by kernel_rfl) rfl) (table_Table_Rows.calls (m := m + 1) (Nat.add_pos_left hm0 _) B h18 (Nat.lt_add_right _ bj5.1) 0 (Nat.add_pos_left hm0 _) _ q23) ?_
  rintro e w25 ⟨c24, A28, C29, rfl, E26, B27, h30⟩
  refine ⟨_, rfl, fun a F => ?_⟩
  have B := B27
  replace h3 := SH.ev h3 E26 (fun q => q.elim) (fun q => q.elim) (fun q => q.elim)
  replace h18 := TB.ev h18 E26 (fun q => q.elim) (fun q => q.elim)
  replace h20 := AR.ev h20 E26 (fun q => q.elim)
  replace hat16 := AT.ev hat16 E26 (fun q => q.elim)
  replace E := E.trans E26 (fun x q => q.elim)
  refine q_val F rfl rfl (by decide) (r_assign F rfl) fun a F => ?_
  refine nil ?_
  refine hK11 _ _ ?_
  replace F : Fr a 10 [(2, .slice A28 t22.length C29)] := F.sub ⟨rfl, trivial⟩
  refine wp_ret ?_
  replace H := Option.some.inj H
  subst H
  refine out1 F rfl rfl ?_
  exact ⟨fun b_ => (fun x_ => if x_ < m then x_ else 0) (c24 b_), A28, C29, rfl, E.leave B0 (fun x_ => if x_ < m then x_ else 0) (by intro x_ hx_; show (if x_ < m then x_ else 0) = x_; ((repeat' split) <;> omega)), (fun b_ hb_ => by show (if (c24 b_) < m then (c24 b_) else 0) < m; ((repeat' split) <;> omega)), SL.rc h30.r (fun k_ hk_ => by show (if (c24 k_) < m then (c24 k_) else 0) = _; rw [hk_]; ((repeat' split) <;> omega)) (fun k_ hk_ => by show (if (c24 k_) < m then (c24 k_) else 0) = _; rw [hk_]; ((repeat' split) <;> omega))⟩
end Go.Proofs.Ythankpjbfpcldaa.G
namespace Go.Proofs.Ythankpjbfpcldaa.G
open Go Go.RowKit
set_option linter.unusedVariables false
set_option linter.unusedSimpArgs false
set_option maxRecDepth 100000 in
set_option maxHeartbeats 4000000 in
theorem shard_Shard_Seat.calls {m : Nat} {c0 : Nat → Nat} {w0 : World} {j4 : Nat} {j5 : Nat} {p2 : Option Addr} {a1 : Option Sha} {a6 : Int} (hm0 : 0 < m) (B0 : CB m c0 w0) (h3 : SH j4 j5 c0 w0 p2 a1) (bj4 : j4 < m) (bj5 : j5 < m ∧ j5 ≠ j4) (r : api_Seat × Bool) (H : shard_Shard_Seat.f a1 a6 = some r) : Calls Try.prog 9 #[.pointer p2, .int .i64 a6] w0 (fun e w_ => ∃ (c_ : Nat → Nat) (A0_ : Option Addr) (C0_ : Nat) (A2_ : Option Addr) (C2_ : Nat), e = .returned (.tuple #[.agg #[.int .i64 r.1.Client, .int .i64 r.1.Seq, .bool r.1.Answer.Done, .slice A0_ r.1.Answer.Key.length C0_, .slice A2_ r.1.Answer.Value.length C2_, .int .i64 r.1.Answer.Rev, .int .i64 r.1.Answer.At], .bool r.2]) ∧ Ev (fun x => False) c0 w0 c_ w_ ∧ CB m c_ w_ ∧ SL false (Kint .u8) 0 0 c_ w_ A0_ C0_ r.1.Answer.Key ∧ SL false (Kint .u8) 0 0 c_ w_ A2_ C2_ r.1.Answer.Value) := by
 unfold shard_Shard_Seat.f at H
 have B := B0.mono (show m ≤ m + 2 by omega)
 have E : Ev (fun x => False ∨ m ≤ x) c0 w0 c0 w0 := Ev.refl
 refine enter (N := 34) (l := [.pointer p2, .int .i64 a6]) Try.func9 rfl rfl (Nat.le_of_ble_eq_true rfl) fun a F => ?_
 refine wp_seq_k fun K7 hK7 => ?_
 refine reg ?_
 refine q_eff F rfl rfl (by decide) (e_alloc F zv_36 c0 (m + 1)) ?_
 rintro v w9 a ⟨c8, qa10, rfl, E11, h12, B13⟩ F
 replace B := B13 _ B (Nat.add_lt_add_left (by decide) m)
 replace h3 := SH.ev h3 E11 (fun q => q.elim) (fun q => q.elim) (fun q => q.elim)
 replace E := E.trans E11 (fun x q => q.elim)
 replace h12 : AT true (m + 1) c8 w9 qa10 [.int .i64 0, .int .i64 0, .bool false, .slice none 0 0, .slice none 0 0, .int .i64 0, .int .i64 0] := h12
 refine q_val F rfl rfl (by decide) (r_assign F rfl) fun a F => ?_
 refine nil ?_
 refine hK7 _ _ ?_
 refine wp_seq_k fun K15 hK15 => ?_
 refine wp_seq_k fun K16 hK16 => ?_
 have J44 : ∀ (c45 : Nat → Nat) (w46 : World) (a : Act) (b43 : Bool), Fr a 34 [(0, .pointer p2), (1, .int .i64 a6), (4, .pointer (some qa10)), (25, .bool b43)] → Ev (fun x => False ∨ m ≤ x) c0 w0 c45 w46 → CB (m + 2) c45 w46 → AT true (m + 1) c45 w46 qa10 [.int .i64 0, .int .i64 0, .bool false, .slice none 0 0, .slice none 0 0, .int .i64 0, .int .i64 0] → SH j4 j5 c45 w46 p2 a1 → shard_Shard_Seat.j1 a1 a6 b43 = some r → K16 a w46 := by
  intro c45 w46 a b43 F E B h12 h3 H
  unfold shard_Shard_Seat.j1 at H
  refine hK16 _ _ ?_
  by_cases hb47 : b43 = true
  ·replace H := (if_pos hb47).symm.trans H
   refine wp_cond_true ((F.ev rfl).trans (congrArg Value.bool hb47)) ?_
   refine wp_seq_k fun K48 hK48 => ?_
   refine reg ?_
   refine q_val F rfl rfl (by decide) (r_build (v := .agg #[.int .i64 0, .int .i64 0, .bool false, .slice none 0 0, .slice none 0 0, .int .i64 0, .int .i64 0]) F [] (by exact trivial) (fun w => by kernel_rfl)) fun a F => ?_
   refine q_eff0 F rfl rfl (e_storeN0 (us := [.int .i64 0, .int .i64 0, .bool false, .slice none 0 0, .slice none 0 0, .int .i64 0, .int .i64 0]) F rfl rfl sz_36 h12 (Nat.le_of_ble_eq_true rfl) (one_all rfl)) ?_
   rintro w49 a ⟨E50, h12, Z51⟩ F
   replace B := B.size Z51
   replace h3 := SH.ev h3 E50 (ne_pm bj4) (ne_pm bj5.1) ne_zm
   replace E := E.trans E50 (fun x (q : x = m + 1) => Or.inr (le_col q))
   replace h12 : AT true (m + 1) c45 w49 qa10 [.int .i64 0, .int .i64 0, .bool false, .slice none 0 0, .slice none 0 0, .int .i64 0, .int .i64 0] := h12
   refine q_val F rfl rfl (by decide) (r_assign F rfl) fun a F => ?_
   refine nil ?_
   refine hK48 _ _ ?_
   refine wp_ret ?_
   refine thenR ?_
   replace H := Option.some.inj H
   subst H
   refine outR2 F rfl ⟨_, rfl, lv_agg (cs := [.int .i64 0, .int .i64 0, .bool false, .slice none 0 0, .slice none 0 0, .int .i64 0, .int .i64 0]) ag_36 sz_36 h12⟩ rfl ?_
   exact ⟨fun b_ => (fun x_ => if x_ < m then x_ else 0) (c45 b_), none, 0, none, 0, rfl, E.leave B0 (fun x_ => if x_ < m then x_ else 0) (by intro x_ hx_; show (if x_ < m then x_ else 0) = x_; ((repeat' split) <;> omega)), (fun b_ hb_ => by show (if (c45 b_) < m then (c45 b_) else 0) < m; ((repeat' split) <;> omega)), SL.nil, SL.nil⟩
  ·replace H := (if_neg hb47).symm.trans H
   refine wp_cond_false ((F.ev rfl).trans (congrArg Value.bool (bfalse hb47))) ?_
   refine wp_skip ?_
   refine hK15 _ _ ?_
   refine wp_seq_k fun K52 hK52 => ?_
   refine reg ?_
   refine q_val F rfl rfl (by decide) (r_move F rfl) fun a F => ?_
   refine q_val F rfl rfl (by decide) (r_move F rfl) fun a F => ?_
   replace H := bind_some H
   obtain ⟨ob53, e54, H⟩ := H
   have z55 := h3
   rw [e54] at z55
   obtain ⟨ad56, p58, cs60, rfl, hat57, h59, h61⟩ := SH.some z55
   refine q_val F rfl rfl (by decide) (r_nil F rfl) fun a F => ?_
   refine q_val F rfl rfl (by decide) (r_fieldAddr F rfl ff_76_1) fun a F => ?_
   replace H := ifN H
   obtain ⟨g63, H⟩ := H
   obtain ⟨cs65, h66, r67⟩ := AR.at hat57 rfl h61 a6 g63.1 (by have g_ := g63.2; omega)
   obtain ⟨A69, C70, A72, C73, rfl, h71, h74⟩ := r67
   replace h71 := SL.fl (i' := 0) h71 (fun q => q)
   replace h74 := SL.fl (i' := 0) h74 (fun q => q)
   obtain ⟨qa68, qqa68⟩ : ∃ q, q = (ad56.add (1 + a6.toNat * 7)) := ⟨_, rfl⟩
   have h66 : AT true j4 c45 w46 qa68 [.int .i64 ((rd ob53.seats a6).Client), .int .i64 ((rd ob53.seats a6).Seq), .bool (((rd ob53.seats a6).Answer).Done), .slice A69 (((rd ob53.seats a6).Answer).Key).length C70, .slice A72 (((rd ob53.seats a6).Answer).Value).length C73, .int .i64 (((rd ob53.seats a6).Answer).Rev), .int .i64 (((rd ob53.seats a6).Answer).At)] := by rw [qqa68]; exact h66
   refine q_val F rfl rfl (by decide) (r_indexArr3 F ua_74 sz_36 rfl rfl g63.1 (by have g_ := g63.2; omega) hat57 qqa68) fun a F => ?_
   refine q_val F rfl rfl (by decide) (r_loads (cs := [.int .i64 ((rd ob53.seats a6).Client), .int .i64 ((rd ob53.seats a6).Seq), .bool (((rd ob53.seats a6).Answer).Done), .slice A69 (((rd ob53.seats a6).Answer).Key).length C70, .slice A72 (((rd ob53.seats a6).Answer).Value).length C73, .int .i64 (((rd ob53.seats a6).Answer).Rev), .int .i64 (((rd ob53.seats a6).Answer).At)]) F rfl ag_36 sz_36 h66) fun a F => ?_
   replace H := bind_some H
   obtain ⟨t76, q77, H⟩ := H
   refine q_call F rfl rfl (by decide) (r_call F Try.func36 rfl (by kernel_rfl) rfl) (shard_own.calls (m := m + 2) (a1 := api_Seat.mk ((rd ob53.seats a6).Client) ((rd ob53.seats a6).Seq) ((rd ob53.seats a6).Answer)) (Nat.add_pos_left hm0 _) B h71 h74 _ q77) ?_
   rintro e w79 ⟨c78, A82, C83, A85, C86, rfl, E80, B81, h84, h87⟩
   refine ⟨_, rfl, fun a F => ?_⟩
   have B := B81
   replace h12 := AT.ev h12 E80 (fun q => q.elim)
   replace h3 := SH.ev h3 E80 (fun q => q.elim) (fun q => q.elim) (fun q => q.elim)
   replace h59 := TB.ev h59 E80 (fun q => q.elim) (fun q => q.elim)
   replace h61 := AR.ev h61 E80 (fun q => q.elim)
   replace hat57 := AT.ev hat57 E80 (fun q => q.elim)
   replace h71 := SL.ev h71 E80 (fun q => q.elim) (fun q => q.elim)
   replace h74 := SL.ev h74 E80 (fun q => q.elim) (fun q => q.elim)
   replace h66 := AT.ev h66 E80 (fun q => q.elim)
   replace E := E.trans E80 (fun x q => q.elim)
   refine q_eff0 F rfl rfl (e_storeN0 (us := [.int .i64 t76.Client, .int .i64 t76.Seq, .bool t76.Answer.Done, .slice A82 t76.Answer.Key.length C83, .slice A85 t76.Answer.Value.length C86, .int .i64 t76.Answer.Rev, .int .i64 t76.Answer.At]) F rfl rfl sz_36 h12 (Nat.le_of_ble_eq_true rfl) (one_all rfl)) ?_
   rintro w89 a ⟨E90, h12, Z91⟩ F
   replace B := B.size Z91
   replace h3 := SH.ev h3 E90 (ne_pm bj4) (ne_pm bj5.1) ne_zm
   replace h59 := TB.ev h59 E90 (ne_pm bj5.1) ne_zm
   replace h61 := AR.ev h61 E90 ne_zm
   replace hat57 := AT.ev hat57 E90 (ne_pm bj4)
   replace h71 := SL.ev h71 E90 ne_zm ne_zm
   replace h74 := SL.ev h74 E90 ne_zm ne_zm
   replace h66 := AT.ev h66 E90 (ne_pm bj4)
   replace h84 := SL.ev h84 E90 ne_zm ne_zm
   replace h87 := SL.ev h87 E90 ne_zm ne_zm
   replace E := E.trans E90 (fun x (q : x = m + 1) => Or.inr (le_col q))
   replace h12 : AT true (m + 1) c78 w89 qa10 [.int .i64 t76.Client, .int .i64 t76.Seq, .bool t76.Answer.Done, .slice A82 t76.Answer.Key.length C83, .slice A85 t76.Answer.Value.length C86, .int .i64 t76.Answer.Rev, .int .i64 t76.Answer.At] := h12
   refine q_val F rfl rfl (by decide) (r_assign F rfl) fun a F => ?_
   refine nil ?_
   refine hK52 _ _ ?_
   replace F : Fr a 34 [(4, .pointer (some qa10)), (5, .bool true)] := F.sub ⟨rfl, rfl, trivial⟩
   refine wp_ret ?_
   replace H := Option.some.inj H
   subst H
   refine outR2 F rfl ⟨_, rfl, lv_agg (cs := [.int .i64 t76.Client, .int .i64 t76.Seq, .bool t76.Answer.Done, .slice A82 t76.Answer.Key.length C83, .slice A85 t76.Answer.Value.length C86, .int .i64 t76.Answer.Rev, .int .i64 t76.Answer.At]) ag_36 sz_36 h12⟩ rfl ?_
   exact ⟨fun b_ => (fun x_ => if x_ < m then x_ else 0) (c78 b_), A82, C83, A85, C86, rfl, E.leave B0 (fun x_ => if x_ < m then x_ else 0) (by intro x_ hx_; show (if x_ < m then x_ else 0) = x_; ((repeat' split) <;> omega)), (fun b_ hb_ => by show (if (c78 b_) < m then (c78 b_) else 0) < m; ((repeat' split) <;> omega)), SL.rc h84 (fun k_ hk_ => by show (if (c78 k_) < m then (c78 k_) else 0) = _; rw [hk_]; ((repeat' split) <;> omega)) (fun k_ hk_ => by show (if (c78 k_) < m then (c78 k_) else 0) = _; rw [hk_]; ((repeat' split) <;> omega)), SL.rc h87 (fun k_ hk_ => by show (if (c78 k_) < m then (c78 k_) else 0) = _; rw [hk_]; ((repeat' split) <;> omega)) (fun k_ hk_ => by show (if (c78 k_) < m then (c78 k_) else 0) = _; rw [hk_]; ((repeat' split) <;> omega))⟩
 refine reg ?_
 refine q_val F rfl rfl (by decide) (r_move F rfl) fun a F => ?_
 refine q_val F rfl rfl (by decide) (r_peqlA F Try.underlying24 rfl rfl (SH.isNone h3)) fun a F => ?_
 refine q_val F rfl rfl (by decide) (r_move F rfl) fun a F => ?_
 by_cases hb17 : (Option.isNone a1) = true
 ·replace H := (if_pos hb17).symm.trans H
  refine q_no F rfl (by decide) rfl hb17 (by decide) fun a F => ?_
  refine q_no F rfl (by decide) rfl hb17 (by decide) fun a F => ?_
  refine q_val F rfl rfl (by decide) (r_pick_t F rfl hb17 rfl) fun a F => ?_
  refine q_val F rfl rfl (by decide) (r_move F rfl) fun a F => ?_
  refine q_no F rfl (by decide) rfl rfl (by decide) fun a F => ?_
  refine q_no F rfl (by decide) rfl rfl (by decide) fun a F => ?_
  refine q_val F rfl rfl (by decide) (r_pick_t F rfl rfl rfl) fun a F => ?_
  refine q_val F rfl rfl (by decide) (r_move F rfl) fun a F => ?_
  refine q_no F rfl (by decide) rfl rfl (by decide) fun a F => ?_
  refine q_no F rfl (by decide) rfl rfl (by decide) fun a F => ?_
  refine q_no F rfl (by decide) rfl rfl (by decide) fun a F => ?_
  refine q_no F rfl (by decide) rfl rfl (by decide) fun a F => ?_
  refine q_no F rfl (by decide) rfl rfl (by decide) fun a F => ?_
  refine q_no F rfl (by decide) rfl rfl (by decide) fun a F => ?_
  refine q_no F rfl (by decide) rfl rfl (by decide) fun a F => ?_
  refine q_no F rfl (by decide) rfl rfl (by decide) fun a F => ?_
  refine q_val F rfl rfl (by decide) (r_pick_t F rfl rfl rfl) fun a F => ?_
  refine nil ?_
  exact J44 c8 w9 a true (F.sub ⟨rfl, rfl, rfl, rfl, trivial⟩) E B h12 h3 H
 ·replace H := (if_neg hb17).symm.trans H
  refine q_yes F rfl (by decide) rfl (bfalse hb17) ?_
  refine q_val F rfl rfl (by decide) (r_move F rfl) fun a F => ?_
  refine q_yes F rfl (by decide) rfl (bfalse hb17) ?_
  refine q_val F rfl rfl (by decide) (r_lss F rfl rfl) fun a F => ?_
  refine q_val F rfl rfl (by decide) (r_pick_f F rfl (bfalse hb17) rfl) fun a F => ?_
  refine q_val F rfl rfl (by decide) (r_move F rfl) fun a F => ?_
  by_cases hb18 : a6 < 0
  ·replace H := (if_pos hb18).symm.trans H
   refine q_no F rfl (by decide) rfl (decide_eq_true hb18) (by decide) fun a F => ?_
   refine q_no F rfl (by decide) rfl (decide_eq_true hb18) (by decide) fun a F => ?_
   refine q_val F rfl rfl (by decide) (r_pick_t F rfl (decide_eq_true hb18) rfl) fun a F => ?_
   refine q_val F rfl rfl (by decide) (r_move F rfl) fun a F => ?_
   refine q_no F rfl (by decide) rfl rfl (by decide) fun a F => ?_
   refine q_no F rfl (by decide) rfl rfl (by decide) fun a F => ?_
   refine q_no F rfl (by decide) rfl rfl (by decide) fun a F => ?_
   refine q_no F rfl (by decide) rfl rfl (by decide) fun a F => ?_
   refine q_no F rfl (by decide) rfl rfl (by decide) fun a F => ?_
   refine q_no F rfl (by decide) rfl rfl (by decide) fun a F => ?_
   refine q_no F rfl (by decide) rfl rfl (by decide) fun a F => ?_
   refine q_no F rfl (by decide) rfl rfl (by decide) fun a F => ?_
   refine q_val F rfl rfl (by decide) (r_pick_t F rfl rfl rfl) fun a F => ?_
   refine nil ?_
   exact J44 c8 w9 a true (F.sub ⟨rfl, rfl, rfl, rfl, trivial⟩) E B h12 h3 H
  ·replace H := (if_neg hb18).symm.trans H
   refine q_yes F rfl (by decide) rfl (decide_eq_false hb18) ?_
   refine q_val F rfl rfl (by decide) (r_move F rfl) fun a F => ?_
   refine q_yes F rfl (by decide) rfl (decide_eq_false hb18) ?_
   refine q_val F rfl rfl (by decide) (r_geq F rfl rfl) fun a F => ?_
   refine q_val F rfl rfl (by decide) (r_pick_f F rfl (decide_eq_false hb18) rfl) fun a F => ?_
   refine q_val F rfl rfl (by decide) (r_move F rfl) fun a F => ?_
   by_cases hb19 : 16 ≤ a6
   ·replace H := (if_pos hb19).symm.trans H
    refine q_no F rfl (by decide) rfl (decide_eq_true hb19) (by decide) fun a F => ?_
    refine q_no F rfl (by decide) rfl (decide_eq_true hb19) (by decide) fun a F => ?_
    refine q_no F rfl (by decide) rfl (decide_eq_true hb19) (by decide) fun a F => ?_
    refine q_no F rfl (by decide) rfl (decide_eq_true hb19) (by decide) fun a F => ?_
    refine q_no F rfl (by decide) rfl (decide_eq_true hb19) (by decide) fun a F => ?_
    refine q_no F rfl (by decide) rfl (decide_eq_true hb19) (by decide) fun a F => ?_
    refine q_no F rfl (by decide) rfl (decide_eq_true hb19) (by decide) fun a F => ?_
    refine q_no F rfl (by decide) rfl (decide_eq_true hb19) (by decide) fun a F => ?_
    refine q_val F rfl rfl (by decide) (r_pick_t F rfl (decide_eq_true hb19) rfl) fun a F => ?_
    refine nil ?_
    exact J44 c8 w9 a true (F.sub ⟨rfl, rfl, rfl, rfl, trivial⟩) E B h12 h3 H
   ·replace H := (if_neg hb19).symm.trans H
    refine q_yes F rfl (by decide) rfl (decide_eq_false hb19) ?_
    refine q_val F rfl rfl (by decide) (r_move F rfl) fun a F => ?_
    refine q_yes F rfl (by decide) rfl (decide_eq_false hb19) ?_
    refine q_val F rfl rfl (by decide) (r_move F rfl) fun a F => ?_
    replace H := bind_some H
    obtain ⟨ob20, e21, H⟩ := H
    have z22 := h3
    rw [e21] at z22
    obtain ⟨ad23, p25, cs27, rfl, hat24, h26, h28⟩ := SH.some z22
    refine q_yes F rfl (by decide) rfl (decide_eq_false hb19) ?_
    refine q_val F rfl rfl (by decide) (r_nil F rfl) fun a F => ?_
    refine q_yes F rfl (by decide) rfl (decide_eq_false hb19) ?_
    refine q_val F rfl rfl (by decide) (r_fieldAddr F rfl ff_76_1) fun a F => ?_
    replace H := ifN H
    obtain ⟨g30, H⟩ := H
    obtain ⟨cs32, h33, r34⟩ := AR.at hat24 rfl h28 a6 g30.1 (by have g_ := g30.2; omega)
    obtain ⟨A36, C37, A39, C40, rfl, h38, h41⟩ := r34
    replace h38 := SL.fl (i' := 0) h38 (fun q => q)
    replace h41 := SL.fl (i' := 0) h41 (fun q => q)
    obtain ⟨qa35, qqa35⟩ : ∃ q, q = (ad23.add (1 + a6.toNat * 7)) := ⟨_, rfl⟩
    have h33 : AT true j4 c8 w9 qa35 [.int .i64 ((rd ob20.seats a6).Client), .int .i64 ((rd ob20.seats a6).Seq), .bool (((rd ob20.seats a6).Answer).Done), .slice A36 (((rd ob20.seats a6).Answer).Key).length C37, .slice A39 (((rd ob20.seats a6).Answer).Value).length C40, .int .i64 (((rd ob20.seats a6).Answer).Rev), .int .i64 (((rd ob20.seats a6).Answer).At)] := by rw [qqa35]; exact h33
    refine q_yes F rfl (by decide) rfl (decide_eq_false hb19) ?_
    refine q_val F rfl rfl (by decide) (r_indexArr3 F ua_74 sz_36 rfl rfl g30.1 (by have g_ := g30.2; omega) hat24 qqa35) fun a F => ?_
    refine q_yes F rfl (by decide) rfl (decide_eq_false hb19) ?_
    refine q_val F rfl rfl (by decide) (r_fieldAddr F rfl ff_36_1) fun a F => ?_
    refine q_yes F rfl (by decide) rfl (decide_eq_false hb19) ?_
    refine q_val F rfl rfl (by decide) (r_load F rfl ag_3 (AT.cell h33 rfl)) fun a F => ?_
    refine q_yes F rfl (by decide) rfl (decide_eq_false hb19) ?_
    refine q_val F rfl rfl (by decide) (r_eql F rfl rfl) fun a F => ?_
    refine q_val F rfl rfl (by decide) (r_pick_f F rfl (decide_eq_false hb19) rfl) fun a F => ?_
    refine nil ?_
    exact J44 c8 w9 a (decide (((rd ob20.seats a6).Seq) = 0)) (F.sub ⟨rfl, rfl, rfl, rfl, trivial⟩) E B h12 h3 H
end Go.Proofs.Ythankpjbfpcldaa.G
namespace Go.Proofs.Ythankpjbfpcldaa.G
open Go Go.RowKit
set_option linter.unusedVariables false
set_option linter.unusedSimpArgs false
set_option maxRecDepth 100000 in
set_option maxHeartbeats 4000000 in
theorem haulagelaw14_ShardTable.calls (k : Nat) {m : Nat} {c0 : Nat → Nat} {w0 : World} {A2 : Option Addr} {C3 : Nat} {a1 : List haulagelaw14_Step} (hm0 : 0 < m) (B0 : CB m c0 w0) (h4 : SL false K_haulagelaw14_Step 0 0 c0 w0 A2 C3 a1) (r : Bool) (H : haulagelaw14_ShardTable.f k a1 = some r) : Calls Try.prog 3 #[.slice A2 a1.length C3] w0 (fun e w_ => ∃ (c_ : Nat → Nat), e = .returned (.bool r) ∧ Ev (fun x => False) c0 w0 c_ w_ ∧ CB m c_ w_) := by
 unfold haulagelaw14_ShardTable.f at H
 have B := B0.mono (show m ≤ m + 8 by omega)
 have E : Ev (fun x => False ∨ m ≤ x) c0 w0 c0 w0 := Ev.refl
 refine enter (N := 117) (l := [.slice A2 a1.length C3]) Try.func3 rfl rfl (Nat.le_of_ble_eq_true rfl) fun a F => ?_
 refine wp_seq_k fun K5 hK5 => ?_
 refine reg ?_
 refine q_val F rfl rfl (by decide) (r_assign F rfl) fun a F => ?_
 refine nil ?_
 refine hK5 _ _ ?_
 refine wp_seq_k fun K6 hK6 => ?_
 refine wp_seq_k fun K7 hK7 => ?_
 refine reg ?_
 replace H := bind_some H
 obtain ⟨t8, q9, H⟩ := H
 refine q_call F rfl rfl (by decide) (r_call F Try.func6 rfl (by kernel_rfl) rfl) (haulagelaw14_known.calls k (m := m + 8) (Nat.add_pos_left hm0 _) B _ q9) ?_
 rintro e w11 ⟨c10, rfl, E12, B13⟩
 refine ⟨_, rfl, fun a F => ?_⟩
 have B := B13
 replace h4 := SL.ev h4 E12 (fun q => q.elim) (fun q => q.elim)
 replace E := E.trans E12 (fun x q => q.elim)
 refine q_val F rfl rfl (by decide) (r_not F rfl) fun a F => ?_
 refine nil ?_
 refine hK7 _ _ ?_
 by_cases hb15 : t8 = true
 ·replace H := (if_pos hb15).symm.trans H
  refine wp_cond_false ((F.ev rfl).trans (congrArg Value.bool (congrArg not hb15))) ?_
  refine wp_skip ?_
  refine hK6 _ _ ?_
  refine wp_seq_k fun K17 hK17 => ?_
  refine reg ?_
  replace H := bind_some H
  obtain ⟨t18, q19, H⟩ := H
  refine q_call F rfl rfl (by decide) (r_call F Try.func7 rfl (by kernel_rfl) rfl) (shard_New.calls (m := m + 8) (Nat.add_pos_left hm0 _) B (m + 1) (Nat.add_lt_add_left (by decide) m) (m + 2) (Nat.add_lt_add_left (by decide) m) _ q19) ?_
  rintro e w21 ⟨c20, p24, rfl, E22, B23, h25⟩
  refine ⟨_, rfl, fun a F => ?_⟩
  have B := B23
  replace h4 := SL.ev h4 E22 (fun q => q.elim) (fun q => q.elim)
  replace E := E.trans E22 (fun x q => q.elim)
  refine q_val F rfl rfl (by decide) (r_assign F rfl) fun a F => ?_
  refine nil ?_
  refine hK17 _ _ ?_
  refine wp_seq_k fun K27 hK27 => ?_
  refine reg ?_
  replace H := bind_some H
  obtain ⟨t28, q29, H⟩ := H
  refine q_call F rfl rfl (by decide) (r_call F Try.func8 rfl (by kernel_rfl) rfl) (table_New.calls (m := m + 8) (Nat.add_pos_left hm0 _) B (m + 3) (Nat.add_lt_add_left (by decide) m) _ q29) ?_
  rintro e w31 ⟨c30, p34, rfl, E32, B33, h35⟩
  refine ⟨_, rfl, fun a F => ?_⟩
  have B := B33
  replace h4 := SL.ev h4 E32 (fun q => q.elim) (fun q => q.elim)
  replace h25 := SH.ev h25 E32 (fun q => q.elim) (fun q => q.elim) (fun q => q.elim)
  replace E := E.trans E32 (fun x q => q.elim)
  refine q_val F rfl rfl (by decide) (r_assign F rfl) fun a F => ?_
  refine nil ?_
  refine hK27 _ _ ?_
  refine wp_seq_k fun K37 hK37 => ?_
  refine wp_seq_k fun K38 hK38 => ?_
  refine reg ?_
  refine q_val F rfl rfl (by decide) (r_assign F rfl) fun a F => ?_
  refine nil ?_
  refine hK38 _ _ ?_
  refine wp_block ?_
  obtain ⟨x215, HL, HR214⟩ := bind_some H
  have J352 : ∀ (c353 : Nat → Nat) (w354 : World) (a : Act) (o349 : Option Sha) (o351 : Option Tab), Fr a 117 [(3, .pointer p24), (4, .pointer p34)] → Ev (fun x => False ∨ m ≤ x) c0 w0 c353 w354 → CB (m + 8) c353 w354 → SH (m + 1) (m + 2) c353 w354 p24 o349 → TB (m + 3) c353 w354 p34 o351 → haulagelaw14_ShardTable.j8 k o349 o351 = some r → K37 a w354 := by
   intro c353 w354 a o349 o351 F E B h348 h350 H
   unfold haulagelaw14_ShardTable.j8 at H
   refine hK37 _ _ ?_
   refine wp_seq_k fun K355 hK355 => ?_
   refine reg ?_
   refine q_val F rfl rfl (by decide) (r_move F rfl) fun a F => ?_
   replace H := bind_some H
   obtain ⟨t356, q357, H⟩ := H
   refine q_call F rfl rfl (by decide) (r_call F Try.func15 rfl (by kernel_rfl) rfl) (shard_Shard_Rows.calls (m := m + 8) (Nat.add_pos_left hm0 _) B h348 (Nat.add_lt_add_left (by decide) m) ⟨(Nat.add_lt_add_left (by decide) m), (ne_mm (by decide))⟩ _ q357) ?_
   rintro e w359 ⟨c358, A362, C363, rfl, E360, B361, h364⟩
   refine ⟨_, rfl, fun a F => ?_⟩
   have B := B361
   replace h348 := SH.ev h348 E360 (fun q => q.elim) (fun q => q.elim) (fun q => q.elim)
   replace h350 := TB.ev h350 E360 (fun q => q.elim) (fun q => q.elim)
   replace E := E.trans E360 (fun x q => q.elim)
   refine q_val F rfl rfl (by decide) (r_move F rfl) fun a F => ?_
   replace H := bind_some H
   obtain ⟨t366, q367, H⟩ := H
   refine q_call F rfl rfl (by decide) (r_call F Try.func16 rfl (by kernel_rfl) rfl) (table_Table_Rows.calls (m := m + 8) (Nat.add_pos_left hm0 _) B h350 (Nat.add_lt_add_left (by decide) m) 0 (Nat.add_pos_left hm0 _) _ q367) ?_
   rintro e w369 ⟨c368, A372, C373, rfl, E370, B371, h374⟩
   refine ⟨_, rfl, fun a F => ?_⟩
   have B := B371
   replace h348 := SH.ev h348 E370 (fun q => q.elim) (fun q => q.elim) (fun q => q.elim)
   replace h350 := TB.ev h350 E370 (fun q => q.elim) (fun q => q.elim)
   replace h364 := SL.ev h364 E370 (fun q => q.elim) (fun q => q.elim)
   replace E := E.trans E370 (fun x q => q.elim)
   replace H := bind_some H
   obtain ⟨t376, q377, H⟩ := H
   refine q_call F rfl rfl (by decide) (r_call F Try.func14 rfl (by kernel_rfl) rfl) (haulagelaw14_sameRows.calls k (m := m + 8) (Nat.add_pos_left hm0 _) B h364 h374.r _ q377) ?_
   rintro e w379 ⟨c378, rfl, E380, B381⟩
   refine ⟨_, rfl, fun a F => ?_⟩
   have B := B381
   replace h348 := SH.ev h348 E380 (fun q => q.elim) (fun q => q.elim) (fun q => q.elim)
   replace h350 := TB.ev h350 E380 (fun q => q.elim) (fun q => q.elim)
   replace h364 := SL.ev h364 E380 (fun q => q.elim) (fun q => q.elim)
   replace h374 := SL.ev h374 E380 (fun q => q.elim) (fun q => q.elim)
   replace E := E.trans E380 (fun x q => q.elim)
   refine q_val F rfl rfl (by decide) (r_move F rfl) fun a F => ?_
   by_cases hb383 : t376 = true
   ·replace H := (if_pos hb383).symm.trans H
    refine q_yes F rfl (by decide) rfl hb383 ?_
    refine q_val F rfl rfl (by decide) (r_move F rfl) fun a F => ?_
    replace H := bind_some H
    obtain ⟨t384, q385, H⟩ := H
    refine q_yes F rfl (by decide) rfl hb383 ?_
    refine q_call F rfl rfl (by decide) (r_call F Try.func17 rfl (by kernel_rfl) rfl) (shard_Shard_Rev.calls (m := m + 8) (Nat.add_pos_left hm0 _) B h348 (Nat.add_lt_add_left (by decide) m) ⟨(Nat.add_lt_add_left (by decide) m), (ne_mm (by decide))⟩ _ q385) ?_
    rintro e w387 ⟨c386, rfl, E388, B389⟩
    refine ⟨_, rfl, fun a F => ?_⟩
    have B := B389
    replace h348 := SH.ev h348 E388 (fun q => q.elim) (fun q => q.elim) (fun q => q.elim)
    replace h350 := TB.ev h350 E388 (fun q => q.elim) (fun q => q.elim)
    replace h364 := SL.ev h364 E388 (fun q => q.elim) (fun q => q.elim)
    replace h374 := SL.ev h374 E388 (fun q => q.elim) (fun q => q.elim)
    replace E := E.trans E388 (fun x q => q.elim)
    refine q_yes F rfl (by decide) rfl hb383 ?_
    refine q_val F rfl rfl (by decide) (r_move F rfl) fun a F => ?_
    replace H := bind_some H
    obtain ⟨t391, q392, H⟩ := H
    refine q_yes F rfl (by decide) rfl hb383 ?_
    refine q_call F rfl rfl (by decide) (r_call F Try.func18 rfl (by kernel_rfl) rfl) (table_Table_Rev.calls (m := m + 8) (Nat.add_pos_left hm0 _) B h350 (Nat.add_lt_add_left (by decide) m) _ q392) ?_
    rintro e w394 ⟨c393, rfl, E395, B396⟩
    refine ⟨_, rfl, fun a F => ?_⟩
    have B := B396
    replace h348 := SH.ev h348 E395 (fun q => q.elim) (fun q => q.elim) (fun q => q.elim)
    replace h350 := TB.ev h350 E395 (fun q => q.elim) (fun q => q.elim)
    replace h364 := SL.ev h364 E395 (fun q => q.elim) (fun q => q.elim)
    replace h374 := SL.ev h374 E395 (fun q => q.elim) (fun q => q.elim)
    replace E := E.trans E395 (fun x q => q.elim)
    refine q_yes F rfl (by decide) rfl hb383 ?_
    refine q_val F rfl rfl (by decide) (r_eql F rfl rfl) fun a F => ?_
    refine q_val F rfl rfl (by decide) (r_pick_t F rfl hb383 rfl) fun a F => ?_
    refine q_val F rfl rfl (by decide) (r_move F rfl) fun a F => ?_
    by_cases hb398 : t384 = t391
    ·replace H := (if_pos hb398).symm.trans H
     refine q_yes F rfl (by decide) rfl (decide_eq_true hb398) ?_
     refine q_val F rfl rfl (by decide) (r_move F rfl) fun a F => ?_
     replace H := bind_some H
     obtain ⟨t399, q400, H⟩ := H
     refine q_yes F rfl (by decide) rfl (decide_eq_true hb398) ?_
     refine q_call F rfl rfl (by decide) (r_call F Try.func19 rfl (by kernel_rfl) rfl) (shard_Shard_Len.calls (m := m + 8) (Nat.add_pos_left hm0 _) B h348 (Nat.add_lt_add_left (by decide) m) ⟨(Nat.add_lt_add_left (by decide) m), (ne_mm (by decide))⟩ _ q400) ?_
     rintro e w402 ⟨c401, rfl, E403, B404⟩
     refine ⟨_, rfl, fun a F => ?_⟩
     have B := B404
     replace h348 := SH.ev h348 E403 (fun q => q.elim) (fun q => q.elim) (fun q => q.elim)
     replace h350 := TB.ev h350 E403 (fun q => q.elim) (fun q => q.elim)
     replace h364 := SL.ev h364 E403 (fun q => q.elim) (fun q => q.elim)
     replace h374 := SL.ev h374 E403 (fun q => q.elim) (fun q => q.elim)
     replace E := E.trans E403 (fun x q => q.elim)
     refine q_yes F rfl (by decide) rfl (decide_eq_true hb398) ?_
     refine q_val F rfl rfl (by decide) (r_move F rfl) fun a F => ?_
     replace H := bind_some H
     obtain ⟨t406, q407, H⟩ := H
     refine q_yes F rfl (by decide) rfl (decide_eq_true hb398) ?_
     refine q_call F rfl rfl (by decide) (r_call F Try.func20 rfl (by kernel_rfl) rfl) (table_Table_Len.calls (m := m + 8) (Nat.add_pos_left hm0 _) B h350 (Nat.add_lt_add_left (by decide) m) _ q407) ?_
     rintro e w409 ⟨c408, rfl, E410, B411⟩
     refine ⟨_, rfl, fun a F => ?_⟩
     have B := B411
     replace h348 := SH.ev h348 E410 (fun q => q.elim) (fun q => q.elim) (fun q => q.elim)
     replace h350 := TB.ev h350 E410 (fun q => q.elim) (fun q => q.elim)
     replace h364 := SL.ev h364 E410 (fun q => q.elim) (fun q => q.elim)
     replace h374 := SL.ev h374 E410 (fun q => q.elim) (fun q => q.elim)
     replace E := E.trans E410 (fun x q => q.elim)
     refine q_yes F rfl (by decide) rfl (decide_eq_true hb398) ?_
     refine q_val F rfl rfl (by decide) (r_eql F rfl rfl) fun a F => ?_
     refine q_val F rfl rfl (by decide) (r_pick_t F rfl (decide_eq_true hb398) rfl) fun a F => ?_
     refine q_val F rfl rfl (by decide) (r_assign F rfl) fun a F => ?_
     refine nil ?_
     refine hK355 _ _ ?_
     replace F : Fr a 117 [(2, .bool (decide (t399 = t406)))] := F.sub ⟨rfl, trivial⟩
     refine wp_ret ?_
     replace H := Option.some.inj H
     subst H
     refine out1 F rfl rfl ?_
     exact ⟨fun b_ => (fun x_ => if x_ < m then x_ else 0) (c408 b_), rfl, E.leave B0 (fun x_ => if x_ < m then x_ else 0) (by intro x_ hx_; show (if x_ < m then x_ else 0) = x_; ((repeat' split) <;> omega)), (fun b_ hb_ => by show (if (c408 b_) < m then (c408 b_) else 0) < m; ((repeat' split) <;> omega))⟩
    ·replace H := (if_neg hb398).symm.trans H
     refine q_no F rfl (by decide) rfl (decide_eq_false hb398) (by decide) fun a F => ?_
     refine q_no F rfl (by decide) rfl (decide_eq_false hb398) (by decide) fun a F => ?_
     refine q_no F rfl (by decide) rfl (decide_eq_false hb398) (by decide) fun a F => ?_
     refine q_no F rfl (by decide) rfl (decide_eq_false hb398) (by decide) fun a F => ?_
     refine q_no F rfl (by decide) rfl (decide_eq_false hb398) (by decide) fun a F => ?_
     refine q_val F rfl rfl (by decide) (r_pick_f F rfl (decide_eq_false hb398) rfl) fun a F => ?_
     refine q_val F rfl rfl (by decide) (r_assign F rfl) fun a F => ?_
     refine nil ?_
     refine hK355 _ _ ?_
     replace F : Fr a 117 [(2, .bool false)] := F.sub ⟨rfl, trivial⟩
     refine wp_ret ?_
     replace H := Option.some.inj H
     subst H
     refine out1 F rfl rfl ?_
     exact ⟨fun b_ => (fun x_ => if x_ < m then x_ else 0) (c393 b_), rfl, E.leave B0 (fun x_ => if x_ < m then x_ else 0) (by intro x_ hx_; show (if x_ < m then x_ else 0) = x_; ((repeat' split) <;> omega)), (fun b_ hb_ => by show (if (c393 b_) < m then (c393 b_) else 0) < m; ((repeat' split) <;> omega))⟩
   ·replace H := (if_neg hb383).symm.trans H
    refine q_no F rfl (by decide) rfl (bfalse hb383) (by decide) fun a F => ?_
    refine q_no F rfl (by decide) rfl (bfalse hb383) (by decide) fun a F => ?_
    refine q_no F rfl (by decide) rfl (bfalse hb383) (by decide) fun a F => ?_
    refine q_no F rfl (by decide) rfl (bfalse hb383) (by decide) fun a F => ?_
    refine q_no F rfl (by decide) rfl (bfalse hb383) (by decide) fun a F => ?_
    refine q_val F rfl rfl (by decide) (r_pick_f F rfl (bfalse hb383) rfl) fun a F => ?_
    refine q_val F rfl rfl (by decide) (r_move F rfl) fun a F => ?_
    refine q_no F rfl (by decide) rfl rfl (by decide) fun a F => ?_
    refine q_no F rfl (by decide) rfl rfl (by decide) fun a F => ?_
    refine q_no F rfl (by decide) rfl rfl (by decide) fun a F => ?_
    refine q_no F rfl (by decide) rfl rfl (by decide) fun a F => ?_
    refine q_no F rfl (by decide) rfl rfl (by decide) fun a F => ?_
    refine q_val F rfl rfl (by decide) (r_pick_f F rfl rfl rfl) fun a F => ?_
    refine q_val F rfl rfl (by decide) (r_assign F rfl) fun a F => ?_
    refine nil ?_
    refine hK355 _ _ ?_
    replace F : Fr a 117 [(2, .bool false)] := F.sub ⟨rfl, trivial⟩
    refine wp_ret ?_
    replace H := Option.some.inj H
    subst H
    refine out1 F rfl rfl ?_
    exact ⟨fun b_ => (fun x_ => if x_ < m then x_ else 0) (c378 b_), rfl, E.leave B0 (fun x_ => if x_ < m then x_ else 0) (by intro x_ hx_; show (if x_ < m then x_ else 0) = x_; ((repeat' split) <;> omega)), (fun b_ hb_ => by show (if (c378 b_) < m then (c378 b_) else 0) < m; ((repeat' split) <;> omega))⟩
  refine loop_fuel (I := fun n a w => ∃ (o201 : Option Sha) (o204 : Option Tab) (i205 : Int) (c : Nat → Nat), Fr a 117 [(0, .slice A2 a1.length C3), (3, .pointer p24), (4, .pointer p34), (5, .int .i64 i205)] ∧ Ev (fun x => False ∨ m ≤ x) c0 w0 c w ∧ CB (m + 8) c w ∧ SL false K_haulagelaw14_Step 0 0 c w A2 C3 a1 ∧ SH (m + 1) (m + 2) c w p24 o201 ∧ TB (m + 3) c w p34 o204 ∧ loop (fun (s_ : (Option Sha) × (Option Tab) × Int) => haulagelaw14_ShardTable.b7 k a1 s_.1 s_.2.1 s_.2.2) n (o201, o204, i205) = some x215) (k := k) ⟨t18, t28, 0, c30, F.sub ⟨rfl, rfl, rfl, rfl, trivial⟩, E, B, h4, h25, h35, HL⟩ ?_
  clear HL H E F B
  intro n212 X208 hX208 a w207 ⟨o201, o204, i205, c206, F, E, B, h4, h200, h203, HL⟩
  obtain ⟨n213, ctl211, rfl, HB, HN209, HD210⟩ := loop_some HL
  have H : haulagelaw14_ShardTable.b7 k a1 o201 o204 i205 = some ctl211 := HB
  clear HB HL
  unfold haulagelaw14_ShardTable.b7 at H
  refine wp_seq_k fun K216 hK216 => ?_
  refine wp_seq_k fun K217 hK217 => ?_
  refine reg ?_
  refine q_val F rfl rfl (by decide) (r_move F rfl) fun a F => ?_
  refine q_val F rfl rfl (by decide) (r_move F rfl) fun a F => ?_
  refine q_val F rfl rfl (by decide) (r_lensl F Try.underlying22 rfl) fun a F => ?_
  refine q_val F rfl rfl (by decide) (r_lss F rfl rfl) fun a F => ?_
  refine nil ?_
  refine hK217 _ _ ?_
  by_cases hb218 : i205 < (a1.length : Int)
  ·replace H := (if_pos hb218).symm.trans H
   refine wp_cond_true ((F.ev rfl).trans (congrArg Value.bool (decide_eq_true hb218))) ?_
   refine wp_skip ?_
   refine hK216 _ _ ?_
   refine wp_seq_k fun K219 hK219 => ?_
   refine wp_block ?_
   refine wp_seq_k fun K220 hK220 => ?_
   refine reg ?_
   refine q_val F rfl rfl (by decide) (r_move F rfl) fun a F => ?_
   refine q_val F rfl rfl (by decide) (r_move F rfl) fun a F => ?_
   replace H := ifN H
   obtain ⟨g221, H⟩ := H
   obtain ⟨ad222, cs223, e224, h225, r226⟩ := SL.at h4 i205 g221.1 g221.2
   obtain ⟨A227, C228, A230, C231, rfl, h229, h232⟩ := r226
   replace h229 := SL.fl (i' := 0) h229 (fun q => q)
   replace h232 := SL.fl (i' := 0) h232 (fun q => q)
   obtain ⟨qa233, qqa233⟩ : ∃ q, q = (ad222.add (i205.toNat * 8)) := ⟨_, rfl⟩
   have h225 : AT false 0 c206 w207 qa233 [.int .i64 ((rd a1 i205).Who), .int .i64 ((rd a1 i205).Kind), .int .i64 ((rd a1 i205).Client), .int .i64 ((rd a1 i205).Seq), .int .i64 (((rd a1 i205).Op).Kind), .slice A227 (((rd a1 i205).Op).Key).length C228, .slice A230 (((rd a1 i205).Op).Value).length C231, .int .i64 (((rd a1 i205).Op).Rev)] := by rw [qqa233]; exact h225
   refine q_val F rfl rfl (by decide) (r_indexAddr' F Try.underlying22 sz_32 rfl rfl g221.1 g221.2 e224 qqa233) fun a F => ?_
   refine q_val F rfl rfl (by decide) (r_loads (cs := [.int .i64 ((rd a1 i205).Who), .int .i64 ((rd a1 i205).Kind), .int .i64 ((rd a1 i205).Client), .int .i64 ((rd a1 i205).Seq), .int .i64 (((rd a1 i205).Op).Kind), .slice A227 (((rd a1 i205).Op).Key).length C228, .slice A230 (((rd a1 i205).Op).Value).length C231, .int .i64 (((rd a1 i205).Op).Rev)]) F rfl ag_32 sz_32 h225) fun a F => ?_
   refine q_eff F rfl rfl (by decide) (e_alloc F zv_32 c206 (m + 4)) ?_
   rintro v w236 a ⟨c235, qa71, rfl, E237, h73, B238⟩ F
   replace B := B238 _ B (Nat.add_lt_add_left (by decide) m)
   replace h4 := SL.ev h4 E237 (fun q => q.elim) (fun q => q.elim)
   replace h200 := SH.ev h200 E237 (fun q => q.elim) (fun q => q.elim) (fun q => q.elim)
   replace h203 := TB.ev h203 E237 (fun q => q.elim) (fun q => q.elim)
   replace h229 := SL.ev h229 E237 (fun q => q.elim) (fun q => q.elim)
   replace h232 := SL.ev h232 E237 (fun q => q.elim) (fun q => q.elim)
   replace h225 := AT.ev h225 E237 (fun q => q.elim)
   replace E := E.trans E237 (fun x q => q.elim)
   replace h73 : AT true (m + 4) c235 w236 qa71 [.int .i64 0, .int .i64 0, .int .i64 0, .int .i64 0, .int .i64 0, .slice none 0 0, .slice none 0 0, .int .i64 0] := h73
   refine q_eff0 F rfl rfl (e_storeN0 (us := [.int .i64 ((rd a1 i205).Who), .int .i64 ((rd a1 i205).Kind), .int .i64 ((rd a1 i205).Client), .int .i64 ((rd a1 i205).Seq), .int .i64 (((rd a1 i205).Op).Kind), .slice A227 (((rd a1 i205).Op).Key).length C228, .slice A230 (((rd a1 i205).Op).Value).length C231, .int .i64 (((rd a1 i205).Op).Rev)]) F rfl rfl sz_32 h73 (Nat.le_of_ble_eq_true rfl) (one_all rfl)) ?_
   rintro w239 a ⟨E240, h73, Z241⟩ F
   replace B := B.size Z241
   replace h4 := SL.ev h4 E240 ne_zm ne_zm
   replace h200 := SH.ev h200 E240 (ne_mm (by decide)) (ne_mm (by decide)) ne_zm
   replace h203 := TB.ev h203 E240 (ne_mm (by decide)) ne_zm
   replace h229 := SL.ev h229 E240 ne_zm ne_zm
   replace h232 := SL.ev h232 E240 ne_zm ne_zm
   replace h225 := AT.ev h225 E240 ne_zm
   replace E := E.trans E240 (fun x (q : x = m + 4) => Or.inr (le_col q))
   replace h73 : AT true (m + 4) c235 w239 qa71 [.int .i64 ((rd a1 i205).Who), .int .i64 ((rd a1 i205).Kind), .int .i64 ((rd a1 i205).Client), .int .i64 ((rd a1 i205).Seq), .int .i64 (((rd a1 i205).Op).Kind), .slice A227 (((rd a1 i205).Op).Key).length C228, .slice A230 (((rd a1 i205).Op).Value).length C231, .int .i64 (((rd a1 i205).Op).Rev)] := h73
   refine nil ?_
   refine hK220 _ _ ?_
   replace F : Fr a 117 [(0, .slice A2 a1.length C3), (3, .pointer p24), (4, .pointer p34), (5, .int .i64 i205), (6, .pointer (some qa71))] := F.sub ⟨rfl, rfl, rfl, rfl, rfl, trivial⟩
   refine wp_seq_k fun K242 hK242 => ?_
   refine reg ?_
   refine q_val F rfl rfl (by decide) (r_move F rfl) fun a F => ?_
   refine q_val F rfl rfl (by decide) (r_fieldAddr F rfl ff_32_2) fun a F => ?_
   refine q_val F rfl rfl (by decide) (r_load F rfl ag_3 (AT.cell h73 rfl)) fun a F => ?_
   replace H := bind_some H
   obtain ⟨t80, q81, H⟩ := H
   refine q_call F rfl rfl (by decide) (r_call F Try.func9 rfl (by kernel_rfl) rfl) (shard_Shard_Seat.calls (m := m + 8) (Nat.add_pos_left hm0 _) B h200 (Nat.add_lt_add_left (by decide) m) ⟨(Nat.add_lt_add_left (by decide) m), (ne_mm (by decide))⟩ _ q81) ?_
   rintro e w244 ⟨c243, A247, C248, A250, C251, rfl, E245, B246, h249, h252⟩
   refine ⟨_, rfl, fun a F => ?_⟩
   have B := B246
   replace h4 := SL.ev h4 E245 (fun q => q.elim) (fun q => q.elim)
   replace h200 := SH.ev h200 E245 (fun q => q.elim) (fun q => q.elim) (fun q => q.elim)
   replace h203 := TB.ev h203 E245 (fun q => q.elim) (fun q => q.elim)
   replace h229 := SL.ev h229 E245 (fun q => q.elim) (fun q => q.elim)
   replace h232 := SL.ev h232 E245 (fun q => q.elim) (fun q => q.elim)
   replace h225 := AT.ev h225 E245 (fun q => q.elim)
   replace h73 := AT.ev h73 E245 (fun q => q.elim)
   replace E := E.trans E245 (fun x q => q.elim)
   refine q_val F rfl rfl (by decide) (r_move F rfl) fun a F => ?_
   refine q_val F rfl rfl (by decide) (r_extract F rfl rfl) fun a F => ?_
   refine q_val F rfl rfl (by decide) (r_extract F rfl rfl) fun a F => ?_
   refine q_eff F rfl rfl (by decide) (e_alloc F zv_36 c243 (m + 5)) ?_
   rintro v w255 a ⟨c254, qa95, rfl, E256, h97, B257⟩ F
   replace B := B257 _ B (Nat.add_lt_add_left (by decide) m)
   replace h4 := SL.ev h4 E256 (fun q => q.elim) (fun q => q.elim)
   replace h200 := SH.ev h200 E256 (fun q => q.elim) (fun q => q.elim) (fun q => q.elim)
   replace h203 := TB.ev h203 E256 (fun q => q.elim) (fun q => q.elim)
   replace h229 := SL.ev h229 E256 (fun q => q.elim) (fun q => q.elim)
   replace h232 := SL.ev h232 E256 (fun q => q.elim) (fun q => q.elim)
   replace h225 := AT.ev h225 E256 (fun q => q.elim)
   replace h73 := AT.ev h73 E256 (fun q => q.elim)
   replace h249 := SL.ev h249 E256 (fun q => q.elim) (fun q => q.elim)
   replace h252 := SL.ev h252 E256 (fun q => q.elim) (fun q => q.elim)
   replace E := E.trans E256 (fun x q => q.elim)
   replace h97 : AT true (m + 5) c254 w255 qa95 [.int .i64 0, .int .i64 0, .bool false, .slice none 0 0, .slice none 0 0, .int .i64 0, .int .i64 0] := h97
   refine q_eff0 F rfl rfl (e_storeN0 (us := [.int .i64 t80.1.Client, .int .i64 t80.1.Seq, .bool t80.1.Answer.Done, .slice A247 t80.1.Answer.Key.length C248, .slice A250 t80.1.Answer.Value.length C251, .int .i64 t80.1.Answer.Rev, .int .i64 t80.1.Answer.At]) F rfl rfl sz_36 h97 (Nat.le_of_ble_eq_true rfl) (one_all rfl)) ?_
   rintro w258 a ⟨E259, h97, Z260⟩ F
   replace B := B.size Z260
   replace h4 := SL.ev h4 E259 ne_zm ne_zm
   replace h200 := SH.ev h200 E259 (ne_mm (by decide)) (ne_mm (by decide)) ne_zm
   replace h203 := TB.ev h203 E259 (ne_mm (by decide)) ne_zm
   replace h229 := SL.ev h229 E259 ne_zm ne_zm
   replace h232 := SL.ev h232 E259 ne_zm ne_zm
   replace h225 := AT.ev h225 E259 ne_zm
   replace h73 := AT.ev h73 E259 (ne_mm (by decide))
   replace h249 := SL.ev h249 E259 ne_zm ne_zm
   replace h252 := SL.ev h252 E259 ne_zm ne_zm
   replace E := E.trans E259 (fun x (q : x = m + 5) => Or.inr (le_col q))
   replace h97 : AT true (m + 5) c254 w258 qa95 [.int .i64 t80.1.Client, .int .i64 t80.1.Seq, .bool t80.1.Answer.Done, .slice A247 t80.1.Answer.Key.length C248, .slice A250 t80.1.Answer.Value.length C251, .int .i64 t80.1.Answer.Rev, .int .i64 t80.1.Answer.At] := h97
   refine q_val F rfl rfl (by decide) (r_assign F rfl) fun a F => ?_
   refine nil ?_
   refine hK242 _ _ ?_
   refine wp_seq_k fun K261 hK261 => ?_
   refine reg ?_
   refine q_val F rfl rfl (by decide) (r_move F rfl) fun a F => ?_
   refine q_val F rfl rfl (by decide) (r_fieldAddr F rfl ff_32_2) fun a F => ?_
   refine q_val F rfl rfl (by decide) (r_load F rfl ag_3 (AT.cell h73 rfl)) fun a F => ?_
   refine q_val F rfl rfl (by decide) (r_fieldAddr F rfl ff_32_3) fun a F => ?_
   refine q_val F rfl rfl (by decide) (r_load F rfl ag_3 (AT.cell h73 rfl)) fun a F => ?_
   refine q_val F rfl rfl (by decide) (r_fieldAddr F rfl ff_32_4) fun a F => ?_
   refine q_val F rfl rfl (by decide) (r_loads (cs := [.int .i64 (((rd a1 i205).Op).Kind), .slice A227 (((rd a1 i205).Op).Key).length C228, .slice A230 (((rd a1 i205).Op).Value).length C231, .int .i64 (((rd a1 i205).Op).Rev)]) F rfl ag_30 sz_30 (AT.sub h73 4 4 (Nat.le_of_ble_eq_true rfl))) fun a F => ?_
   replace H := bind_some H
   obtain ⟨t104, q105, H⟩ := H
   refine q_call F rfl rfl (by decide) (r_call F Try.func10 rfl (by kernel_rfl) rfl) (shard_Shard_Do.calls k (m := m + 8) (Nat.add_pos_left hm0 _) B h200 h229 h232 ⟨(Nat.add_pos_left hm0 _), (Nat.add_lt_add_left (by decide) m)⟩ ⟨(Nat.add_pos_left hm0 _), (Nat.add_lt_add_left (by decide) m), (ne_mm (by decide))⟩ _ q105) ?_
   rintro e w263 ⟨c262, A266, C267, A269, C270, rfl, E264, B265, h268, h271, h272⟩
   refine ⟨_, rfl, fun a F => ?_⟩
   have B := B265
   replace h4 := SL.ev h4 E264 (nor ne_zm ne_zm) (nor ne_zm ne_zm)
   replace h203 := TB.ev h203 E264 (nor (ne_mm (by decide)) (ne_mm (by decide))) (nor ne_zm ne_zm)
   replace h229 := SL.ev h229 E264 (nor ne_zm ne_zm) (nor ne_zm ne_zm)
   replace h232 := SL.ev h232 E264 (nor ne_zm ne_zm) (nor ne_zm ne_zm)
   replace h225 := AT.ev h225 E264 (nor ne_zm ne_zm)
   replace h73 := AT.ev h73 E264 (nor (ne_mm (by decide)) (ne_mm (by decide)))
   replace h249 := SL.ev h249 E264 (nor ne_zm ne_zm) (nor ne_zm ne_zm)
   replace h252 := SL.ev h252 E264 (nor ne_zm ne_zm) (nor ne_zm ne_zm)
   replace h97 := AT.ev h97 E264 (nor (ne_mm (by decide)) (ne_mm (by decide)))
   replace E := E.trans E264 (fun x (q : x = m + 1 ∨ x = m + 2) => q.elim (fun q => Or.inr (le_col q)) (fun q => Or.inr (le_col q)))
   refine q_val F rfl rfl (by decide) (r_move F rfl) fun a F => ?_
   refine q_val F rfl rfl (by decide) (r_extract F rfl rfl) fun a F => ?_
   refine q_val F rfl rfl (by decide) (r_extract F rfl rfl) fun a F => ?_
   refine q_val F rfl rfl (by decide) (r_extract F rfl rfl) fun a F => ?_
   refine q_eff F rfl rfl (by decide) (e_alloc F zv_34 c262 (m + 6)) ?_
   rintro v w275 a ⟨c274, qa120, rfl, E276, h122, B277⟩ F
   replace B := B277 _ B (Nat.add_lt_add_left (by decide) m)
   replace h4 := SL.ev h4 E276 (fun q => q.elim) (fun q => q.elim)
   replace h203 := TB.ev h203 E276 (fun q => q.elim) (fun q => q.elim)
   replace h229 := SL.ev h229 E276 (fun q => q.elim) (fun q => q.elim)
   replace h232 := SL.ev h232 E276 (fun q => q.elim) (fun q => q.elim)
   replace h225 := AT.ev h225 E276 (fun q => q.elim)
   replace h73 := AT.ev h73 E276 (fun q => q.elim)
   replace h249 := SL.ev h249 E276 (fun q => q.elim) (fun q => q.elim)
   replace h252 := SL.ev h252 E276 (fun q => q.elim) (fun q => q.elim)
   replace h97 := AT.ev h97 E276 (fun q => q.elim)
   replace h268 := SL.ev h268 E276 (fun q => q.elim) (fun q => q.elim)
   replace h271 := SL.ev h271 E276 (fun q => q.elim) (fun q => q.elim)
   replace h272 := SH.ev h272 E276 (fun q => q.elim) (fun q => q.elim) (fun q => q.elim)
   replace E := E.trans E276 (fun x q => q.elim)
   replace h122 : AT true (m + 6) c274 w275 qa120 [.bool false, .slice none 0 0, .slice none 0 0, .int .i64 0, .int .i64 0] := h122
   refine q_eff0 F rfl rfl (e_storeN0 (us := [.bool t104.1.Done, .slice A266 t104.1.Key.length C267, .slice A269 t104.1.Value.length C270, .int .i64 t104.1.Rev, .int .i64 t104.1.At]) F rfl rfl sz_34 h122 (Nat.le_of_ble_eq_true rfl) (one_all rfl)) ?_
   rintro w278 a ⟨E279, h122, Z280⟩ F
   replace B := B.size Z280
   replace h4 := SL.ev h4 E279 ne_zm ne_zm
   replace h203 := TB.ev h203 E279 (ne_mm (by decide)) ne_zm
   replace h229 := SL.ev h229 E279 ne_zm ne_zm
   replace h232 := SL.ev h232 E279 ne_zm ne_zm
   replace h225 := AT.ev h225 E279 ne_zm
   replace h73 := AT.ev h73 E279 (ne_mm (by decide))
   replace h249 := SL.ev h249 E279 ne_zm ne_zm
   replace h252 := SL.ev h252 E279 ne_zm ne_zm
   replace h97 := AT.ev h97 E279 (ne_mm (by decide))
   replace h268 := SL.ev h268 E279 ne_zm ne_zm
   replace h271 := SL.ev h271 E279 ne_zm ne_zm
   replace h272 := SH.ev h272 E279 (ne_mm (by decide)) (ne_mm (by decide)) ne_zm
   replace E := E.trans E279 (fun x (q : x = m + 6) => Or.inr (le_col q))
   replace h122 : AT true (m + 6) c274 w278 qa120 [.bool t104.1.Done, .slice A266 t104.1.Key.length C267, .slice A269 t104.1.Value.length C270, .int .i64 t104.1.Rev, .int .i64 t104.1.At] := h122
   refine q_val F rfl rfl (by decide) (r_assign F rfl) fun a F => ?_
   refine q_val F rfl rfl (by decide) (r_assign F rfl) fun a F => ?_
   refine nil ?_
   refine hK261 _ _ ?_
   replace F : Fr a 117 [(0, .slice A2 a1.length C3), (3, .pointer p24), (4, .pointer p34), (5, .int .i64 i205), (6, .pointer (some qa71)), (7, .pointer (some qa95)), (8, .bool t80.2), (9, .pointer (some qa120)), (10, .bool t104.2.1), (11, .int .i64 t104.2.2.1)] := F.sub ⟨rfl, rfl, rfl, rfl, rfl, rfl, rfl, rfl, rfl, rfl, trivial⟩
   refine wp_seq_k fun K281 hK281 => ?_
   refine wp_seq_k fun K282 hK282 => ?_
   have J291 : ∀ (c292 : Nat → Nat) (w293 : World) (a : Act) (b290 : Bool), Fr a 117 [(0, .slice A2 a1.length C3), (3, .pointer p24), (4, .pointer p34), (5, .int .i64 i205), (6, .pointer (some qa71)), (9, .pointer (some qa120)), (10, .bool t104.2.1), (60, .bool b290)] → Ev (fun x => False ∨ m ≤ x) c0 w0 c292 w293 → CB (m + 8) c292 w293 → AT true (m + 4) c292 w293 qa71 [.int .i64 ((rd a1 i205).Who), .int .i64 ((rd a1 i205).Kind), .int .i64 ((rd a1 i205).Client), .int .i64 ((rd a1 i205).Seq), .int .i64 (((rd a1 i205).Op).Kind), .slice A227 (((rd a1 i205).Op).Key).length C228, .slice A230 (((rd a1 i205).Op).Value).length C231, .int .i64 (((rd a1 i205).Op).Rev)] → AT true (m + 6) c292 w293 qa120 [.bool t104.1.Done, .slice A266 t104.1.Key.length C267, .slice A269 t104.1.Value.length C270, .int .i64 t104.1.Rev, .int .i64 t104.1.At] → SL false K_haulagelaw14_Step 0 0 c292 w293 A2 C3 a1 → SH (m + 1) (m + 2) c292 w293 p24 t104.2.2.2 → TB (m + 3) c292 w293 p34 o204 → SL false (Kint .u8) 0 0 c292 w293 A227 C228 (((rd a1 i205).Op).Key) → SL false (Kint .u8) 0 0 c292 w293 A230 C231 (((rd a1 i205).Op).Value) → SL false (Kint .u8) 0 0 c292 w293 A266 C267 t104.1.Key → SL false (Kint .u8) 0 0 c292 w293 A269 C270 t104.1.Value → haulagelaw14_ShardTable.j4 k a1 t104 o204 i205 b290 = some ctl211 → K282 a w293 := by
    intro c292 w293 a b290 F E B h73 h122 h4 h272 h203 h229 h232 h268 h271 H
    unfold haulagelaw14_ShardTable.j4 at H
    refine hK282 _ _ ?_
    by_cases hb294 : b290 = true
    ·replace H := (if_pos hb294).symm.trans H
     refine wp_cond_true ((F.ev rfl).trans (congrArg Value.bool hb294)) ?_
     refine wp_exit ?_
     refine thenE ?_
     refine inbE ?_
     refine hK219 _ _ ?_
     refine reg ?_
     refine q_val F rfl rfl (by decide) (r_move F rfl) fun a F => ?_
     refine q_val F rfl rfl (by decide) (r_add F rfl rfl) fun a F => ?_
     refine q_val F rfl rfl (by decide) (r_assign F rfl) fun a F => ?_
     refine nil ?_
     replace H := HN209 _ (Option.some.inj H).symm
     exact hX208 _ _ _ (Nat.lt_succ_self _) ⟨t104.2.2.2, o204, (IntKind.i64.wrap (i205 + 1)), c292, F.sub ⟨rfl, rfl, rfl, rfl, trivial⟩, E, B, h4, h272, h203, H⟩
    ·replace H := (if_neg hb294).symm.trans H
     refine wp_cond_false ((F.ev rfl).trans (congrArg Value.bool (bfalse hb294))) ?_
     refine wp_skip ?_
     refine hK281 _ _ ?_
     refine wp_seq_k fun K295 hK295 => ?_
     refine reg ?_
     refine q_val F rfl rfl (by decide) (r_move F rfl) fun a F => ?_
     refine q_val F rfl rfl (by decide) (r_fieldAddr F rfl ff_32_4) fun a F => ?_
     refine q_val F rfl rfl (by decide) (r_loads (cs := [.int .i64 (((rd a1 i205).Op).Kind), .slice A227 (((rd a1 i205).Op).Key).length C228, .slice A230 (((rd a1 i205).Op).Value).length C231, .int .i64 (((rd a1 i205).Op).Rev)]) F rfl ag_30 sz_30 (AT.sub h73 4 4 (Nat.le_of_ble_eq_true rfl))) fun a F => ?_
     replace H := bind_some H
     obtain ⟨t145, q146, H⟩ := H
     refine q_call F rfl rfl (by decide) (r_call F Try.func12 rfl (by kernel_rfl) rfl) (table_Table_Do.calls k (m := m + 8) (Nat.add_pos_left hm0 _) B h203 h229 h232 ⟨(Nat.add_pos_left hm0 _), (Nat.add_lt_add_left (by decide) m)⟩ _ q146) ?_
     rintro e w297 ⟨c296, A300, C301, A303, C304, rfl, E298, B299, h302, h305, h306⟩
     refine ⟨_, rfl, fun a F => ?_⟩
     have B := B299
     replace h73 := AT.ev h73 E298 (ne_mm (by decide))
     replace h122 := AT.ev h122 E298 (ne_mm (by decide))
     replace h4 := SL.ev h4 E298 ne_zm ne_zm
     replace h272 := SH.ev h272 E298 (ne_mm (by decide)) (ne_mm (by decide)) ne_zm
     replace h229 := SL.ev h229 E298 ne_zm ne_zm
     replace h232 := SL.ev h232 E298 ne_zm ne_zm
     replace h268 := SL.ev h268 E298 ne_zm ne_zm
     replace h271 := SL.ev h271 E298 ne_zm ne_zm
     replace E := E.trans E298 (fun x (q : x = m + 3) => Or.inr (le_col q))
     refine q_val F rfl rfl (by decide) (r_move F rfl) fun a F => ?_
     refine q_val F rfl rfl (by decide) (r_extract F rfl rfl) fun a F => ?_
     refine q_val F rfl rfl (by decide) (r_extract F rfl rfl) fun a F => ?_
     refine q_eff F rfl rfl (by decide) (e_alloc F zv_34 c296 (m + 7)) ?_
     rintro v w309 a ⟨c308, qa161, rfl, E310, h163, B311⟩ F
     replace B := B311 _ B (Nat.add_lt_add_left (by decide) m)
     replace h73 := AT.ev h73 E310 (fun q => q.elim)
     replace h122 := AT.ev h122 E310 (fun q => q.elim)
     replace h4 := SL.ev h4 E310 (fun q => q.elim) (fun q => q.elim)
     replace h272 := SH.ev h272 E310 (fun q => q.elim) (fun q => q.elim) (fun q => q.elim)
     replace h229 := SL.ev h229 E310 (fun q => q.elim) (fun q => q.elim)
     replace h232 := SL.ev h232 E310 (fun q => q.elim) (fun q => q.elim)
     replace h268 := SL.ev h268 E310 (fun q => q.elim) (fun q => q.elim)
     replace h271 := SL.ev h271 E310 (fun q => q.elim) (fun q => q.elim)
     replace h302 := SL.ev h302 E310 (fun q => q.elim) (fun q => q.elim)
     replace h305 := SL.ev h305 E310 (fun q => q.elim) (fun q => q.elim)
     replace h306 := TB.ev h306 E310 (fun q => q.elim) (fun q => q.elim)
     replace E := E.trans E310 (fun x q => q.elim)
     replace h163 : AT true (m + 7) c308 w309 qa161 [.bool false, .slice none 0 0, .slice none 0 0, .int .i64 0, .int .i64 0] := h163
     refine q_eff0 F rfl rfl (e_storeN0 (us := [.bool t145.1.Done, .slice A300 t145.1.Key.length C301, .slice A303 t145.1.Value.length C304, .int .i64 t145.1.Rev, .int .i64 t145.1.At]) F rfl rfl sz_34 h163 (Nat.le_of_ble_eq_true rfl) (one_all rfl)) ?_
     rintro w312 a ⟨E313, h163, Z314⟩ F
     replace B := B.size Z314
     replace h73 := AT.ev h73 E313 (ne_mm (by decide))
     replace h122 := AT.ev h122 E313 (ne_mm (by decide))
     replace h4 := SL.ev h4 E313 ne_zm ne_zm
     replace h272 := SH.ev h272 E313 (ne_mm (by decide)) (ne_mm (by decide)) ne_zm
     replace h229 := SL.ev h229 E313 ne_zm ne_zm
     replace h232 := SL.ev h232 E313 ne_zm ne_zm
     replace h268 := SL.ev h268 E313 ne_zm ne_zm
     replace h271 := SL.ev h271 E313 ne_zm ne_zm
     replace h302 := SL.ev h302 E313 ne_zm ne_zm
     replace h305 := SL.ev h305 E313 ne_zm ne_zm
     replace h306 := TB.ev h306 E313 (ne_mm (by decide)) ne_zm
     replace E := E.trans E313 (fun x (q : x = m + 7) => Or.inr (le_col q))
     replace h163 : AT true (m + 7) c308 w312 qa161 [.bool t145.1.Done, .slice A300 t145.1.Key.length C301, .slice A303 t145.1.Value.length C304, .int .i64 t145.1.Rev, .int .i64 t145.1.At] := h163
     refine q_val F rfl rfl (by decide) (r_assign F rfl) fun a F => ?_
     refine nil ?_
     refine hK295 _ _ ?_
     replace F : Fr a 117 [(0, .slice A2 a1.length C3), (3, .pointer p24), (4, .pointer p34), (5, .int .i64 i205), (6, .pointer (some qa71)), (9, .pointer (some qa120)), (10, .bool t104.2.1), (12, .pointer (some qa161)), (13, .int .i64 t145.2.1)] := F.sub ⟨rfl, rfl, rfl, rfl, rfl, rfl, rfl, rfl, rfl, trivial⟩
     refine wp_seq_k fun K315 hK315 => ?_
     have J319 : ∀ (c320 : Nat → Nat) (w321 : World) (a : Act) (b318 : Bool), Fr a 117 [(0, .slice A2 a1.length C3), (3, .pointer p24), (4, .pointer p34), (5, .int .i64 i205), (9, .pointer (some qa120)), (10, .bool t104.2.1), (12, .pointer (some qa161)), (13, .int .i64 t145.2.1), (14, .bool b318)] → Ev (fun x => False ∨ m ≤ x) c0 w0 c320 w321 → CB (m + 8) c320 w321 → AT true (m + 6) c320 w321 qa120 [.bool t104.1.Done, .slice A266 t104.1.Key.length C267, .slice A269 t104.1.Value.length C270, .int .i64 t104.1.Rev, .int .i64 t104.1.At] → AT true (m + 7) c320 w321 qa161 [.bool t145.1.Done, .slice A300 t145.1.Key.length C301, .slice A303 t145.1.Value.length C304, .int .i64 t145.1.Rev, .int .i64 t145.1.At] → SL false K_haulagelaw14_Step 0 0 c320 w321 A2 C3 a1 → SH (m + 1) (m + 2) c320 w321 p24 t104.2.2.2 → TB (m + 3) c320 w321 p34 t145.2.2 → SL false (Kint .u8) 0 0 c320 w321 A266 C267 t104.1.Key → SL false (Kint .u8) 0 0 c320 w321 A269 C270 t104.1.Value → SL false (Kint .u8) 0 0 c320 w321 A300 C301 t145.1.Key → SL false (Kint .u8) 0 0 c320 w321 A303 C304 t145.1.Value → haulagelaw14_ShardTable.j5 k t104 t145 i205 b318 = some ctl211 → K315 a w321 := by
      intro c320 w321 a b318 F E B h122 h163 h4 h272 h306 h268 h271 h302 h305 H
      unfold haulagelaw14_ShardTable.j5 at H
      refine hK315 _ _ ?_
      refine wp_seq_k fun K322 hK322 => ?_
      have J336 : ∀ (c337 : Nat → Nat) (w338 : World) (a : Act) (b335 : Bool), Fr a 117 [(0, .slice A2 a1.length C3), (3, .pointer p24), (4, .pointer p34), (5, .int .i64 i205), (97, .bool b335)] → Ev (fun x => False ∨ m ≤ x) c0 w0 c337 w338 → CB (m + 8) c337 w338 → SL false K_haulagelaw14_Step 0 0 c337 w338 A2 C3 a1 → SH (m + 1) (m + 2) c337 w338 p24 t104.2.2.2 → TB (m + 3) c337 w338 p34 t145.2.2 → haulagelaw14_ShardTable.j6 t104 t145 i205 b335 = some ctl211 → K322 a w338 := by
       intro c337 w338 a b335 F E B h4 h272 h306 H
       unfold haulagelaw14_ShardTable.j6 at H
       refine hK322 _ _ ?_
       by_cases hb339 : b335 = true
       ·replace H := (if_pos hb339).symm.trans H
        refine wp_cond_true ((F.ev rfl).trans (congrArg Value.bool hb339)) ?_
        refine wp_seq_k fun K340 hK340 => ?_
        refine reg ?_
        refine q_val F rfl rfl (by decide) (r_assign F rfl) fun a F => ?_
        refine nil ?_
        refine hK340 _ _ ?_
        refine wp_ret ?_
        refine inbR ?_
        refine thenR ?_
        refine thenR ?_
        refine inbR ?_
        refine thenR ?_
        have hx_ := HD210 _ (Option.some.inj H).symm
        have H := HR214
        rw [← hx_] at H
        replace H : some false = some r := H
        replace H := Option.some.inj H
        subst H
        refine out1 F rfl rfl ?_
        exact ⟨fun b_ => (fun x_ => if x_ < m then x_ else 0) (c337 b_), rfl, E.leave B0 (fun x_ => if x_ < m then x_ else 0) (by intro x_ hx_; show (if x_ < m then x_ else 0) = x_; ((repeat' split) <;> omega)), (fun b_ hb_ => by show (if (c337 b_) < m then (c337 b_) else 0) < m; ((repeat' split) <;> omega))⟩
       ·replace H := (if_neg hb339).symm.trans H
        refine wp_cond_false ((F.ev rfl).trans (congrArg Value.bool (bfalse hb339))) ?_
        refine wp_skip ?_
        refine hK219 _ _ ?_
        refine reg ?_
        refine q_val F rfl rfl (by decide) (r_move F rfl) fun a F => ?_
        refine q_val F rfl rfl (by decide) (r_add F rfl rfl) fun a F => ?_
        refine q_val F rfl rfl (by decide) (r_assign F rfl) fun a F => ?_
        refine nil ?_
        replace H := HN209 _ (Option.some.inj H).symm
        exact hX208 _ _ _ (Nat.lt_succ_self _) ⟨t104.2.2.2, t145.2.2, (IntKind.i64.wrap (i205 + 1)), c337, F.sub ⟨rfl, rfl, rfl, rfl, trivial⟩, E, B, h4, h272, h306, H⟩
      refine reg ?_
      refine q_val F rfl rfl (by decide) (r_move F rfl) fun a F => ?_
      replace H := bind_some H
      obtain ⟨t177, q178, H⟩ := H
      refine q_call F rfl rfl (by decide) (r_call F Try.func11 rfl (by kernel_rfl) rfl) (haulagelaw14_num.calls (m := m + 8) (Nat.add_pos_left hm0 _) B _ q178) ?_
      rintro e w324 ⟨c323, rfl, E325, B326⟩
      refine ⟨_, rfl, fun a F => ?_⟩
      have B := B326
      replace h122 := AT.ev h122 E325 (fun q => q.elim)
      replace h163 := AT.ev h163 E325 (fun q => q.elim)
      replace h4 := SL.ev h4 E325 (fun q => q.elim) (fun q => q.elim)
      replace h272 := SH.ev h272 E325 (fun q => q.elim) (fun q => q.elim) (fun q => q.elim)
      replace h306 := TB.ev h306 E325 (fun q => q.elim) (fun q => q.elim)
      replace h268 := SL.ev h268 E325 (fun q => q.elim) (fun q => q.elim)
      replace h271 := SL.ev h271 E325 (fun q => q.elim) (fun q => q.elim)
      replace h302 := SL.ev h302 E325 (fun q => q.elim) (fun q => q.elim)
      replace h305 := SL.ev h305 E325 (fun q => q.elim) (fun q => q.elim)
      replace E := E.trans E325 (fun x q => q.elim)
      refine q_val F rfl rfl (by decide) (r_neq F rfl rfl) fun a F => ?_
      refine q_val F rfl rfl (by decide) (r_move F rfl) fun a F => ?_
      by_cases hb328 : t177 = 0
      ·replace H := (if_pos hb328).symm.trans H
       refine q_yes F rfl (by decide) rfl (congrArg not (decide_eq_true hb328)) ?_
       refine q_val F rfl rfl (by decide) (r_loads (cs := [.bool t104.1.Done, .slice A266 t104.1.Key.length C267, .slice A269 t104.1.Value.length C270, .int .i64 t104.1.Rev, .int .i64 t104.1.At]) F rfl ag_34 sz_34 h122) fun a F => ?_
       refine q_yes F rfl (by decide) rfl (congrArg not (decide_eq_true hb328)) ?_
       refine q_val F rfl rfl (by decide) (r_loads (cs := [.bool t145.1.Done, .slice A300 t145.1.Key.length C301, .slice A303 t145.1.Value.length C304, .int .i64 t145.1.Rev, .int .i64 t145.1.At]) F rfl ag_34 sz_34 h163) fun a F => ?_
       replace H := bind_some H
       obtain ⟨t185, q186, H⟩ := H
       refine q_yes F rfl (by decide) rfl (congrArg not (decide_eq_true hb328)) ?_
       refine q_call F rfl rfl (by decide) (r_call F Try.func13 rfl (by kernel_rfl) rfl) (haulagelaw14_sameAnswer.calls k (m := m + 8) (Nat.add_pos_left hm0 _) B h268 h271 h302 h305 _ q186) ?_
       rintro e w330 ⟨c329, rfl, E331, B332⟩
       refine ⟨_, rfl, fun a F => ?_⟩
       have B := B332
       replace h122 := AT.ev h122 E331 (fun q => q.elim)
       replace h163 := AT.ev h163 E331 (fun q => q.elim)
       replace h4 := SL.ev h4 E331 (fun q => q.elim) (fun q => q.elim)
       replace h272 := SH.ev h272 E331 (fun q => q.elim) (fun q => q.elim) (fun q => q.elim)
       replace h306 := TB.ev h306 E331 (fun q => q.elim) (fun q => q.elim)
       replace h268 := SL.ev h268 E331 (fun q => q.elim) (fun q => q.elim)
       replace h271 := SL.ev h271 E331 (fun q => q.elim) (fun q => q.elim)
       replace h302 := SL.ev h302 E331 (fun q => q.elim) (fun q => q.elim)
       replace h305 := SL.ev h305 E331 (fun q => q.elim) (fun q => q.elim)
       replace E := E.trans E331 (fun x q => q.elim)
       refine q_yes F rfl (by decide) rfl (congrArg not (decide_eq_true hb328)) ?_
       refine q_val F rfl rfl (by decide) (r_not F rfl) fun a F => ?_
       refine q_val F rfl rfl (by decide) (r_pick_f F rfl (congrArg not (decide_eq_true hb328)) rfl) fun a F => ?_
       refine q_val F rfl rfl (by decide) (r_move F rfl) fun a F => ?_
       by_cases hb334 : t185 = true
       ·replace H := (if_pos hb334).symm.trans H
        refine q_yes F rfl (by decide) rfl (congrArg not hb334) ?_
        refine q_val F rfl rfl (by decide) (r_move F rfl) fun a F => ?_
        refine q_yes F rfl (by decide) rfl (congrArg not hb334) ?_
        refine q_val F rfl rfl (by decide) (r_move F rfl) fun a F => ?_
        refine q_yes F rfl (by decide) rfl (congrArg not hb334) ?_
        refine q_val F rfl rfl (by decide) (r_bneq F Try.underlying4 rfl rfl) fun a F => ?_
        refine q_val F rfl rfl (by decide) (r_pick_f F rfl (congrArg not hb334) rfl) fun a F => ?_
        refine nil ?_
        exact J336 c329 w330 a (!(t104.2.1 == b318)) (F.sub ⟨rfl, rfl, rfl, rfl, rfl, trivial⟩) E B h4 h272 h306 H
       ·replace H := (if_neg hb334).symm.trans H
        refine q_no F rfl (by decide) rfl (congrArg not (bfalse hb334)) (by decide) fun a F => ?_
        refine q_no F rfl (by decide) rfl (congrArg not (bfalse hb334)) (by decide) fun a F => ?_
        refine q_no F rfl (by decide) rfl (congrArg not (bfalse hb334)) (by decide) fun a F => ?_
        refine q_val F rfl rfl (by decide) (r_pick_t F rfl (congrArg not (bfalse hb334)) rfl) fun a F => ?_
        refine nil ?_
        exact J336 c329 w330 a true (F.sub ⟨rfl, rfl, rfl, rfl, rfl, trivial⟩) E B h4 h272 h306 H
      ·replace H := (if_neg hb328).symm.trans H
       refine q_no F rfl (by decide) rfl (congrArg not (decide_eq_false hb328)) (by decide) fun a F => ?_
       refine q_no F rfl (by decide) rfl (congrArg not (decide_eq_false hb328)) (by decide) fun a F => ?_
       refine q_no F rfl (by decide) rfl (congrArg not (decide_eq_false hb328)) (by decide) fun a F => ?_
       refine q_no F rfl (by decide) rfl (congrArg not (decide_eq_false hb328)) (by decide) fun a F => ?_
       refine q_val F rfl rfl (by decide) (r_pick_t F rfl (congrArg not (decide_eq_false hb328)) rfl) fun a F => ?_
       refine q_val F rfl rfl (by decide) (r_move F rfl) fun a F => ?_
       refine q_no F rfl (by decide) rfl rfl (by decide) fun a F => ?_
       refine q_no F rfl (by decide) rfl rfl (by decide) fun a F => ?_
       refine q_no F rfl (by decide) rfl rfl (by decide) fun a F => ?_
       refine q_val F rfl rfl (by decide) (r_pick_t F rfl rfl rfl) fun a F => ?_
       refine nil ?_
       exact J336 c323 w324 a true (F.sub ⟨rfl, rfl, rfl, rfl, rfl, trivial⟩) E B h4 h272 h306 H
     refine reg ?_
     refine q_val F rfl rfl (by decide) (r_fieldAddr F rfl ff_32_4) fun a F => ?_
     refine q_val F rfl rfl (by decide) (r_fieldAddr2 F h73 rfl ff_30_0) fun a F => ?_
     refine q_val F rfl rfl (by decide) (r_load F rfl ag_3 (AT.cell h73 rfl)) fun a F => ?_
     refine q_val F rfl rfl (by decide) (r_eql F rfl rfl) fun a F => ?_
     refine q_val F rfl rfl (by decide) (r_move F rfl) fun a F => ?_
     by_cases hb316 : (((rd a1 i205).Op).Kind) = 2
     ·replace H := (if_pos hb316).symm.trans H
      refine q_no F rfl (by decide) rfl (decide_eq_true hb316) (by decide) fun a F => ?_
      refine q_no F rfl (by decide) rfl (decide_eq_true hb316) (by decide) fun a F => ?_
      refine q_no F rfl (by decide) rfl (decide_eq_true hb316) (by decide) fun a F => ?_
      refine q_no F rfl (by decide) rfl (decide_eq_true hb316) (by decide) fun a F => ?_
      refine q_val F rfl rfl (by decide) (r_pick_t F rfl (decide_eq_true hb316) rfl) fun a F => ?_
      refine q_val F rfl rfl (by decide) (r_move F rfl) fun a F => ?_
      refine q_no F rfl (by decide) rfl rfl (by decide) fun a F => ?_
      refine q_no F rfl (by decide) rfl rfl (by decide) fun a F => ?_
      refine q_no F rfl (by decide) rfl rfl (by decide) fun a F => ?_
      refine q_no F rfl (by decide) rfl rfl (by decide) fun a F => ?_
      refine q_val F rfl rfl (by decide) (r_pick_t F rfl rfl rfl) fun a F => ?_
      refine q_val F rfl rfl (by decide) (r_assign F rfl) fun a F => ?_
      refine nil ?_
      exact J319 c308 w312 a true (F.sub ⟨rfl, rfl, rfl, rfl, rfl, rfl, rfl, rfl, rfl, trivial⟩) E B h122 h163 h4 h272 h306 h268 h271 h302 h305 H
     ·replace H := (if_neg hb316).symm.trans H
      refine q_yes F rfl (by decide) rfl (decide_eq_false hb316) ?_
      refine q_val F rfl rfl (by decide) (r_fieldAddr F rfl ff_32_4) fun a F => ?_
      refine q_yes F rfl (by decide) rfl (decide_eq_false hb316) ?_
      refine q_val F rfl rfl (by decide) (r_fieldAddr2 F h73 rfl ff_30_0) fun a F => ?_
      refine q_yes F rfl (by decide) rfl (decide_eq_false hb316) ?_
      refine q_val F rfl rfl (by decide) (r_load F rfl ag_3 (AT.cell h73 rfl)) fun a F => ?_
      refine q_yes F rfl (by decide) rfl (decide_eq_false hb316) ?_
      refine q_val F rfl rfl (by decide) (r_eql F rfl rfl) fun a F => ?_
      refine q_val F rfl rfl (by decide) (r_pick_f F rfl (decide_eq_false hb316) rfl) fun a F => ?_
      refine q_val F rfl rfl (by decide) (r_move F rfl) fun a F => ?_
      by_cases hb317 : (((rd a1 i205).Op).Kind) = 3
      ·replace H := (if_pos hb317).symm.trans H
       refine q_no F rfl (by decide) rfl (decide_eq_true hb317) (by decide) fun a F => ?_
       refine q_no F rfl (by decide) rfl (decide_eq_true hb317) (by decide) fun a F => ?_
       refine q_no F rfl (by decide) rfl (decide_eq_true hb317) (by decide) fun a F => ?_
       refine q_no F rfl (by decide) rfl (decide_eq_true hb317) (by decide) fun a F => ?_
       refine q_val F rfl rfl (by decide) (r_pick_t F rfl (decide_eq_true hb317) rfl) fun a F => ?_
       refine q_val F rfl rfl (by decide) (r_assign F rfl) fun a F => ?_
       refine nil ?_
       exact J319 c308 w312 a true (F.sub ⟨rfl, rfl, rfl, rfl, rfl, rfl, rfl, rfl, rfl, trivial⟩) E B h122 h163 h4 h272 h306 h268 h271 h302 h305 H
      ·replace H := (if_neg hb317).symm.trans H
       refine q_yes F rfl (by decide) rfl (decide_eq_false hb317) ?_
       refine q_val F rfl rfl (by decide) (r_fieldAddr F rfl ff_32_4) fun a F => ?_
       refine q_yes F rfl (by decide) rfl (decide_eq_false hb317) ?_
       refine q_val F rfl rfl (by decide) (r_fieldAddr2 F h73 rfl ff_30_0) fun a F => ?_
       refine q_yes F rfl (by decide) rfl (decide_eq_false hb317) ?_
       refine q_val F rfl rfl (by decide) (r_load F rfl ag_3 (AT.cell h73 rfl)) fun a F => ?_
       refine q_yes F rfl (by decide) rfl (decide_eq_false hb317) ?_
       refine q_val F rfl rfl (by decide) (r_eql F rfl rfl) fun a F => ?_
       refine q_val F rfl rfl (by decide) (r_pick_f F rfl (decide_eq_false hb317) rfl) fun a F => ?_
       refine q_val F rfl rfl (by decide) (r_assign F rfl) fun a F => ?_
       refine nil ?_
       exact J319 c308 w312 a (decide ((((rd a1 i205).Op).Kind) = 4)) (F.sub ⟨rfl, rfl, rfl, rfl, rfl, rfl, rfl, rfl, rfl, trivial⟩) E B h122 h163 h4 h272 h306 h268 h271 h302 h305 H
   refine reg ?_
   refine q_val F rfl rfl (by decide) (r_move F rfl) fun a F => ?_
   replace H := bind_some H
   obtain ⟨t130, q131, H⟩ := H
   refine q_call F rfl rfl (by decide) (r_call F Try.func11 rfl (by kernel_rfl) rfl) (haulagelaw14_num.calls (m := m + 8) (Nat.add_pos_left hm0 _) B _ q131) ?_
   rintro e w284 ⟨c283, rfl, E285, B286⟩
   refine ⟨_, rfl, fun a F => ?_⟩
   have B := B286
   replace h4 := SL.ev h4 E285 (fun q => q.elim) (fun q => q.elim)
   replace h203 := TB.ev h203 E285 (fun q => q.elim) (fun q => q.elim)
   replace h229 := SL.ev h229 E285 (fun q => q.elim) (fun q => q.elim)
   replace h232 := SL.ev h232 E285 (fun q => q.elim) (fun q => q.elim)
   replace h225 := AT.ev h225 E285 (fun q => q.elim)
   replace h73 := AT.ev h73 E285 (fun q => q.elim)
   replace h249 := SL.ev h249 E285 (fun q => q.elim) (fun q => q.elim)
   replace h252 := SL.ev h252 E285 (fun q => q.elim) (fun q => q.elim)
   replace h97 := AT.ev h97 E285 (fun q => q.elim)
   replace h268 := SL.ev h268 E285 (fun q => q.elim) (fun q => q.elim)
   replace h271 := SL.ev h271 E285 (fun q => q.elim) (fun q => q.elim)
   replace h272 := SH.ev h272 E285 (fun q => q.elim) (fun q => q.elim) (fun q => q.elim)
   replace h122 := AT.ev h122 E285 (fun q => q.elim)
   replace E := E.trans E285 (fun x q => q.elim)
   refine q_val F rfl rfl (by decide) (r_neq F rfl rfl) fun a F => ?_
   refine q_val F rfl rfl (by decide) (r_move F rfl) fun a F => ?_
   by_cases hb288 : t130 = 0
   ·replace H := (if_pos hb288).symm.trans H
    refine q_yes F rfl (by decide) rfl (congrArg not (decide_eq_true hb288)) ?_
    refine q_val F rfl rfl (by decide) (r_move F rfl) fun a F => ?_
    refine q_yes F rfl (by decide) rfl (congrArg not (decide_eq_true hb288)) ?_
    refine q_val F rfl rfl (by decide) (r_move F rfl) fun a F => ?_
    by_cases hb289 : t80.2 = true
    ·replace H := (if_pos hb289).symm.trans H
     refine q_yes F rfl (by decide) rfl hb289 ?_
     refine q_val F rfl rfl (by decide) (r_fieldAddr F rfl ff_32_3) fun a F => ?_
     refine q_yes F rfl (by decide) rfl hb289 ?_
     refine q_val F rfl rfl (by decide) (r_load F rfl ag_3 (AT.cell h73 rfl)) fun a F => ?_
     refine q_yes F rfl (by decide) rfl hb289 ?_
     refine q_val F rfl rfl (by decide) (r_fieldAddr F rfl ff_36_1) fun a F => ?_
     refine q_yes F rfl (by decide) rfl hb289 ?_
     refine q_val F rfl rfl (by decide) (r_load F rfl ag_3 (AT.cell h97 rfl)) fun a F => ?_
     refine q_yes F rfl (by decide) rfl hb289 ?_
     refine q_val F rfl rfl (by decide) (r_leq F rfl rfl) fun a F => ?_
     refine q_yes F rfl (by decide) rfl (congrArg not (decide_eq_true hb288)) ?_
     refine q_val F rfl rfl (by decide) (r_pick_t F rfl hb289 rfl) fun a F => ?_
     refine q_val F rfl rfl (by decide) (r_pick_f F rfl (congrArg not (decide_eq_true hb288)) rfl) fun a F => ?_
     refine nil ?_
     exact J291 c283 w284 a (decide (((rd a1 i205).Seq) ≤ t80.1.Seq)) (F.sub ⟨rfl, rfl, rfl, rfl, rfl, rfl, rfl, rfl, trivial⟩) E B h73 h122 h4 h272 h203 h229 h232 h268 h271 H
    ·replace H := (if_neg hb289).symm.trans H
     refine q_no F rfl (by decide) rfl (bfalse hb289) (by decide) fun a F => ?_
     refine q_no F rfl (by decide) rfl (bfalse hb289) (by decide) fun a F => ?_
     refine q_no F rfl (by decide) rfl (bfalse hb289) (by decide) fun a F => ?_
     refine q_no F rfl (by decide) rfl (bfalse hb289) (by decide) fun a F => ?_
     refine q_no F rfl (by decide) rfl (bfalse hb289) (by decide) fun a F => ?_
     refine q_yes F rfl (by decide) rfl (congrArg not (decide_eq_true hb288)) ?_
     refine q_val F rfl rfl (by decide) (r_pick_f F rfl (bfalse hb289) rfl) fun a F => ?_
     refine q_val F rfl rfl (by decide) (r_pick_f F rfl (congrArg not (decide_eq_true hb288)) rfl) fun a F => ?_
     refine nil ?_
     exact J291 c283 w284 a false (F.sub ⟨rfl, rfl, rfl, rfl, rfl, rfl, rfl, rfl, trivial⟩) E B h73 h122 h4 h272 h203 h229 h232 h268 h271 H
   ·replace H := (if_neg hb288).symm.trans H
    refine q_no F rfl (by decide) rfl (congrArg not (decide_eq_false hb288)) (by decide) fun a F => ?_
    refine q_no F rfl (by decide) rfl (congrArg not (decide_eq_false hb288)) (by decide) fun a F => ?_
    refine q_nu F rfl (by decide) rfl (by decide) fun a F => ?_
    refine q_nu F rfl (by decide) rfl (by decide) fun a F => ?_
    refine q_nu F rfl (by decide) rfl (by decide) fun a F => ?_
    refine q_nu F rfl (by decide) rfl (by decide) fun a F => ?_
    refine q_nu F rfl (by decide) rfl (by decide) fun a F => ?_
    refine q_no F rfl (by decide) rfl (congrArg not (decide_eq_false hb288)) (by decide) fun a F => ?_
    refine q_val F rfl rfl (by decide) (r_pick_t F rfl (congrArg not (decide_eq_false hb288)) rfl) fun a F => ?_
    refine nil ?_
    exact J291 c283 w284 a true (F.sub ⟨rfl, rfl, rfl, rfl, rfl, rfl, rfl, rfl, trivial⟩) E B h73 h122 h4 h272 h203 h229 h232 h268 h271 H
  ·replace H := (if_neg hb218).symm.trans H
   refine wp_cond_false ((F.ev rfl).trans (congrArg Value.bool (decide_eq_false hb218))) ?_
   refine wp_exit ?_
   refine thenE ?_
   refine thenE ?_
   refine inbE ?_
   have hx_ := HD210 _ (Option.some.inj H).symm
   have H := HR214
   rw [← hx_] at H
   exact J352 c206 w207 a o201 o204 (F.sub ⟨rfl, rfl, trivial⟩) E B h200 h203 H
 ·replace H := (if_neg hb15).symm.trans H
  refine wp_cond_true ((F.ev rfl).trans (congrArg Value.bool (congrArg not (bfalse hb15)))) ?_
  refine wp_seq_k fun K16 hK16 => ?_
  refine reg ?_
  refine q_val F rfl rfl (by decide) (r_assign F rfl) fun a F => ?_
  refine nil ?_
  refine hK16 _ _ ?_
  refine wp_ret ?_
  refine thenR ?_
  replace H := Option.some.inj H
  subst H
  refine out1 F rfl rfl ?_
  exact ⟨fun b_ => (fun x_ => if x_ < m then x_ else 0) (c10 b_), rfl, E.leave B0 (fun x_ => if x_ < m then x_ else 0) (by intro x_ hx_; show (if x_ < m then x_ else 0) = x_; ((repeat' split) <;> omega)), (fun b_ hb_ => by show (if (c10 b_) < m then (c10 b_) else 0) < m; ((repeat' split) <;> omega))⟩
end Go.Proofs.Ythankpjbfpcldaa.G
/-! Arguments opened: what the reading of an argument says in the words of kinds. -/
namespace Go.Proofs.Ythankpjbfpcldaa.G
open Go Go.ChangeShapes Go.WideShapes
set_option linter.unusedVariables false
set_option linter.unusedSimpArgs false
/-! ### bulk -/
theorem bulk_one {H : Type} (d : DataW H) : 1 ≤ Rows.uptoBulk d := by
  cases d with
  | lit l => cases l <;> simp [Rows.uptoBulk]
  | nil => simp [Rows.uptoBulk]
  | ptr d => simp [Rows.uptoBulk]
  | slice elems spare => simp [Rows.uptoBulk]
  | agg parts => simp [Rows.uptoBulk]
  | iface t d => simp [Rows.uptoBulk]
  | map entries => simp [Rows.uptoBulk]
  | held h => simp [Rows.uptoBulk]
theorem bulk_slice {H : Type} (elems spare : List (DataW H)) : Rows.uptoBulkAll elems + 1 ≤ Rows.uptoBulk (.slice elems spare) := by
  simp only [Rows.uptoBulk]
  omega
theorem bulk_agg {H : Type} (parts : List (DataW H)) : Rows.uptoBulkAll parts + 1 ≤ Rows.uptoBulk (.agg parts) := by
  simp only [Rows.uptoBulk]
  omega
theorem bulk_all {H : Type} : ∀ l : List (DataW H), Rows.uptoBulkAll l = (l.map Rows.uptoBulk).sum
  | [] => by simp [Rows.uptoBulkAll]
  | d :: l => by simp [Rows.uptoBulkAll, bulk_all l]
/-! ### openers -/
def c0 : Nat → Nat := fun _ => 0
def Opens {α : Type} (P : Program) (w : World) (t : TypeId) (e : K α) (wt : α → Nat) (ok : α → Prop) : Prop :=
  ∀ (H : Type) (enc : TypeId × Value → H) (fuel : Nat) (cs : List Value) (x : DataW H × List MemPlace), DataW.trod enc P w 0 (fun _ => true) true fuel t cs = some x → ∃ y, e.rep 0 c0 w cs y ∧ wt y ≤ Rows.uptoBulk x.1 ∧ ok y
section
variable {α : Type} {P : Program} {w : World} {t u : TypeId} {e : K α} {wt : α → Nat} {ok : α → Prop}
theorem opens_int {k : IntKind} (ht : P.underlying t = some (.int k)) : Opens P w t (Kint k) (fun _ => 1) (fun n => (Lit.int k n).wf = true) := by
  intro H enc fuel cs x h
  obtain ⟨n, rfl, rfl, hw⟩ := DataW.trod_int ht h
  exact ⟨n, rfl, bulk_one _, hw⟩
theorem opens_bool (ht : P.underlying t = some .bool) : Opens P w t Kbool (fun _ => 1) (fun _ => True) := by
  intro H enc fuel cs x h
  obtain ⟨n, rfl, rfl⟩ := DataW.trod_bool ht h
  exact ⟨n, rfl, bulk_one _, trivial⟩
theorem at_cell {p : Addr} {v : Value} (h : w.cell? p = some v) : p = ⟨p.block, p.off, none⟩ ∧ ∃ cur ty fz, w.heap[p.block]? = some (.cells cur ty fz) ∧ cur[p.off]? = some v := by
  obtain ⟨b, off, spot⟩ := p
  simp only [World.cell?] at h
  split at h
  · rename_i c ty fz hb
    cases spot with
    | some s => simp at h
    | none => exact ⟨rfl, c, ty, fz, hb, by simpa using h⟩
  · cases h
theorem at_cells {p : Addr} {n : Nat} {cs : List Value} (hn : cs.length = n) (hp : 0 < n) (h : ∀ i, i < n → w.cell? (p.add i) = cs[i]?) : AT false 0 c0 w p cs := by
  have h0 := h 0 hp
  have e0 : p.add 0 = p := by simp [Addr.add]
  rw [e0, List.getElem?_eq_getElem (by omega)] at h0
  obtain ⟨ep, cur, ty, fz, hb, hc⟩ := at_cell h0
  refine ⟨p.block, p.off, cur, ty, fz, ep, hb, rfl, fun k hk => ?_, fun q => by cases q⟩
  have hk' := h k (by omega)
  rw [ep, add_eq] at hk'
  simp only [World.cell?, hb] at hk'
  simpa using hk'
theorem sum_le {β γ : Type} (f : β → Nat) (g : γ → Nat) : ∀ (l : List β) (m : List γ), l.length = m.length → (∀ i (h : i < l.length) (h' : i < m.length), f l[i] ≤ g m[i]) → (l.map f).sum ≤ (m.map g).sum
  | [], [], _, _ => Nat.le_refl _
  | [], _ :: _, h, _ => by simp at h
  | _ :: _, [], h, _ => by simp at h
  | a :: l, b :: m, h, hh => by
    simp only [List.map_cons, List.sum_cons]
    have h0 := hh 0 (by simp) (by simp)
    simp only [List.getElem_cons_zero] at h0
    have := sum_le f g l m (by simpa using h) (fun i h1 h2 => by
      have := hh (i + 1) (by simp; omega) (by simp; omega)
      simpa using this)
    omega
/-- A slice of them. -/
theorem open_sl [Inhabited α] (ht : P.underlying t = some (.slice u)) (hc : P.cellsOf u = e.sz) (hu : Opens P w u e wt ok) {H : Type} {enc : TypeId × Value → H} {fuel : Nat} {cs : List Value} {x : DataW H × List MemPlace}
    (h : DataW.trod enc P w 0 (fun _ => true) true fuel t cs = some x) :
    ∃ A cap xs, cs = [.slice A xs.length cap] ∧ SL false e 0 0 c0 w A cap xs ∧ (xs.map wt).sum + 1 ≤ Rows.uptoBulk x.1 ∧ ∀ y ∈ xs, ok y := by
  rcases Deep.open_slice ht h with ⟨rfl, rfl⟩ | ⟨a, len, cap, m, n, D, Pl, rfl, _, hl, hm, hmm, rfl, hx⟩
  · exact ⟨none, 0, [], rfl, SL.nil, by simp [Rows.uptoBulk], fun y hy => by cases hy⟩
  simp only [if_true] at hmm
  subst hmm
  have hp := e.pos
  rw [hc] at hx
  have each : ∀ i, i < m → ∃ y : List Value × α, (y.1.length = e.sz ∧ ∀ k, k < e.sz → w.cell? ((a.add (i * e.sz)).add k) = y.1[k]?) ∧ e.rep 0 c0 w y.1 y.2 ∧ wt y.2 ≤ Rows.uptoBulk (D i) ∧ ok y.2 := by
    intro i hi
    obtain ⟨cs', h1, h2⟩ := hx i hi
    obtain ⟨_, g1, g2⟩ := World.cells?_some h1
    obtain ⟨y, g3, g4, g5⟩ := hu H enc n cs' _ h2
    exact ⟨(cs', y), ⟨g1, g2⟩, g3, g4, g5⟩
  obtain ⟨y, hy⟩ := Deep.choose_lt each
  let V : Nat → Value := fun q => (y (q / e.sz)).1.getD (q % e.sz) default
  have hV : ∀ i k, k < e.sz → V (i * e.sz + k) = (y i).1.getD k default := by
    intro i k hk
    show (y ((i * e.sz + k) / e.sz)).1.getD ((i * e.sz + k) % e.sz) default = _
    rw [Nat.mul_comm, Nat.mul_add_div hp, Nat.div_eq_of_lt hk, Nat.add_zero, Nat.mul_add_mod, Nat.mod_eq_of_lt hk]
  let cs := (List.range (m * e.sz)).map V
  have hcs : cs.length = m * e.sz := by simp [cs]
  have hcell : ∀ q, q < m * e.sz → w.cell? (a.add q) = cs[q]? := by
    intro q hq
    have hi : q / e.sz < m := (Nat.div_lt_iff_lt_mul hp).2 hq
    have hk : q % e.sz < e.sz := Nat.mod_lt _ hp
    obtain ⟨⟨g1, g2⟩, _⟩ := hy _ hi
    have g := g2 _ hk
    have e1 : (a.add (q / e.sz * e.sz)).add (q % e.sz) = a.add q := by
      have e2 : q / e.sz * e.sz + q % e.sz = q := Nat.div_add_mod' q e.sz
      obtain ⟨b, off, s⟩ := a
      simp only [Addr.add]
      split <;> split <;> split <;> simp_all <;> omega
    rw [e1] at g
    rw [g]
    simp only [cs, List.getElem?_map, List.getElem?_range hq, Option.map_some]
    show _ = some ((y (q / e.sz)).1.getD (q % e.sz) default)
    rw [List.getD_eq_getElem?_getD, List.getElem?_eq_getElem (by omega)]
    rfl
  refine ⟨some a, m, (List.range len).map fun i => (y i).2, by simp, ⟨cs, by simpa using hl, hm, hcs, ?_, fun n hn => ?_⟩, ?_, ?_⟩
  · rcases Nat.eq_zero_or_pos (m * e.sz) with q | q
    · left; exact List.length_eq_zero_iff.1 (by omega)
    · right; exact ⟨a, rfl, at_cells hcs q hcell⟩
  · simp only [List.length_map, List.length_range] at hn
    obtain ⟨⟨g1, _⟩, g3, _, _⟩ := hy n (by omega)
    have e1 : (cs.drop (n * e.sz)).take e.sz = (y n).1 := by
      apply List.ext_getElem?
      intro k
      by_cases hk : k < e.sz
      · have hq : n * e.sz + k < m * e.sz := by
          have : (n + 1) * e.sz ≤ m * e.sz := Nat.mul_le_mul_right _ (by omega)
          rw [Nat.succ_mul] at this; omega
        rw [List.getElem?_take_of_lt hk, List.getElem?_drop]
        simp only [cs, List.getElem?_map, List.getElem?_range hq, Option.map_some]
        rw [hV n k hk, List.getD_eq_getElem?_getD, List.getElem?_eq_getElem (by omega)]
        rfl
      · rw [List.getElem?_eq_none (by simp; omega), List.getElem?_eq_none (by omega)]
    rw [e1]
    simpa using g3
  · refine Nat.le_trans (Nat.succ_le_succ ?_) (bulk_slice _ _)
    rw [bulk_all]
    rw [List.map_map, List.map_map]
    have := sum_le (fun i => wt (y i).2) (fun i => Rows.uptoBulk (D i)) (List.range len) (List.range len) rfl (fun i h1 h2 => by
      simp only [List.length_range] at h1
      simp only [List.getElem_range]
      exact (hy i (by omega)).2.2.1)
    exact this
  · intro z hz
    obtain ⟨i, hi, rfl⟩ := List.mem_map.1 hz
    exact (hy i (by have := List.mem_range.1 hi; omega)).2.2.2
theorem opens_slice [Inhabited α] (ht : P.underlying t = some (.slice u)) (hc : P.cellsOf u = e.sz) (hu : Opens P w u e wt ok) : Opens P w t (Kslice e) (fun xs => (xs.map wt).sum + 1) (fun xs => ∀ y ∈ xs, ok y) := by
  intro H enc fuel cs x h
  obtain ⟨A, cap, xs, h1, h2, h3, h4⟩ := open_sl ht hc hu h
  exact ⟨xs, ⟨A, cap, h1, h2⟩, h3, h4⟩
end
end Go.Proofs.Ythankpjbfpcldaa.G
/-! The arguments of the rows, opened. -/
namespace Go.Proofs.Ythankpjbfpcldaa.G
open Go Go.ChangeShapes Go.WideShapes
set_option linter.unusedVariables false
theorem row_own : ownKnob Try.prog.godebug = none := by kernel_rfl
theorem row_laidOut : laidOutB Try.prog = true := by kernel_rfl
def intok (n : Int) : Prop := (Lit.int .i64 n).wf = true
theorem intok.range {n : Int} (h : intok n) : -9223372036854775808 ≤ n ∧ n ≤ 9223372036854775807 := by simpa [intok, Lit.wf, IntKind.min, IntKind.max, IntKind.signed, IntKind.bits] using h
def byteok (n : Int) : Prop := (Lit.int .u8 n).wf = true
def bytesok (xs : List Int) : Prop := ∀ n ∈ xs, byteok n
theorem byteok.range {n : Int} (h : byteok n) : 0 ≤ n ∧ n ≤ 255 := by simpa [byteok, Lit.wf, IntKind.min, IntKind.max, IntKind.signed, IntKind.bits] using h
theorem sum_one {α : Type} (xs : List α) : (xs.map fun _ => 1).sum = xs.length := by
  induction xs with
  | nil => rfl
  | cons x xs ih => simp [ih]; omega
theorem mem_sum {α : Type} (f : α → Nat) : ∀ {xs : List α} {x : α}, x ∈ xs → f x ≤ (xs.map f).sum
  | y :: xs, x, h => by
    rcases List.mem_cons.1 h with e | h
    · subst e; simp
    · have := mem_sum f h; simp only [List.map_cons, List.sum_cons]; omega
theorem len_sum {α : Type} (f : α → Nat) (hf : ∀ x, 1 ≤ f x) : ∀ xs : List α, xs.length ≤ (xs.map f).sum
  | [] => Nat.le_refl _
  | x :: xs => by have := len_sum f hf xs; have := hf x; simp only [List.map_cons, List.sum_cons, List.length_cons]; omega
theorem cells_3 : Try.prog.cellsOf 3 = 1 := by kernel_rfl
theorem cells_5 : Try.prog.cellsOf 5 = 1 := by kernel_rfl
theorem cells_28 : Try.prog.cellsOf 28 = 1 := by kernel_rfl
theorem cells_30 : Try.prog.cellsOf 30 = 4 := by kernel_rfl
theorem cells_32 : Try.prog.cellsOf 32 = 8 := by kernel_rfl
theorem opens_bytes {w : World} : Opens Try.prog w 28 (Kslice (Kint .u8)) (fun xs => xs.length + 1) bytesok := by
  intro H enc fuel cs x h
  obtain ⟨y, h1, h2, h3⟩ := opens_slice (e := Kint .u8) Try.underlying28 cells_5 (opens_int Try.underlying5) H enc fuel cs x h
  have h2' : (y.map fun _ => 1).sum + 1 ≤ Rows.uptoBulk x.1 := h2
  rw [sum_one] at h2'
  exact ⟨y, h1, h2', h3⟩
abbrev wt_api_Op (o : api_Op) : Nat := o.Key.length + o.Value.length + 1
def ok_api_Op (o : api_Op) : Prop := intok o.Kind ∧ bytesok o.Key ∧ bytesok o.Value ∧ intok o.Rev
set_option maxRecDepth 100000 in
theorem opens_api_Op {w : World} : Opens Try.prog w 30 K_api_Op wt_api_Op ok_api_Op := by
  intro H enc fuel cs x h
  obtain ⟨xs, n, rfl, rfl, hl, hxl, hf⟩ := DataW.trod_struct Try.underlying30 h
  rw [cells_30] at hl
  match cs, hl with
  | [v0, v1, v2, v3], _ =>
    match xs, hxl with
    | [x0, x1, x2, x3], _ =>
      have g0 : DataW.trod enc Try.prog w 0 (fun _ => true) true n 3 (([v0, v1, v2, v3].drop 0).take (Try.prog.cellsOf 3)) = some x0 := hf 0 _ rfl
      rw [cells_3] at g0
      replace g0 : DataW.trod enc Try.prog w 0 (fun _ => true) true n 3 [v0] = some x0 := g0
      obtain ⟨y0, r0, -, k0⟩ := opens_int (w := w) Try.underlying3 H enc n _ _ g0
      have g1 : DataW.trod enc Try.prog w 0 (fun _ => true) true n 28 (([v0, v1, v2, v3].drop 1).take (Try.prog.cellsOf 28)) = some x1 := hf 1 _ rfl
      rw [cells_28] at g1
      replace g1 : DataW.trod enc Try.prog w 0 (fun _ => true) true n 28 [v1] = some x1 := g1
      obtain ⟨y1, ⟨A1, C1, e1, s1⟩, b1, k1⟩ := opens_bytes (w := w) H enc n _ _ g1
      have g2 : DataW.trod enc Try.prog w 0 (fun _ => true) true n 28 (([v0, v1, v2, v3].drop 2).take (Try.prog.cellsOf 28)) = some x2 := hf 2 _ rfl
      rw [cells_28] at g2
      replace g2 : DataW.trod enc Try.prog w 0 (fun _ => true) true n 28 [v2] = some x2 := g2
      obtain ⟨y2, ⟨A2, C2, e2, s2⟩, b2, k2⟩ := opens_bytes (w := w) H enc n _ _ g2
      have g3 : DataW.trod enc Try.prog w 0 (fun _ => true) true n 3 (([v0, v1, v2, v3].drop 3).take (Try.prog.cellsOf 3)) = some x3 := hf 3 _ rfl
      rw [cells_3] at g3
      replace g3 : DataW.trod enc Try.prog w 0 (fun _ => true) true n 3 [v3] = some x3 := g3
      obtain ⟨y3, r3, -, k3⟩ := opens_int (w := w) Try.underlying3 H enc n _ _ g3
      obtain rfl : v0 = .int .i64 y0 := List.head_eq_of_cons_eq r0
      obtain rfl := List.head_eq_of_cons_eq e1
      obtain rfl := List.head_eq_of_cons_eq e2
      obtain rfl : v3 = .int .i64 y3 := List.head_eq_of_cons_eq r3
      refine ⟨⟨y0, y1, y2, y3⟩, ⟨A1, C1, A2, C2, rfl, s1, s2⟩, ?_, ⟨k0, k1, k2, k3⟩⟩
      refine Nat.le_trans ?_ (bulk_agg _)
      simp only [List.map_cons, List.map_nil, Rows.uptoBulkAll]
      have q0 := bulk_one x0.1
      have q1 : y1.length + 1 ≤ Rows.uptoBulk x1.1 := b1
      have q2 : y2.length + 1 ≤ Rows.uptoBulk x2.1 := b2
      have q3 := bulk_one x3.1
      show y1.length + y2.length + 1 ≤ _
      omega
theorem wt_api_Op_pos (o : api_Op) : 1 ≤ wt_api_Op o := by unfold wt_api_Op; omega
abbrev wt_haulagelaw14_Step (o : haulagelaw14_Step) : Nat := wt_api_Op o.Op + 1
def ok_haulagelaw14_Step (o : haulagelaw14_Step) : Prop := intok o.Who ∧ intok o.Kind ∧ intok o.Client ∧ intok o.Seq ∧ ok_api_Op o.Op
set_option maxRecDepth 100000 in
theorem opens_haulagelaw14_Step {w : World} : Opens Try.prog w 32 K_haulagelaw14_Step wt_haulagelaw14_Step ok_haulagelaw14_Step := by
  intro H enc fuel cs x h
  obtain ⟨xs, n, rfl, rfl, hl, hxl, hf⟩ := DataW.trod_struct Try.underlying32 h
  rw [cells_32] at hl
  match cs, hl with
  | [v0, v1, v2, v3, v4, v5, v6, v7], _ =>
    match xs, hxl with
    | [x0, x1, x2, x3, x4], _ =>
      have g0 : DataW.trod enc Try.prog w 0 (fun _ => true) true n 3 (([v0, v1, v2, v3, v4, v5, v6, v7].drop 0).take (Try.prog.cellsOf 3)) = some x0 := hf 0 _ rfl
      rw [cells_3] at g0
      replace g0 : DataW.trod enc Try.prog w 0 (fun _ => true) true n 3 [v0] = some x0 := g0
      obtain ⟨y0, r0, -, k0⟩ := opens_int (w := w) Try.underlying3 H enc n _ _ g0
      have g1 : DataW.trod enc Try.prog w 0 (fun _ => true) true n 3 (([v0, v1, v2, v3, v4, v5, v6, v7].drop 1).take (Try.prog.cellsOf 3)) = some x1 := hf 1 _ rfl
      rw [cells_3] at g1
      replace g1 : DataW.trod enc Try.prog w 0 (fun _ => true) true n 3 [v1] = some x1 := g1
      obtain ⟨y1, r1, -, k1⟩ := opens_int (w := w) Try.underlying3 H enc n _ _ g1
      have g2 : DataW.trod enc Try.prog w 0 (fun _ => true) true n 3 (([v0, v1, v2, v3, v4, v5, v6, v7].drop 2).take (Try.prog.cellsOf 3)) = some x2 := hf 2 _ rfl
      rw [cells_3] at g2
      replace g2 : DataW.trod enc Try.prog w 0 (fun _ => true) true n 3 [v2] = some x2 := g2
      obtain ⟨y2, r2, -, k2⟩ := opens_int (w := w) Try.underlying3 H enc n _ _ g2
      have g3 : DataW.trod enc Try.prog w 0 (fun _ => true) true n 3 (([v0, v1, v2, v3, v4, v5, v6, v7].drop 3).take (Try.prog.cellsOf 3)) = some x3 := hf 3 _ rfl
      rw [cells_3] at g3
      replace g3 : DataW.trod enc Try.prog w 0 (fun _ => true) true n 3 [v3] = some x3 := g3
      obtain ⟨y3, r3, -, k3⟩ := opens_int (w := w) Try.underlying3 H enc n _ _ g3
      have g4 : DataW.trod enc Try.prog w 0 (fun _ => true) true n 30 (([v0, v1, v2, v3, v4, v5, v6, v7].drop 4).take (Try.prog.cellsOf 30)) = some x4 := hf 4 _ rfl
      rw [cells_30] at g4
      replace g4 : DataW.trod enc Try.prog w 0 (fun _ => true) true n 30 [v4, v5, v6, v7] = some x4 := g4
      obtain ⟨y4, ⟨m4_0, m4_1, m4_2, m4_3, e4, s4_0, s4_1⟩, b4, k4⟩ := opens_api_Op (w := w) H enc n _ _ g4
      obtain rfl : v0 = .int .i64 y0 := List.head_eq_of_cons_eq r0
      obtain rfl : v1 = .int .i64 y1 := List.head_eq_of_cons_eq r1
      obtain rfl : v2 = .int .i64 y2 := List.head_eq_of_cons_eq r2
      obtain rfl : v3 = .int .i64 y3 := List.head_eq_of_cons_eq r3
      simp only [List.cons.injEq, and_true] at e4
      obtain ⟨rfl, rfl, rfl, rfl⟩ := e4
      refine ⟨⟨y0, y1, y2, y3, y4⟩, ⟨m4_0, m4_1, m4_2, m4_3, rfl, s4_0, s4_1⟩, ?_, ⟨k0, k1, k2, k3, k4⟩⟩
      refine Nat.le_trans ?_ (bulk_agg _)
      simp only [List.map_cons, List.map_nil, Rows.uptoBulkAll]
      have q0 := bulk_one x0.1
      have q1 := bulk_one x1.1
      have q2 := bulk_one x2.1
      have q3 := bulk_one x3.1
      have q4 : wt_api_Op y4 ≤ Rows.uptoBulk x4.1 := b4
      show wt_api_Op y4 + 1 ≤ _
      omega
theorem wt_haulagelaw14_Step_pos (o : haulagelaw14_Step) : 1 ≤ wt_haulagelaw14_Step o := by unfold wt_haulagelaw14_Step; omega
/-- an argument -/
theorem arg_steps {H : Type} {enc : TypeId × Value → H} {w : World} {v : Value} {d : DataW H} {p : List MemPlace} (hv : ∃ a len cap, v = .slice a len cap) (h : DataW.Trod enc Try.prog w 0 (fun _ => true) true 22 v d p) :
    ∃ A C xs, v = .slice A xs.length C ∧ SL false K_haulagelaw14_Step 0 0 c0 w A C xs ∧ (xs.map wt_haulagelaw14_Step).sum + 1 ≤ Rows.uptoBulk d ∧ ∀ o ∈ xs, ok_haulagelaw14_Step o := by
  obtain ⟨a, len, cap, rfl⟩ := hv
  obtain ⟨fuel, hf⟩ := h
  obtain ⟨A, C, xs, e, h1, h2, h3⟩ := open_sl (e := K_haulagelaw14_Step) Try.underlying22 cells_32 opens_haulagelaw14_Step hf
  refine ⟨A, C, xs, ?_, h1, h2, h3⟩
  have e' : [Value.slice a len cap] = [.slice A xs.length C] := e
  exact List.head_eq_of_cons_eq e'
end Go.Proofs.Ythankpjbfpcldaa.G
/-! The plain law of the tree: what join, last, both, Put, Delete, Get and the iterators do to the rows in order. -/
namespace Go.Proofs.Ythankpjbfpcldaa.G
open Go
set_option linter.unusedVariables false
set_option linter.unusedSimpArgs false
abbrev Ent := ByteArray × table_cell
def Tr.list : Tr → List Ent
  | .nil => []
  | .node l r k v _ _ => l.list ++ (k, v) :: r.list
def Tr.hgt : Tr → Nat
  | .nil => 0
  | .node l r _ _ _ _ => 1 + max l.hgt r.hgt
def Tr.WF : Tr → Prop
  | .nil => True
  | .node l r k v s d => l.WF ∧ r.WF ∧ s = ((Tr.node l r k v s d).list.length : Int) ∧ d = ((Tr.node l r k v s d).hgt : Int)
theorem Tr.hgt_le : ∀ t : Tr, t.hgt ≤ t.list.length
  | .nil => Nat.le_refl _
  | .node l r k v s d => by
    have := hgt_le l; have := hgt_le r
    simp only [Tr.hgt, Tr.list, List.length_append, List.length_cons]; omega
theorem len_eq {t : Tr} (h : t.WF) : tree_Tree_Len.f t = some (t.list.length : Int) := by
  cases t with
  | nil => rfl
  | node l r k v s d => show (if (Tr.node l r k v s d).isNil = true then some 0 else some s) = _; rw [if_neg (by simp [Tr.isNil])]; exact congrArg some h.2.2.1
theorem dep_eq {t : Tr} (h : t.WF) : tree_Tree_Depth.f t = some (t.hgt : Int) := by
  cases t with
  | nil => rfl
  | node l r k v s d => show (if (Tr.node l r k v s d).isNil = true then some 0 else some d) = _; rw [if_neg (by simp [Tr.isNil])]; exact congrArg some h.2.2.2
theorem wr {n : Int} (h0 : -1000000000000000000 ≤ n) (h1 : n ≤ 1000000000000000000) : IntKind.i64.wrap n = n := by rw [IntKind.wrap_i64]; omega
/-- a bound that keeps whole numbers as they are -/
def big : Nat := 1099511627776
theorem node_eq {l r : Tr} {k : ByteArray} {v : table_cell} (hl : l.WF) (hr : r.WF) (hb : l.list.length + r.list.length < big) :
    ∃ t, tree_node.f l k v r = some t ∧ t.WF ∧ t.list = l.list ++ (k, v) :: r.list ∧ (∃ s d, t = .node l r k v s d) := by
  have h1 := l.hgt_le; have h2 := r.hgt_le
  unfold big at hb
  refine ⟨.node l r k v (l.list.length + 1 + r.list.length) (1 + max l.hgt r.hgt), ?_, ⟨hl, hr, ?_, ?_⟩, rfl, _, _, rfl⟩
  · simp only [tree_node.f, len_eq hl, len_eq hr, dep_eq hl, dep_eq hr, Option.bind_some]
    rw [wr (n := (l.list.length : Int) + 1) (by omega) (by omega), wr (by omega) (by omega), wr (by omega) (by omega)]
    simp; omega
  · simp only [Tr.list, List.length_append, List.length_cons]; omega
  · simp only [Tr.hgt]; omega
theorem turnL {l r : Tr} {k : ByteArray} {v : table_cell} {s d : Int} (hl : l.WF) (hr : r.WF) (hn : r.list ≠ []) (hb : l.list.length + r.list.length < big) :
    ∃ t, tree_turnLeft.f (.node l r k v s d) = some t ∧ t.WF ∧ t.list = l.list ++ (k, v) :: r.list := by
  cases r with
  | nil => exact absurd rfl hn
  | node rl rr rk rv rs rd =>
    obtain ⟨h1, h2, _⟩ := hr
    simp only [Tr.list, List.length_append, List.length_cons] at hb
    obtain ⟨a, ea, wa, la, _⟩ := node_eq (k := k) (v := v) hl h1 (by omega)
    obtain ⟨b, eb, wb, lb, _⟩ := node_eq (k := rk) (v := rv) wa h2 (by rw [la]; simp only [List.length_append, List.length_cons]; omega)
    refine ⟨b, ?_, wb, ?_⟩
    · simp only [tree_turnLeft.f, Tr.cs, ea, eb, Option.bind_some]
    · rw [lb, la]; simp [Tr.list]
theorem turnR {l r : Tr} {k : ByteArray} {v : table_cell} {s d : Int} (hl : l.WF) (hr : r.WF) (hn : l.list ≠ []) (hb : l.list.length + r.list.length < big) :
    ∃ t, tree_turnRight.f (.node l r k v s d) = some t ∧ t.WF ∧ t.list = l.list ++ (k, v) :: r.list := by
  cases l with
  | nil => exact absurd rfl hn
  | node rl rr rk rv rs rd =>
    obtain ⟨h1, h2, _⟩ := hl
    simp only [Tr.list, List.length_append, List.length_cons] at hb
    obtain ⟨a, ea, wa, la, _⟩ := node_eq (k := k) (v := v) h2 hr (by omega)
    obtain ⟨b, eb, wb, lb, _⟩ := node_eq (k := rk) (v := rv) h1 wa (by rw [la]; simp only [List.length_append, List.length_cons]; omega)
    refine ⟨b, ?_, wb, ?_⟩
    · simp only [tree_turnRight.f, Tr.cs, ea, eb, Option.bind_some]
    · rw [lb, la]; simp [Tr.list]
theorem hgt_pos {t : Tr} (h : 0 < t.hgt) : t.list ≠ [] := by
  cases t with
  | nil => simp [Tr.hgt] at h
  | node l r k v s d => simp [Tr.list]
theorem join_eq : ∀ (n : Nat) (l r : Tr) (k : ByteArray) (v : table_cell), l.hgt + r.hgt < n → l.WF → r.WF → l.list.length + r.list.length + 1 < big →
    ∃ t, tree_join.f n l k v r = some t ∧ t.WF ∧ t.list = l.list ++ (k, v) :: r.list
  | 0, _, _, _, _, h, _, _, _ => absurd h (by omega)
  | n + 1, l, r, k, v, hn, hl, hr, hb => by
    have h1 := l.hgt_le; have h2 := r.hgt_le
    have hb' := hb
    unfold big at hb'
    simp only [tree_join.f, dep_eq hl, dep_eq hr, Option.bind_some]
    rw [wr (n := (r.hgt : Int) + 1) (by omega) (by omega), wr (n := (l.hgt : Int) + 1) (by omega) (by omega)]
    by_cases c1 : (r.hgt : Int) + 1 < l.hgt
    · rw [if_pos c1]
      cases l with
      | nil => simp [Tr.hgt] at c1; omega
      | node ll lr lk lv ls ld =>
        obtain ⟨wl, wr', _, _⟩ := hl
        simp only [Tr.hgt] at hn
        simp only [Tr.list, List.length_append, List.length_cons] at hb
        obtain ⟨u, eu, wu, lu⟩ := join_eq n lr r k v (by omega) wr' hr (by omega)
        simp only [Tr.cs, eu, Option.bind_some]
        have hul : u.list.length = lr.list.length + r.list.length + 1 := by rw [lu]; simp; omega
        cases u with
        | nil => simp [Tr.list] at lu
        | node ul ur uk uv us ud =>
          have wu' := wu
          obtain ⟨wul, wur, hus, hud⟩ := wu
          simp only [dep_eq wl, dep_eq wul, dep_eq wur, Option.bind_some]
          have h3 := ll.hgt_le
          unfold big at hb
          rw [wr (n := (ll.hgt : Int) + 1) (by omega) (by omega)]
          have hull : ul.list.length + ur.list.length + 1 = lr.list.length + r.list.length + 1 := by rw [← hul]; simp [Tr.list]; omega
          split
          · split
            · rename_i c3
              obtain ⟨x, ex, wx, lx⟩ := turnR (k := uk) (v := uv) (s := us) (d := ud) wul wur (hgt_pos (by omega)) (by unfold big; omega)
              obtain ⟨y, ey, wy, ly, s', d', hy⟩ := node_eq (k := lk) (v := lv) wl wx (by rw [lx]; simp only [List.length_append, List.length_cons]; unfold big; omega)
              subst hy
              obtain ⟨z, ez, wz, lz⟩ := turnL (k := lk) (v := lv) (s := s') (d := d') wl wx (by rw [lx]; simp) (by rw [lx]; simp only [List.length_append, List.length_cons]; unfold big; omega)
              refine ⟨z, by simp only [ex, ey, ez, Option.bind_some], wz, ?_⟩
              have e1 : x.list = lr.list ++ (k, v) :: r.list := by rw [lx, ← lu]; simp [Tr.list]
              rw [lz, e1]; simp [Tr.list]
            · obtain ⟨y, ey, wy, ly, s', d', hy⟩ := node_eq (k := lk) (v := lv) wl wu' (by rw [hul]; unfold big; omega)
              subst hy
              obtain ⟨z, ez, wz, lz⟩ := turnL (k := lk) (v := lv) (s := s') (d := d') wl wu' (by simp [Tr.list]) (by rw [hul]; unfold big; omega)
              refine ⟨z, by simp only [ey, ez, Option.bind_some], wz, ?_⟩
              rw [lz, lu]; simp [Tr.list]
          · obtain ⟨y, ey, wy, ly, _⟩ := node_eq (k := lk) (v := lv) wl wu' (by rw [hul]; unfold big; omega)
            refine ⟨y, by simp only [ey, Option.bind_some], wy, ?_⟩
            rw [ly, lu]; simp [Tr.list]
    · rw [if_neg c1]
      by_cases c2 : (l.hgt : Int) + 1 < r.hgt
      · rw [if_pos c2]
        cases r with
        | nil => simp [Tr.hgt] at c2; omega
        | node rl rr rk rv rs rd =>
          obtain ⟨wl, wr', _, _⟩ := hr
          simp only [Tr.hgt] at hn
          simp only [Tr.list, List.length_append, List.length_cons] at hb
          obtain ⟨u, eu, wu, lu⟩ := join_eq n l rl k v (by omega) hl wl (by omega)
          simp only [Tr.cs, eu, Option.bind_some]
          have hul : u.list.length = l.list.length + rl.list.length + 1 := by rw [lu]; simp; omega
          cases u with
          | nil => simp [Tr.list] at lu
          | node ul ur uk uv us ud =>
            have wu' := wu
            obtain ⟨wul, wur, hus, hud⟩ := wu
            simp only [dep_eq wr', dep_eq wul, dep_eq wur, Option.bind_some]
            have h3 := rr.hgt_le
            unfold big at hb
            rw [wr (n := (rr.hgt : Int) + 1) (by omega) (by omega)]
            have hull : ul.list.length + ur.list.length + 1 = l.list.length + rl.list.length + 1 := by rw [← hul]; simp [Tr.list]; omega
            split
            · split
              · rename_i c3
                obtain ⟨x, ex, wx, lx⟩ := turnL (k := uk) (v := uv) (s := us) (d := ud) wul wur (hgt_pos (by omega)) (by unfold big; omega)
                obtain ⟨y, ey, wy, ly, s', d', hy⟩ := node_eq (k := rk) (v := rv) wx wr' (by rw [lx]; simp only [List.length_append, List.length_cons]; unfold big; omega)
                subst hy
                obtain ⟨z, ez, wz, lz⟩ := turnR (k := rk) (v := rv) (s := s') (d := d') wx wr' (by rw [lx]; simp) (by rw [lx]; simp only [List.length_append, List.length_cons]; unfold big; omega)
                refine ⟨z, by simp only [ex, ey, ez, Option.bind_some], wz, ?_⟩
                have e1 : x.list = l.list ++ (k, v) :: rl.list := by rw [lx, ← lu]; simp [Tr.list]
                rw [lz, e1]; simp [Tr.list]
              · obtain ⟨y, ey, wy, ly, s', d', hy⟩ := node_eq (k := rk) (v := rv) wu' wr' (by rw [hul]; unfold big; omega)
                subst hy
                obtain ⟨z, ez, wz, lz⟩ := turnR (k := rk) (v := rv) (s := s') (d := d') wu' wr' (by simp [Tr.list]) (by rw [hul]; unfold big; omega)
                refine ⟨z, by simp only [ey, ez, Option.bind_some], wz, ?_⟩
                rw [lz, lu]; simp [Tr.list]
            · obtain ⟨y, ey, wy, ly, _⟩ := node_eq (k := rk) (v := rv) wu' wr' (by rw [hul]; unfold big; omega)
              refine ⟨y, by simp only [ey, Option.bind_some], wy, ?_⟩
              rw [ly, lu]; simp [Tr.list]
      · rw [if_neg c2]
        obtain ⟨y, ey, wy, ly, _⟩ := node_eq (k := k) (v := v) hl hr (by omega)
        exact ⟨y, by simp only [ey, Option.bind_some], wy, ly⟩
theorem last_eq : ∀ (n : Nat) (t : Tr), 2 * t.list.length < n → t.WF → t.list ≠ [] → t.list.length < big →
    ∃ u k v, tree_last.f n t = some (u, k, v) ∧ u.WF ∧ t.list = u.list ++ [(k, v)]
  | 0, _, h, _, _, _ => absurd h (by omega)
  | n + 1, t, hn, ht, hne, hb => by
    cases t with
    | nil => exact absurd rfl hne
    | node l r k v s d =>
      obtain ⟨wl, wr', _, _⟩ := ht
      simp only [Tr.list, List.length_append, List.length_cons] at hn hb
      cases r with
      | nil => exact ⟨l, k, v, rfl, wl, by simp [Tr.list]⟩
      | node rl rr rk rv rs rd =>
        obtain ⟨u, k', v', e, wu, lu⟩ := last_eq n (.node rl rr rk rv rs rd) (by omega) wr' (by simp [Tr.list]) (by omega)
        have h1 := l.hgt_le; have h2 := u.hgt_le
        have hlen : (Tr.node rl rr rk rv rs rd).list.length = u.list.length + 1 := by rw [lu]; simp
        obtain ⟨x, ex, wx, lx⟩ := join_eq n l u k v (by omega) wl wu (by omega)
        refine ⟨x, k', v', ?_, wx, ?_⟩
        · simp only [tree_last.f, Tr.cs]
          rw [if_neg (by simp [Tr.isNil])]
          simp only [e, ex, Option.bind_some]
        · rw [lx]; show l.list ++ (k, v) :: (Tr.node rl rr rk rv rs rd).list = _; rw [lu]; simp
theorem both_eq (n : Nat) (l r : Tr) (hn : 2 * l.list.length + r.list.length + 1 < n) (hl : l.WF) (hr : r.WF) (hb : l.list.length + r.list.length < big) :
    ∃ t, tree_both.f n l r = some t ∧ t.WF ∧ t.list = l.list ++ r.list := by
  cases l with
  | nil => exact ⟨r, rfl, hr, rfl⟩
  | node ll lr lk lv ls ld =>
    obtain ⟨u, k, v, e, wu, lu⟩ := last_eq n (.node ll lr lk lv ls ld) (by omega) hl (by simp [Tr.list]) (by omega)
    have hlen : (Tr.node ll lr lk lv ls ld).list.length = u.list.length + 1 := by rw [lu]; simp
    have h1 := u.hgt_le; have h2 := r.hgt_le
    obtain ⟨x, ex, wx, lx⟩ := join_eq n u r k v (by omega) wu hr (by omega)
    refine ⟨x, ?_, wx, ?_⟩
    · unfold tree_both.f
      rw [if_neg (by simp [Tr.isNil])]
      simp only [e, ex, Option.bind_some]
    · rw [lx, lu]; simp
/-! ### the order of keys -/
def lt (a b : ByteArray) : Bool := Op.bytesLess a.toList b.toList
theorem nan_eq (a : ByteArray) : cmp_isNaN.f a = some false := by simp [cmp_isNaN.f]
theorem less_eq (a b : ByteArray) : cmp_Less.f a b = some (lt a b) := by
  simp only [cmp_Less.f, nan_eq, Option.bind_some]
  rw [if_neg (by simp)]; rfl
theorem compare_eq (a b : ByteArray) : cmp_Compare.f a b = some (if lt a b = true then -1 else if (a.toList == b.toList) = true then 0 else 1) := by
  simp only [cmp_Compare.f, nan_eq, Option.bind_some]
  rw [if_neg (by simp), if_neg (by simp)]
  unfold lt
  split
  · rfl
  · rename_i h
    simp [h]
    split <;> rfl
theorem bl_irr : ∀ x : List UInt8, Op.bytesLess x x = false
  | [] => rfl
  | a :: x => by simp [Op.bytesLess, bl_irr x]
theorem bl_tri : ∀ x y : List UInt8, Op.bytesLess x y = false → Op.bytesLess y x = false → x = y
  | [], [], _, _ => rfl
  | [], _ :: _, h, _ => by simp [Op.bytesLess] at h
  | _ :: _, [], _, h => by simp [Op.bytesLess] at h
  | a :: x, b :: y, h1, h2 => by
    simp only [Op.bytesLess, Bool.or_eq_false_iff, Bool.and_eq_false_iff, decide_eq_false_iff_not, beq_eq_false_iff_ne] at h1 h2
    have hab : a = b := by
      have g1 := h1.1; have g2 := h2.1
      simp only [UInt8.lt_iff_toNat_lt] at g1 g2
      exact UInt8.toNat_inj.1 (by omega)
    subst hab
    have e1 := h1.2.resolve_left (fun q => q rfl)
    have e2 := h2.2.resolve_left (fun q => q rfl)
    rw [bl_tri x y e1 e2]
theorem bl_tr : ∀ x y z : List UInt8, Op.bytesLess x y = true → Op.bytesLess y z = true → Op.bytesLess x z = true
  | x, [], [], _, h => by simp [Op.bytesLess] at h
  | x, b :: y, [], _, h => by simp [Op.bytesLess] at h
  | [], [], c :: z, h, _ => by simp [Op.bytesLess] at h
  | a :: x, [], c :: z, h, _ => by simp [Op.bytesLess] at h
  | [], b :: y, c :: z, _, _ => rfl
  | a :: x, b :: y, c :: z, h1, h2 => by
    simp only [Op.bytesLess, Bool.or_eq_true, Bool.and_eq_true, decide_eq_true_eq, beq_iff_eq] at h1 h2 ⊢
    simp only [UInt8.lt_iff_toNat_lt] at h1 h2 ⊢
    rcases h1 with h1 | ⟨rfl, h1⟩
    · rcases h2 with h2 | ⟨rfl, h2⟩
      · left; omega
      · left; exact h1
    · rcases h2 with h2 | ⟨rfl, h2⟩
      · left; exact h2
      · right; exact ⟨rfl, bl_tr x y z h1 h2⟩
end Go.Proofs.Ythankpjbfpcldaa.G
/-! Put, Delete, Get on the rows in order. -/
namespace Go.Proofs.Ythankpjbfpcldaa.G
open Go
set_option linter.unusedVariables false
set_option linter.unusedSimpArgs false
theorem toList_inj {a b : ByteArray} (h : a.toList = b.toList) : a = b := by
  rw [ByteArray.toList_eq, ByteArray.toList_eq] at h
  cases a; cases b
  simp only [ByteArray.mk.injEq]
  exact Array.toList_inj.1 h
theorem lt_irr (a : ByteArray) : lt a a = false := bl_irr _
theorem lt_tr {a b c : ByteArray} (h1 : lt a b = true) (h2 : lt b c = true) : lt a c = true := bl_tr _ _ _ h1 h2
theorem lt_tri {a b : ByteArray} (h1 : lt a b = false) (h2 : lt b a = false) : a = b := toList_inj (bl_tri _ _ h1 h2)
def Ord (L : List Ent) : Prop := L.Pairwise fun x y => lt x.1 y.1 = true
def ins (k : ByteArray) (v : table_cell) : List Ent → List Ent
  | [] => [(k, v)]
  | (a, x) :: L => if lt k a = true then (k, v) :: (a, x) :: L else if lt a k = true then (a, x) :: ins k v L else (k, v) :: L
def del (k : ByteArray) : List Ent → List Ent
  | [] => []
  | (a, x) :: L => if lt k a = true then (a, x) :: L else if lt a k = true then (a, x) :: del k L else L
def look (k : ByteArray) : List Ent → Option table_cell
  | [] => none
  | (a, x) :: L => if lt k a = true then none else if lt a k = true then look k L else some x
theorem Ord.split {A B : List Ent} {x : Ent} (h : Ord (A ++ x :: B)) : Ord A ∧ Ord B ∧ (∀ y ∈ A, lt y.1 x.1 = true) ∧ (∀ y ∈ B, lt x.1 y.1 = true) := by
  unfold Ord at h ⊢
  rw [List.pairwise_append] at h
  obtain ⟨h1, h2, h3⟩ := h
  rw [List.pairwise_cons] at h2
  exact ⟨h1, h2.2, fun y hy => h3 y hy x (by simp), h2.1⟩
theorem lt_asym {a b : ByteArray} (h : lt a b = true) : lt b a = false := by
  cases hb : lt b a with
  | false => rfl
  | true => have := lt_tr h hb; rw [lt_irr] at this; cases this
theorem ins_left {k : ByteArray} {v : table_cell} {x : Ent} {B : List Ent} (hk : lt k x.1 = true) : ∀ A : List Ent, ins k v (A ++ x :: B) = ins k v A ++ x :: B
  | [] => by simp [ins, hk]
  | (a, y) :: A => by
    simp only [List.cons_append, ins]
    split
    · rfl
    · split
      · rw [ins_left hk A]; rfl
      · rfl
theorem ins_right {k : ByteArray} {v : table_cell} {x : Ent} {B : List Ent} (hk : lt x.1 k = true) : ∀ A : List Ent, (∀ y ∈ A, lt y.1 x.1 = true) → ins k v (A ++ x :: B) = A ++ x :: ins k v B
  | [], _ => by simp [ins, hk, lt_asym hk]
  | (a, y) :: A, h => by
    have h1 : lt a k = true := lt_tr (h (a, y) (by simp)) hk
    simp only [List.cons_append, ins, h1, lt_asym h1]
    rw [ins_right hk A (fun y hy => h y (by simp [hy]))]
    simp
theorem ins_here {k : ByteArray} {v y : table_cell} {B : List Ent} : ∀ A : List Ent, (∀ y ∈ A, lt y.1 k = true) → ins k v (A ++ (k, y) :: B) = A ++ (k, v) :: B
  | [], _ => by simp [ins, lt_irr]
  | (a, y) :: A, h => by
    have h1 : lt a k = true := h (a, y) (by simp)
    simp only [List.cons_append, ins, h1, lt_asym h1]
    rw [ins_here A (fun y hy => h y (by simp [hy]))]
    simp
theorem ins_len (k : ByteArray) (v : table_cell) : ∀ L : List Ent, (ins k v L).length ≤ L.length + 1
  | [] => by simp [ins]
  | (a, x) :: L => by
    have := ins_len k v L
    simp only [ins]
    split
    · simp
    · split <;> simp <;> omega
theorem put_eq : ∀ (n : Nat) (t : Tr) (k : ByteArray) (v : table_cell), 2 * t.list.length + 3 < n → t.WF → Ord t.list → t.list.length + 1 < big →
    ∃ u, tree_Tree_Put.f n t k v = some u ∧ u.WF ∧ u.list = ins k v t.list
  | 0, _, _, _, h, _, _, _ => absurd h (by omega)
  | n + 1, t, k, v, hn, ht, ho, hb => by
    cases t with
    | nil =>
      obtain ⟨u, eu, wu, lu, _⟩ := node_eq (l := .nil) (r := .nil) (k := k) (v := v) trivial trivial (by simp [Tr.list, big])
      refine ⟨u, ?_, wu, by rw [lu]; rfl⟩
      simp only [tree_Tree_Put.f, eu, Option.bind_some]
      rw [if_pos (by rfl)]
    | node l r a x s d =>
      obtain ⟨wl, wr', _, _⟩ := ht
      obtain ⟨ol, or', hA, hB⟩ := Ord.split (show Ord (l.list ++ (a, x) :: r.list) from ho)
      simp only [Tr.list, List.length_append, List.length_cons] at hn hb
      simp only [tree_Tree_Put.f, Tr.cs, compare_eq, Option.bind_some]
      rw [if_neg (by simp [Tr.isNil])]
      cases h1 : lt k a with
      | true =>
        obtain ⟨u, eu, wu, lu⟩ := put_eq n l k v (by omega) wl ol (by omega)
        have hu := ins_len k v l.list; rw [← lu] at hu
        have g1 := u.hgt_le; have g2 := r.hgt_le
        obtain ⟨z, ez, wz, lz⟩ := join_eq n u r a x (by omega) wu wr' (by omega)
        refine ⟨z, ?_, wz, ?_⟩
        · simp [eu, ez]
        · rw [lz, lu]; exact (ins_left (x := (a, x)) h1 l.list).symm
      | false =>
        cases h2 : lt a k with
        | true =>
          have hne : (k.toList == a.toList) = false := by
            cases q : (k.toList == a.toList) with
            | false => rfl
            | true => have := toList_inj (eq_of_beq q); subst this; rw [lt_irr] at h2; cases h2
          obtain ⟨u, eu, wu, lu⟩ := put_eq n r k v (by omega) wr' or' (by omega)
          have hu := ins_len k v r.list; rw [← lu] at hu
          have g1 := u.hgt_le; have g2 := l.hgt_le
          obtain ⟨z, ez, wz, lz⟩ := join_eq n l u a x (by omega) wl wu (by omega)
          refine ⟨z, ?_, wz, ?_⟩
          · simp [hne, eu, ez]
          · rw [lz, lu]; exact (ins_right (x := (a, x)) h2 l.list hA).symm
        | false =>
          have he := lt_tri h1 h2
          subst he
          obtain ⟨z, ez, wz, lz, _⟩ := node_eq (k := k) (v := v) wl wr' (by omega)
          refine ⟨z, ?_, wz, ?_⟩
          · simp [ez]
          · rw [lz]; exact (ins_here l.list hA).symm
theorem lt_ne {a b : ByteArray} (h : lt a b = true) : a ≠ b := by rintro rfl; rw [lt_irr] at h; cases h
theorem keq {a b : ByteArray} : (a.toList == b.toList) = decide (a = b) := by
  by_cases h : a = b
  · subst h; simp
  · rw [decide_eq_false h]
    cases q : (a.toList == b.toList) with
    | false => rfl
    | true => exact absurd (toList_inj (eq_of_beq q)) h
theorem mem_ins {k : ByteArray} {v : table_cell} {y : Ent} : ∀ L : List Ent, y ∈ ins k v L → y = (k, v) ∨ y ∈ L
  | [], h => by simp only [ins, List.mem_singleton] at h; exact Or.inl h
  | (a, x) :: L, h => by
    simp only [ins] at h
    split at h
    · simp only [List.mem_cons] at h ⊢; exact h
    · split at h
      · simp only [List.mem_cons] at h ⊢
        rcases h with h | h
        · exact Or.inr (Or.inl h)
        · rcases mem_ins L h with h | h
          · exact Or.inl h
          · exact Or.inr (Or.inr h)
      · simp only [List.mem_cons] at h ⊢
        rcases h with h | h
        · exact Or.inl h
        · exact Or.inr (Or.inr h)
theorem mem_del {k : ByteArray} {y : Ent} : ∀ L : List Ent, y ∈ del k L → y ∈ L
  | [], h => by simp [del] at h
  | (a, x) :: L, h => by
    simp only [del] at h
    split at h
    · exact h
    · split at h
      · simp only [List.mem_cons] at h ⊢
        rcases h with h | h
        · exact Or.inl h
        · exact Or.inr (mem_del L h)
      · exact List.mem_cons_of_mem _ h
theorem ins_ord {k : ByteArray} {v : table_cell} : ∀ L : List Ent, Ord L → Ord (ins k v L)
  | [], _ => by simp [ins, Ord]
  | (a, x) :: L, h => by
    have h' := h
    unfold Ord at h'
    rw [List.pairwise_cons] at h'
    simp only [ins]
    split
    · rename_i c
      unfold Ord
      rw [List.pairwise_cons]
      refine ⟨?_, h⟩
      intro y hy
      rcases List.mem_cons.1 hy with rfl | hy
      · exact c
      · exact lt_tr c (h'.1 y hy)
    · split
      · rename_i c1 c
        unfold Ord
        rw [List.pairwise_cons]
        refine ⟨?_, ins_ord L h'.2⟩
        intro y hy
        rcases mem_ins L hy with rfl | hy
        · exact c
        · exact h'.1 y hy
      · rename_i c1 c2
        have he : k = a := lt_tri (by simpa using c1) (by simpa using c2)
        subst he
        unfold Ord
        rw [List.pairwise_cons]
        exact ⟨h'.1, h'.2⟩
theorem del_ord {k : ByteArray} : ∀ L : List Ent, Ord L → Ord (del k L)
  | [], _ => by simp [del, Ord]
  | (a, x) :: L, h => by
    have h' := h
    unfold Ord at h'
    rw [List.pairwise_cons] at h'
    simp only [del]
    split
    · exact h
    · split
      · unfold Ord
        rw [List.pairwise_cons]
        exact ⟨fun y hy => h'.1 y (mem_del L hy), del_ord L h'.2⟩
      · exact h'.2
theorem del_left {k : ByteArray} {x : Ent} {B : List Ent} (hk : lt k x.1 = true) : ∀ A : List Ent, del k (A ++ x :: B) = del k A ++ x :: B
  | [] => by simp [del, hk]
  | (a, y) :: A => by
    simp only [List.cons_append, del]
    split
    · rfl
    · split
      · rw [del_left hk A]; rfl
      · rfl
theorem del_right {k : ByteArray} {x : Ent} {B : List Ent} (hk : lt x.1 k = true) : ∀ A : List Ent, (∀ y ∈ A, lt y.1 x.1 = true) → del k (A ++ x :: B) = A ++ x :: del k B
  | [], _ => by simp [del, hk, lt_asym hk]
  | (a, y) :: A, h => by
    have h1 : lt a k = true := lt_tr (h (a, y) (by simp)) hk
    simp only [List.cons_append, del, h1, lt_asym h1]
    rw [del_right hk A (fun y hy => h y (by simp [hy]))]
    simp
theorem del_here {k : ByteArray} {y : table_cell} {B : List Ent} : ∀ A : List Ent, (∀ y ∈ A, lt y.1 k = true) → del k (A ++ (k, y) :: B) = A ++ B
  | [], _ => by simp [del, lt_irr]
  | (a, y) :: A, h => by
    have h1 : lt a k = true := h (a, y) (by simp)
    simp only [List.cons_append, del, h1, lt_asym h1]
    rw [del_here A (fun y hy => h y (by simp [hy]))]
    simp
theorem del_len (k : ByteArray) : ∀ L : List Ent, (del k L).length ≤ L.length
  | [] => by simp [del]
  | (a, x) :: L => by
    have := del_len k L
    simp only [del]
    split
    · simp
    · split <;> simp <;> omega
theorem look_left {k : ByteArray} {x : Ent} {B : List Ent} (hk : lt k x.1 = true) : ∀ A : List Ent, look k (A ++ x :: B) = look k A
  | [] => by simp [look, hk]
  | (a, y) :: A => by
    simp only [List.cons_append, look]
    rw [look_left hk A]
theorem look_right {k : ByteArray} {x : Ent} {B : List Ent} (hk : lt x.1 k = true) : ∀ A : List Ent, (∀ y ∈ A, lt y.1 x.1 = true) → look k (A ++ x :: B) = look k B
  | [], _ => by simp [look, hk, lt_asym hk]
  | (a, y) :: A, h => by
    have h1 : lt a k = true := lt_tr (h (a, y) (by simp)) hk
    simp only [List.cons_append, look, h1, lt_asym h1]
    rw [look_right hk A (fun y hy => h y (by simp [hy]))]
    simp
theorem look_here {k : ByteArray} {y : table_cell} {B : List Ent} : ∀ A : List Ent, (∀ y ∈ A, lt y.1 k = true) → look k (A ++ (k, y) :: B) = some y
  | [], _ => by simp [look, lt_irr]
  | (a, y) :: A, h => by
    have h1 : lt a k = true := h (a, y) (by simp)
    simp only [List.cons_append, look, h1, lt_asym h1]
    rw [look_here A (fun y hy => h y (by simp [hy]))]
    simp
theorem look_low {k : ByteArray} : ∀ L : List Ent, (∀ y ∈ L, lt k y.1 = true) → look k L = none
  | [], _ => rfl
  | (a, y) :: L, h => by simp [look, h (a, y) (by simp)]
theorem look_ins (k : ByteArray) (v : table_cell) : ∀ L : List Ent, look k (ins k v L) = some v
  | [] => by simp [ins, look, lt_irr]
  | (a, x) :: L => by
    simp only [ins]
    split
    · simp [look, lt_irr]
    · split
      · rename_i c1 c
        simp only [look, c, lt_asym c]
        simp [look_ins k v L]
      · simp [look, lt_irr]
theorem look_ins_ne {j k : ByteArray} (v : table_cell) (hjk : j ≠ k) : ∀ L : List Ent, look j (ins k v L) = look j L
  | [] => by
    simp only [ins, look]
    split
    · rfl
    · split
      · rfl
      · rename_i c1 c2; exact absurd (lt_tri (by simpa using c1) (by simpa using c2)) hjk
  | (a, x) :: L => by
    simp only [ins]
    split
    · rename_i c
      simp only [look]
      by_cases c1 : lt j k = true
      · rw [if_pos c1, if_pos (lt_tr c1 c)]
      · rw [if_neg c1]
        by_cases c2 : lt k j = true
        · rw [if_pos c2]
        · exact absurd (lt_tri (by simpa using c1) (by simpa using c2)) hjk
    · split
      · simp only [look]; rw [look_ins_ne v hjk L]
      · rename_i c1 c2
        have he : k = a := lt_tri (by simpa using c1) (by simpa using c2)
        subst he
        simp only [look]
        by_cases d1 : lt j k = true
        · rw [if_pos d1, if_pos d1]
        · rw [if_neg d1, if_neg d1]
          by_cases d2 : lt k j = true
          · rw [if_pos d2, if_pos d2]
          · exact absurd (lt_tri (by simpa using d1) (by simpa using d2)) hjk
theorem look_del {k : ByteArray} : ∀ L : List Ent, Ord L → look k (del k L) = none
  | [], _ => rfl
  | (a, x) :: L, h => by
    have h' := h
    unfold Ord at h'
    rw [List.pairwise_cons] at h'
    simp only [del]
    split
    · rename_i c; simp [look, c]
    · split
      · rename_i c1 c
        simp only [look, c, lt_asym c]
        simp [look_del L h'.2]
      · rename_i c1 c2
        have he : k = a := lt_tri (by simpa using c1) (by simpa using c2)
        subst he
        exact look_low L h'.1
theorem look_del_ne {j k : ByteArray} (hjk : j ≠ k) : ∀ L : List Ent, Ord L → look j (del k L) = look j L
  | [], _ => rfl
  | (a, x) :: L, h => by
    have h' := h
    unfold Ord at h'
    rw [List.pairwise_cons] at h'
    simp only [del]
    split
    · rfl
    · split
      · simp only [look]; rw [look_del_ne hjk L h'.2]
      · rename_i c1 c2
        have he : k = a := lt_tri (by simpa using c1) (by simpa using c2)
        subst he
        simp only [look]
        by_cases d1 : lt j k = true
        · rw [if_pos d1]; exact look_low L (fun y hy => lt_tr d1 (h'.1 y hy))
        · rw [if_neg d1]
          by_cases d2 : lt k j = true
          · rw [if_pos d2]
          · exact absurd (lt_tri (by simpa using d1) (by simpa using d2)) hjk
theorem del_none {k : ByteArray} : ∀ L : List Ent, look k L = none → del k L = L
  | [], _ => rfl
  | (a, x) :: L, h => by
    simp only [look] at h
    simp only [del]
    split
    · rfl
    · rename_i c1
      rw [if_neg c1] at h
      split
      · rename_i c2; rw [if_pos c2] at h; rw [del_none L h]
      · rename_i c2; rw [if_neg c2] at h; cases h
theorem look_mem {k : ByteArray} {x : table_cell} : ∀ L : List Ent, look k L = some x → (k, x) ∈ L
  | [], h => by simp [look] at h
  | (a, y) :: L, h => by
    simp only [look] at h
    split at h
    · cases h
    · split at h
      · exact List.mem_cons_of_mem _ (look_mem L h)
      · rename_i c1 c2
        have he : k = a := lt_tri (by simpa using c1) (by simpa using c2)
        subst he
        cases h
        simp
theorem mem_look {k : ByteArray} {x : table_cell} : ∀ L : List Ent, Ord L → (k, x) ∈ L → look k L = some x
  | [], _, h => by simp at h
  | (a, y) :: L, ho, h => by
    unfold Ord at ho
    rw [List.pairwise_cons] at ho
    rcases List.mem_cons.1 h with h | h
    · cases h; simp [look, lt_irr]
    · have c := ho.1 _ h
      simp only [look]
      rw [if_neg (by rw [lt_asym c]; simp), if_pos c]
      exact mem_look L ho.2 h
end Go.Proofs.Ythankpjbfpcldaa.G
/-! Delete, Get, the iterators on the rows in order. -/
namespace Go.Proofs.Ythankpjbfpcldaa.G
open Go
set_option linter.unusedVariables false
set_option linter.unusedSimpArgs false
theorem keqb {k a : ByteArray} (h : lt a k = true) : (k.toList == a.toList) = false := by
  cases q : (k.toList == a.toList) with
  | false => rfl
  | true => have := toList_inj (eq_of_beq q); subst this; rw [lt_irr] at h; cases h
theorem look_ord_left {k : ByteArray} {A B : List Ent} {a : ByteArray} {x : table_cell} (ho : Ord (A ++ (a, x) :: B)) (h : lt k a = true) : look k (A ++ (a, x) :: B) = look k A := look_left (x := (a, x)) h A
theorem delete_eq : ∀ (n : Nat) (t : Tr) (k : ByteArray), 4 * t.list.length + 3 < n → t.WF → Ord t.list → t.list.length + 1 < big →
    ∃ u, tree_Tree_Delete.f n t k = some (u, (look k t.list).isSome) ∧ u.WF ∧ u.list = del k t.list
  | 0, _, _, h, _, _, _ => absurd h (by omega)
  | n + 1, t, k, hn, ht, ho, hb => by
    cases t with
    | nil => exact ⟨.nil, rfl, trivial, rfl⟩
    | node l r a x s d =>
      have ht' := ht
      obtain ⟨wl, wr', _, _⟩ := ht
      obtain ⟨ol, or', hA, hB⟩ := Ord.split (show Ord (l.list ++ (a, x) :: r.list) from ho)
      simp only [Tr.list, List.length_append, List.length_cons] at hn hb
      simp only [tree_Tree_Delete.f, Tr.cs, compare_eq, Option.bind_some]
      rw [if_neg (by simp [Tr.isNil])]
      cases h1 : lt k a with
      | true =>
        obtain ⟨u, eu, wu, lu⟩ := delete_eq n l k (by omega) wl ol (by omega)
        have hl : look k (l.list ++ (a, x) :: r.list) = look k l.list := look_left (x := (a, x)) h1 l.list
        have hd : del k (l.list ++ (a, x) :: r.list) = del k l.list ++ (a, x) :: r.list := del_left (x := (a, x)) h1 l.list
        show ∃ u : Tr, _ = some (u, (look k (l.list ++ (a, x) :: r.list)).isSome) ∧ u.WF ∧ u.list = del k (l.list ++ (a, x) :: r.list)
        rw [hl, hd]
        cases hs : (look k l.list).isSome with
        | false =>
          rw [hs] at eu
          refine ⟨_, ?_, ht', ?_⟩
          · simp [eu]
          · rw [del_none l.list (by simpa using hs)]; rfl
        | true =>
          rw [hs] at eu
          have hu := del_len k l.list; rw [← lu] at hu
          have g1 := u.hgt_le; have g2 := r.hgt_le
          obtain ⟨z, ez, wz, lz⟩ := join_eq n u r a x (by omega) wu wr' (by omega)
          refine ⟨z, ?_, wz, ?_⟩
          · simp [eu, ez]
          · rw [lz, lu]
      | false =>
        cases h2 : lt a k with
        | true =>
          obtain ⟨u, eu, wu, lu⟩ := delete_eq n r k (by omega) wr' or' (by omega)
          have hl : look k (l.list ++ (a, x) :: r.list) = look k r.list := look_right (x := (a, x)) h2 l.list hA
          have hd : del k (l.list ++ (a, x) :: r.list) = l.list ++ (a, x) :: del k r.list := del_right (x := (a, x)) h2 l.list hA
          show ∃ u : Tr, _ = some (u, (look k (l.list ++ (a, x) :: r.list)).isSome) ∧ u.WF ∧ u.list = del k (l.list ++ (a, x) :: r.list)
          rw [hl, hd]
          cases hs : (look k r.list).isSome with
          | false =>
            rw [hs] at eu
            refine ⟨_, ?_, ht', ?_⟩
            · simp [keqb h2, eu]
            · rw [del_none r.list (by simpa using hs)]; rfl
          | true =>
            rw [hs] at eu
            have hu := del_len k r.list; rw [← lu] at hu
            have g1 := u.hgt_le; have g2 := l.hgt_le
            obtain ⟨z, ez, wz, lz⟩ := join_eq n l u a x (by omega) wl wu (by omega)
            refine ⟨z, ?_, wz, ?_⟩
            · simp [keqb h2, eu, ez]
            · rw [lz, lu]
        | false =>
          have he := lt_tri h1 h2
          subst he
          obtain ⟨z, ez, wz, lz⟩ := both_eq n l r (by omega) wl wr' (by omega)
          refine ⟨z, ?_, wz, ?_⟩
          · show _ = some (z, (look k (l.list ++ (k, x) :: r.list)).isSome)
            rw [look_here l.list hA]; simp [ez]
          · rw [lz]; exact (del_here l.list hA).symm
theorem loop_next {S X : Type} {f : S → Option (Ctl S X)} {n : Nat} {s s' : S} (h : f s = some (.next s')) : loop f (n + 1) s = loop f n s' := by
  show (f s).bind _ = _; rw [h]; rfl
theorem loop_done {S X : Type} {f : S → Option (Ctl S X)} {n : Nat} {s : S} {x : X} (h : f s = some (.done x)) : loop f (n + 1) s = some x := by
  show (f s).bind _ = _; rw [h]; rfl
def gotQ (o : Option table_cell) : table_cell × Bool := match o with
  | some x => (x, true)
  | none => (table_cell.mk [] 0, false)
theorem get_eq : ∀ (n : Nat) (t : Tr) (k : ByteArray), t.hgt < n → Ord t.list →
    tree_Tree_Get.f n t k = some (gotQ (look k t.list)) := by
  have key : ∀ (n : Nat) (t : Tr) (k : ByteArray), t.hgt < n → Ord t.list →
    loop (tree_Tree_Get.b1 k) n t = some ((look k t.list).elim (Sum.inl ()) fun x => Sum.inr (x, true)) := by
    intro n
    induction n with
    | zero => intro t k h; omega
    | succ n ih =>
      intro t k hn ho
      cases t with
      | nil => rfl
      | node l r a x s d =>
        obtain ⟨ol, or', hA, hB⟩ := Ord.split (show Ord (l.list ++ (a, x) :: r.list) from ho)
        simp only [Tr.hgt] at hn
        simp only [Tr.list]
        cases h1 : lt k a with
        | true =>
          rw [look_left (x := (a, x)) h1 l.list, loop_next (s' := l)]
          · exact ih l k (by omega) ol
          · unfold tree_Tree_Get.b1
            rw [if_neg (by simp [Tr.isNil])]
            simp [Tr.cs, compare_eq, h1]
        | false =>
          cases h2 : lt a k with
          | true =>
            rw [look_right (x := (a, x)) h2 l.list hA, loop_next (s' := r)]
            · exact ih r k (by omega) or'
            · unfold tree_Tree_Get.b1
              rw [if_neg (by simp [Tr.isNil])]
              simp [Tr.cs, compare_eq, h1, keqb h2]
          | false =>
            have he := lt_tri h1 h2
            subst he
            rw [look_here l.list hA, loop_done (x := Sum.inr (x, true))]
            · rfl
            · unfold tree_Tree_Get.b1
              rw [if_neg (by simp [Tr.isNil])]
              simp [Tr.cs, compare_eq, h1]
  intro n t k hn ho
  unfold tree_Tree_Get.f
  show (loop (tree_Tree_Get.b1 k) n t).bind _ = _
  rw [key n t k hn ho]
  cases look k t.list <;> rfl
/-! ### iterators -/
section
variable {σ X : Type} (g : σ → ByteArray → table_cell → Option (Ctl σ X))
def foldC : List Ent → σ → Option (Ctl σ X)
  | [], s => some (.next s)
  | (k, v) :: L, s => thenC (g s k v) fun s => foldC L s
theorem thenC_assoc (y : Option (Ctl σ X)) (f h : σ → Option (Ctl σ X)) : thenC (thenC y f) h = thenC y fun s => thenC (f s) h := by
  cases y with
  | none => rfl
  | some c => cases c <;> rfl
theorem foldC_app : ∀ (A B : List Ent) (s : σ), foldC g (A ++ B) s = thenC (foldC g A s) fun s => foldC g B s
  | [], B, s => rfl
  | (k, v) :: A, B, s => by
    show thenC (g s k v) (fun s => foldC g (A ++ B) s) = thenC (thenC (g s k v) fun s => foldC g A s) fun s => foldC g B s
    rw [thenC_assoc]
    congr 1; funext s; exact foldC_app A B s
theorem up_eq : ∀ (t : Tr) (s : σ), Tr.up g t s = foldC g t.list s
  | .nil, s => rfl
  | .node l r k v _ _, s => by
    show thenC (Tr.up g l s) _ = foldC g (l.list ++ (k, v) :: r.list) s
    rw [foldC_app, up_eq l s]
    congr 1; funext s'
    show thenC _ _ = thenC _ _
    congr 1; funext s''; exact up_eq r s''
def above (key : ByteArray) (L : List Ent) : List Ent := L.filter fun e => !lt e.1 key
theorem from_eq (key : ByteArray) : ∀ (t : Tr) (s : σ), Ord t.list → Tr.from key g t s = foldC g (above key t.list) s
  | .nil, s, _ => rfl
  | .node l r k v _ _, s, ho => by
    obtain ⟨ol, or', hA, hB⟩ := Ord.split (show Ord (l.list ++ (k, v) :: r.list) from ho)
    show (cmp_Less.f k key).bind _ = foldC g (above key (l.list ++ (k, v) :: r.list)) s
    rw [less_eq, Option.bind_some]
    unfold above
    rw [List.filter_append]
    cases h : lt k key with
    | true =>
      rw [if_pos rfl, from_eq key r s or']
      have e1 : l.list.filter (fun e => !lt e.1 key) = [] := by
        rw [List.filter_eq_nil_iff]
        intro a ha
        simp [lt_tr (hA a ha) h]
      rw [e1, List.filter_cons, if_neg (by simp [h])]
      rfl
    | false =>
      rw [if_neg (by simp), List.filter_cons, if_pos (by simp [h])]
      have e2 : r.list.filter (fun e => !lt e.1 key) = r.list := by
        rw [List.filter_eq_self]
        intro a ha
        have := hB a ha
        simp only [Bool.not_eq_true']
        cases q : lt a.1 key with
        | false => rfl
        | true => rw [lt_tr this q] at h; cases h
      rw [e2, foldC_app, from_eq key l s ol]
      congr 1; funext s'
      show thenC _ _ = thenC _ _
      congr 1; funext s''; exact up_eq g r s''
end
def seekQ (L : List Ent) : ByteArray × table_cell × Bool := match L with
  | [] => (.empty, table_cell.mk [] 0, false)
  | (k, v) :: _ => (k, v, true)
theorem seek_eq (t : Tr) (key : ByteArray) (ho : Ord t.list) :
    tree_Tree_Seek.f t key = some (seekQ (above key t.list)) := by
  unfold tree_Tree_Seek.f
  show (some (It.from t key)).bind _ = _
  rw [Option.bind_some]
  show (Tr.from key _ t ()).bind _ = _
  rw [from_eq _ key t () ho]
  cases above key t.list with
  | nil => rfl
  | cons e L => rfl
end Go.Proofs.Ythankpjbfpcldaa.G
/-! The table: what an op answers and leaves. -/
namespace Go.Proofs.Ythankpjbfpcldaa.G
open Go
set_option linter.unusedVariables false
set_option linter.unusedSimpArgs false
abbrev Fuel (k : Nat) : Prop := 1099511627776 ≤ k
theorem bind_eq {α β : Type} {x : Option α} {f : α → Option β} {a : α} (h : x = some a) : x.bind f = f a := by rw [h]; rfl
theorem shr7 (n : Nat) : shr .i64 (n : Int) 7 = ((n / 128 : Nat) : Int) := by
  unfold shr
  have : (2 : Int) ^ (min (7 : Int).toNat IntKind.i64.bits) = 128 := by decide
  rw [this, Int.fdiv_eq_ediv_of_nonneg _ (by omega)]
  omega
theorem shr7u (n : Nat) : shr .u64 (n : Int) 7 = ((n / 128 : Nat) : Int) := by
  unfold shr
  have : (2 : Int) ^ (min (7 : Int).toNat IntKind.u64.bits) = 128 := by decide
  rw [this, Int.fdiv_eq_ediv_of_nonneg _ (by omega)]
  omega
def nmF : Nat → Nat → Nat
  | 0, _ => 0
  | f + 1, n => if n ≤ 127 then 0 else nmF f (n / 128) + 1
def nm (n : Nat) : Nat := 1 + nmF 9 n
theorem nmF_le : ∀ f n, nmF f n ≤ f
  | 0, _ => Nat.le_refl _
  | f + 1, n => by
    have := nmF_le f (n / 128)
    unfold nmF; split <;> omega
theorem num_loop : ∀ (f n s k : Nat), n < 128 ^ f → f < k → s + f < 1000 → loop (fun (s_ : Int × Int) => table_num.b1 s_.1 s_.2) k ((n : Int), (s : Int)) = some ((s + nmF f n : Nat) : Int)
  | _, _, _, 0, _, h, _ => absurd h (by omega)
  | 0, n, s, k + 1, h, _, _ => by
    have : n = 0 := by simpa using h
    subst this
    rw [loop_done (x := (s : Int))]
    · simp [nmF]
    · simp [table_num.b1]
  | f + 1, n, s, k + 1, h, hk, hs => by
    by_cases c : n ≤ 127
    · rw [loop_done (x := (s : Int))]
      · simp [nmF, c]
      · unfold table_num.b1; rw [if_neg (by omega)]
    · have hd : n / 128 < 128 ^ f := by rw [Nat.pow_succ] at h; omega
      rw [loop_next (s' := (((n / 128 : Nat) : Int), ((s + 1 : Nat) : Int)))]
      · rw [num_loop f (n / 128) (s + 1) k hd (by omega) (by omega)]
        simp only [nmF, if_neg c]; congr 2; omega
      · unfold table_num.b1
        rw [if_pos (by omega), shr7, wr (by omega) (by omega)]
        congr 3
theorem num_eq {k n : Nat} (hk : Fuel k) (hn : n < 9223372036854775808) : table_num.f k (n : Int) = some (nm n : Int) := by
  unfold table_num.f
  rw [show ((n : Int), (1 : Int)) = ((n : Int), ((1 : Nat) : Int)) from rfl, bind_eq (num_loop 9 n 1 k (by omega) (by omega) (by omega))]
  rfl
/-! ### rows -/
def lg (k : ByteArray) (c : table_cell) : Int := nm k.size + k.size + nm c.value.length + c.value.length + nm c.rev.toNat
def sz (L : List Ent) : Int := (L.map fun e => lg e.1 e.2).sum
structure Inv (L : List Ent) (r : Nat) : Prop where
  ord : Ord L
  len : L.length ≤ r
  ent : ∀ e ∈ L, 1 ≤ e.1.size ∧ e.1.size ≤ 64 ∧ e.2.value.length ≤ 256 ∧ 1 ≤ e.2.rev ∧ e.2.rev ≤ r
theorem nm_le (n : Nat) : 1 ≤ nm n ∧ nm n ≤ 10 := by have := nmF_le 9 n; unfold nm; omega
theorem lg_le {k : ByteArray} {c : table_cell} (h1 : k.size ≤ 64) (h2 : c.value.length ≤ 256) : 0 ≤ lg k c ∧ lg k c ≤ 400 := by
  have := nm_le k.size; have := nm_le c.value.length; have := nm_le c.rev.toNat
  unfold lg; omega
theorem sz_le : ∀ {L : List Ent} {r : Nat}, (∀ e ∈ L, 1 ≤ e.1.size ∧ e.1.size ≤ 64 ∧ e.2.value.length ≤ 256 ∧ 1 ≤ e.2.rev ∧ e.2.rev ≤ (r : Int)) → 0 ≤ sz L ∧ sz L ≤ 400 * L.length
  | [], _, _ => by simp [sz]
  | e :: L, r, h => by
    have h1 := sz_le (L := L) (r := r) (fun x hx => h x (by simp [hx]))
    have h2 := h e (by simp)
    have h3 := lg_le h2.2.1 h2.2.2.1
    simp only [sz, List.map_cons, List.sum_cons, List.length_cons] at h1 ⊢
    omega
theorem long_eq {k : Nat} (hk : Fuel k) {key : ByteArray} {c : table_cell} (h1 : key.size ≤ 64) (h2 : c.value.length ≤ 256) (h3 : 0 ≤ c.rev) (h4 : c.rev ≤ 1099511627776) : table_long.f k key c = some (lg key c) := by
  have e3 : (c.rev : Int) = ((c.rev.toNat : Nat) : Int) := by omega
  have := nm_le key.size; have := nm_le c.value.length; have := nm_le c.rev.toNat
  unfold table_long.f
  rw [bind_eq (num_eq hk (n := key.size) (by omega)), bind_eq (num_eq hk (n := c.value.length) (by omega)), e3, bind_eq (num_eq hk (n := c.rev.toNat) (by omega))]
  rw [wr (n := (nm key.size : Int) + key.size) (by omega) (by omega), wr (n := (nm key.size : Int) + key.size + nm c.value.length) (by omega) (by omega), wr (n := (nm key.size : Int) + key.size + nm c.value.length + c.value.length) (by omega) (by omega), wr (by omega) (by omega)]
  rfl
theorem sz_cons (e : Ent) (L : List Ent) : sz (e :: L) = lg e.1 e.2 + sz L := by simp [sz]
theorem sz_ins (k : ByteArray) (v : table_cell) : ∀ L : List Ent, sz (ins k v L) = sz L + lg k v - (look k L).elim 0 (fun o => lg k o)
  | [] => by simp [ins, look, sz]
  | (a, x) :: L => by
    simp only [ins, look]
    split
    · simp only [sz_cons, Option.elim]; omega
    · split
      · rw [sz_cons, sz_cons, sz_ins k v L]; omega
      · rename_i c1 c2
        have he : k = a := lt_tri (by simpa using c1) (by simpa using c2)
        subst he
        simp only [sz_cons, Option.elim]; omega
theorem sz_del (k : ByteArray) : ∀ L : List Ent, sz (del k L) = sz L - (look k L).elim 0 (fun o => lg k o)
  | [] => by simp [del, look, sz]
  | (a, x) :: L => by
    simp only [del, look]
    split
    · simp only [Option.elim]; omega
    · split
      · rw [sz_cons, sz_cons, sz_del k L]; omega
      · rename_i c1 c2
        have he : k = a := lt_tri (by simpa using c1) (by simpa using c2)
        subst he
        simp only [sz_cons, Option.elim]; omega
theorem Inv.look {L : List Ent} {r : Nat} (h : Inv L r) {k : ByteArray} {c : table_cell} (hl : look k L = some c) : 1 ≤ k.size ∧ k.size ≤ 64 ∧ c.value.length ≤ 256 ∧ 1 ≤ c.rev ∧ c.rev ≤ r := h.ent _ (look_mem L hl)
theorem Inv.ins {L : List Ent} {r : Nat} (h : Inv L r) {k : ByteArray} {v : List Int} (h1 : 1 ≤ k.size) (h2 : k.size ≤ 64) (h3 : v.length ≤ 256) : Inv (ins k ⟨v, r + 1⟩ L) (r + 1) := by
  refine ⟨ins_ord L h.ord, ?_, fun e he => ?_⟩
  · have := ins_len k ⟨v, r + 1⟩ L; have := h.len; omega
  · rcases mem_ins L he with rfl | he
    · exact ⟨h1, h2, h3, by show (1 : Int) ≤ (r : Int) + 1; omega, by show (r : Int) + 1 ≤ ((r + 1 : Nat) : Int); omega⟩
    · have := h.ent e he; refine ⟨this.1, this.2.1, this.2.2.1, this.2.2.2.1, ?_⟩; have := this.2.2.2.2; omega
theorem Inv.del {L : List Ent} {r : Nat} (h : Inv L r) (k : ByteArray) : Inv (del k L) (r + 1) := by
  refine ⟨del_ord L h.ord, ?_, fun e he => ?_⟩
  · have := del_len k L; have := h.len; omega
  · have := h.ent e (mem_del L he); refine ⟨this.1, this.2.1, this.2.2.1, this.2.2.2.1, ?_⟩; have := this.2.2.2.2; omega
theorem Inv.up {L : List Ent} {r : Nat} (h : Inv L r) : Inv L (r + 1) := by
  refine ⟨h.ord, by have := h.len; omega, fun e he => ?_⟩
  have := h.ent e he; refine ⟨this.1, this.2.1, this.2.2.1, this.2.2.2.1, ?_⟩; have := this.2.2.2.2; omega
/-- a table's words -/
def Rep (t : Option Tab) (L : List Ent) (r : Nat) : Prop := ∃ rows, t = some ⟨rows, r, sz L⟩ ∧ rows.WF ∧ rows.list = L ∧ Inv L r
def told (r : Int) (k : ByteArray) (o : Option table_cell) : api_Answer := match o with
  | some c => ⟨true, sb k, c.value, c.rev, r⟩
  | none => ⟨false, [], [], 0, r⟩
def zeroA : api_Answer := ⟨false, [], [], 0, 0⟩
def keyok (o : api_Op) : Bool := decide (0 < o.Key.length) && decide (o.Key.length ≤ 64)
def right (o : api_Op) : Bool :=
  if o.Kind = 4 then keyok o && decide (o.Value.length ≤ 256) && decide (0 ≤ o.Rev) && decide (o.Rev ≤ 1099511627776)
  else if o.Kind = 2 then keyok o && decide (o.Value.length ≤ 256) && decide (o.Rev = 0)
  else if o.Kind = 5 then decide (o.Key.length ≤ 65) && decide (o.Value.length = 0) && decide (o.Rev = 0)
  else if o.Kind = 1 ∨ o.Kind = 3 then keyok o && decide (o.Value.length = 0) && decide (o.Rev = 0)
  else false
theorem j4_eq (a b c : Bool) : table_Right.j4 a b c = some (a && b && c) := by cases a <;> cases b <;> cases c <;> rfl
theorem natlen {n m : Nat} : decide ((n : Int) ≤ (m : Int)) = decide (n ≤ m) := by simp
theorem right_eq (o : api_Op) : table_Right.f o = some (right o) := by
  have hk : ∀ b, (if 0 < (o.Key.length : Int) then table_Right.j1 o (decide ((o.Key.length : Int) ≤ 64)) else table_Right.j1 o false) = some b ↔ table_Right.j1 o (keyok o) = some b := by
    intro b
    unfold keyok
    by_cases h : 0 < o.Key.length
    · rw [if_pos (by omega), decide_eq_true h, Bool.true_and]
      have : decide ((o.Key.length : Int) ≤ 64) = decide (o.Key.length ≤ 64) := by apply decide_eq_decide.2; omega
      rw [this]
    · rw [if_neg (by omega), decide_eq_false h, Bool.false_and]
  unfold table_Right.f
  rw [hk]
  have v1 : decide ((o.Value.length : Int) ≤ 256) = decide (o.Value.length ≤ 256) := by apply decide_eq_decide.2; omega
  have v2 : decide ((o.Value.length : Int) = 0) = decide (o.Value.length = 0) := by apply decide_eq_decide.2; omega
  have v3 : decide ((o.Key.length : Int) ≤ 65) = decide (o.Key.length ≤ 65) := by apply decide_eq_decide.2; omega
  unfold table_Right.j1 table_Right.j2 table_Right.j3 right
  simp only [j4_eq, v1, v2, v3]
  by_cases c4 : o.Kind = 4
  · simp only [c4, if_true]
    by_cases c : 0 ≤ o.Rev
    · simp [c]
    · simp [c]
  · simp only [c4, if_false]
    by_cases c2 : o.Kind = 2
    · simp only [c2, if_true]
    · simp only [c2, if_false]
      by_cases c5 : o.Kind = 5
      · simp only [c5, if_true]
      · simp only [c5, if_false]
        by_cases c1 : o.Kind = 1
        · simp [c1]
        · by_cases c3 : o.Kind = 3
          · simp [c3]
          · simp [c1, c3]
def isW (o : api_Op) : Bool := decide (o.Kind = 2) || decide (o.Kind = 3) || decide (o.Kind = 4)
theorem writes_eq (o : api_Op) : table_writes.f o = some (isW o) := by
  unfold table_writes.f isW
  by_cases c2 : o.Kind = 2
  · simp [c2]
  · by_cases c3 : o.Kind = 3
    · simp [c3]
    · simp [c2, c3]
theorem bs_size (l : List Int) : (bs l).size = l.length := by simp [bs, ByteArray.size]
theorem right_key {o : api_Op} (h : right o = true) : o.Key.length ≤ 65 ∧ o.Value.length ≤ 256 ∧ (o.Kind ≠ 5 → 1 ≤ o.Key.length ∧ o.Key.length ≤ 64) ∧ (o.Kind = 1 ∨ o.Kind = 2 ∨ o.Kind = 3 ∨ o.Kind = 4 ∨ o.Kind = 5) := by
  unfold right keyok at h
  split at h
  · simp only [Bool.and_eq_true, decide_eq_true_eq] at h; omega
  · split at h
    · simp only [Bool.and_eq_true, decide_eq_true_eq] at h; omega
    · split at h
      · simp only [Bool.and_eq_true, decide_eq_true_eq] at h; omega
      · split at h
        · simp only [Bool.and_eq_true, decide_eq_true_eq] at h; omega
        · cases h
end Go.Proofs.Ythankpjbfpcldaa.G
/-! The table: an op. -/
namespace Go.Proofs.Ythankpjbfpcldaa.G
open Go
set_option linter.unusedVariables false
set_option linter.unusedSimpArgs false
theorem told_some {rows : Tr} {r z : Int} {k : ByteArray} {c : table_cell} (h1 : k.size ≤ 1000) (h2 : c.value.length ≤ 1000) : table_Table_told.f (some ⟨rows, r, z⟩) k c true = some (told r k (some c)) := by
  unfold table_Table_told.f bytes_Clone.f
  simp only [Option.bind_some, if_true]
  rw [if_pos (by omega), if_pos (by omega)]
  rfl
theorem told_none {rows : Tr} {r z : Int} {k : ByteArray} {c : table_cell} : table_Table_told.f (some ⟨rows, r, z⟩) k c false = some (told r k none) := by
  unfold table_Table_told.f
  simp [told]
theorem told_look {rows : Tr} {r z : Int} {k : ByteArray} {L : List Ent} {n : Nat} (hI : Inv L n) :
    table_Table_told.f (some ⟨rows, r, z⟩) k (gotQ (look k L)).1 (gotQ (look k L)).2 = some (told r k (look k L)) := by
  cases h : look k L with
  | none => exact told_none
  | some c => have := hI.look h; exact told_some (k := k) (c := c) (by omega) (by omega)
/-- of a row: its key and its value are short, its revision is no less than nought -/
def okE (e : Ent) : Prop := e.1.size ≤ 64 ∧ e.2.value.length ≤ 256 ∧ 0 ≤ e.2.rev ∧ e.2.rev ≤ 1099511627776
theorem sz_ok : ∀ {L : List Ent}, (∀ e ∈ L, okE e) → 0 ≤ sz L ∧ sz L ≤ 400 * L.length
  | [], _ => by simp [sz]
  | e :: L, h => by
    have h1 := sz_ok (L := L) (fun x hx => h x (by simp [hx]))
    have h2 := h e (by simp)
    have h3 := lg_le h2.1 h2.2.1
    simp only [sz, List.map_cons, List.sum_cons, List.length_cons] at h1 ⊢
    omega
theorem set_put0 {k : Nat} (hk : Fuel k) {rows : Tr} {L : List Ent} {R : Int} (hlen : L.length < 10000000000) (hw : rows.WF) (hl : rows.list = L) (ho : Ord L) (hE : ∀ e ∈ L, okE e) {key : ByteArray} {c : table_cell} (hc : okE (key, c)) :
    ∃ u, table_Table_set.f k (some ⟨rows, R, sz L⟩) key c true = some (some ⟨u, R, sz (ins key c L)⟩) ∧ u.WF ∧ u.list = ins key c L := by
  subst hl
  have hh := rows.hgt_le
  obtain ⟨u, eu, wu, lu⟩ := put_eq k rows key c (by have : 1099511627776 ≤ k := hk; omega) hw ho (by unfold big; omega)
  have hsz := sz_ok hE
  have hlg := lg_le (k := key) (c := c) hc.1 hc.2.1
  have hlk : 0 ≤ (look key rows.list).elim 0 (fun o => lg key o) ∧ (look key rows.list).elim 0 (fun o => lg key o) ≤ 400 := by
    cases h : look key rows.list with
    | none => simp
    | some x => have := hE _ (look_mem _ h); exact lg_le (k := key) (c := x) this.1 this.2.1
  have hput : table_Table_set.j1 k key c true ⟨rows, R, sz rows.list⟩ (sz rows.list - (look key rows.list).elim 0 (fun o => lg key o)) = some (some ⟨u, R, sz (ins key c rows.list)⟩) := by
    unfold table_Table_set.j1
    rw [if_pos rfl, bind_eq eu, bind_eq (long_eq hk (key := key) (c := c) hc.1 hc.2.1 hc.2.2.1 hc.2.2.2)]
    rw [sz_ins]
    rw [wr (by omega) (by omega)]
    simp only [Option.some.injEq, Tab.mk.injEq, true_and]; omega
  refine ⟨u, ?_, wu, lu⟩
  unfold table_Table_set.f
  simp only [Option.bind_some]
  rw [bind_eq (get_eq k rows key (by have : 1099511627776 ≤ k := hk; omega) ho)]
  cases h : look key rows.list with
  | none =>
    rw [h] at hput
    simp only [Option.elim, Int.sub_zero] at hput
    rw [if_neg (by simp [gotQ])]
    exact hput
  | some x =>
    have hx := hE _ (look_mem _ h)
    rw [h] at hput
    simp only [Option.elim] at hput
    have hL : table_long.f k key (gotQ (some x)).1 = some (lg key x) := long_eq hk (c := x) hx.1 hx.2.1 hx.2.2.1 hx.2.2.2
    rw [if_pos (show (gotQ (some x)).2 = true from rfl), bind_eq hL]
    have := lg_le (k := key) (c := x) hx.1 hx.2.1
    rw [wr (by omega) (by omega)]
    exact hput
theorem set_put {k : Nat} (hk : Fuel k) {rows : Tr} {L : List Ent} {r : Nat} (hr : r < 4194304) (hw : rows.WF) (hl : rows.list = L) (hI : Inv L r) {key : ByteArray} {v : List Int} (h1 : 1 ≤ key.size) (h2 : key.size ≤ 64) (h3 : v.length ≤ 256) :
    ∃ t, table_Table_set.f k (some ⟨rows, r + 1, sz L⟩) key ⟨v, r + 1⟩ true = some t ∧ Rep t (ins key ⟨v, r + 1⟩ L) (r + 1) := by
  obtain ⟨u, e, wu, lu⟩ := set_put0 hk (R := (r : Int) + 1) (Nat.lt_trans (Nat.lt_of_le_of_lt hI.len hr) (by omega)) hw hl hI.ord (fun e he => by have := hI.ent e he; exact ⟨this.2.1, this.2.2.1, by omega, by omega⟩) (key := key) (c := ⟨v, (r : Int) + 1⟩) ⟨h2, h3, by show (0 : Int) ≤ (r : Int) + 1; omega, by show (r : Int) + 1 ≤ _; omega⟩
  exact ⟨_, e, u, rfl, wu, lu, hI.ins h1 h2 h3⟩
theorem set_del {k : Nat} (hk : Fuel k) {rows : Tr} {L : List Ent} {r : Nat} (hr : r < 4194304) (hw : rows.WF) (hl : rows.list = L) (hI : Inv L r) {key : ByteArray} {c0 : table_cell} :
    ∃ t, table_Table_set.f k (some ⟨rows, r + 1, sz L⟩) key c0 false = some t ∧ Rep t (del key L) (r + 1) := by
  subst hl
  have hlen := hI.len
  have hh := rows.hgt_le
  obtain ⟨u, eu, wu, lu⟩ := delete_eq k rows key (by have : 1099511627776 ≤ k := hk; omega) hw hI.ord (by unfold big; omega)
  have hsz := sz_le hI.ent
  have hput : table_Table_set.j1 k key c0 false ⟨rows, r + 1, sz rows.list⟩ (sz rows.list - (look key rows.list).elim 0 (fun o => lg key o)) = some (some ⟨u, r + 1, sz (del key rows.list)⟩) := by
    unfold table_Table_set.j1
    rw [if_neg (by simp), bind_eq eu, sz_del]
  refine ⟨_, ?_, u, rfl, wu, lu, hI.del key⟩
  unfold table_Table_set.f
  simp only [Option.bind_some]
  rw [bind_eq (get_eq k rows key (by have : 1099511627776 ≤ k := hk; omega) hI.ord)]
  rw [show ((r + 1 : Nat) : Int) = (r : Int) + 1 by omega]
  cases h : look key rows.list with
  | none =>
    rw [h] at hput
    simp only [Option.elim, Int.sub_zero] at hput
    rw [if_neg (by simp [gotQ])]
    exact hput
  | some c =>
    have hc := hI.look h
    rw [h] at hput
    simp only [Option.elim] at hput
    have hL : table_long.f k key (gotQ (some c)).1 = some (lg key c) := long_eq hk (c := c) hc.2.1 hc.2.2.1 (by omega) (by omega)
    rw [if_pos (show (gotQ (some c)).2 = true from rfl), bind_eq hL]
    have := lg_le hc.2.1 hc.2.2.1
    rw [wr (by omega) (by omega)]
    exact hput
/-- an op's answer, errno, and what it leaves -/
def act (L : List Ent) (r : Nat) (o : api_Op) : api_Answer × Int × List Ent × Nat :=
  if right o = false then (zeroA, 131, L, r)
  else if o.Kind = 5 then ((match above (bs o.Key) L with | [] => told r .empty none | (k, v) :: _ => told r k (some v)), 0, L, r)
  else if o.Kind = 1 then (told r (bs o.Key) (look (bs o.Key) L), 0, L, r)
  else if o.Kind = 3 then (told ((r : Int) + 1) (bs o.Key) (look (bs o.Key) L), 0, del (bs o.Key) L, r + 1)
  else if o.Kind = 2 ∨ (look (bs o.Key) L).elim 0 (fun c => c.rev) = o.Rev then ({ told ((r : Int) + 1) (bs o.Key) (look (bs o.Key) L) with Done := true }, 0, ins (bs o.Key) ⟨o.Value, r + 1⟩ L, r + 1)
  else ({ told ((r : Int) + 1) (bs o.Key) (look (bs o.Key) L) with Done := false }, 0, L, r + 1)
theorem above_mem {key : ByteArray} {L : List Ent} {e : Ent} {M : List Ent} (h : above key L = e :: M) : e ∈ L := by
  have : e ∈ above key L := by rw [h]; simp
  exact (List.mem_filter.1 this).1
theorem do_eq {k : Nat} (hk : Fuel k) {t : Option Tab} {L : List Ent} {r : Nat} (hr : r < 4194304) (hT : Rep t L r) (o : api_Op) :
    ∃ t', table_Table_Do.f k t o = some ((act L r o).1, (act L r o).2.1, t') ∧ Rep t' (act L r o).2.2.1 (act L r o).2.2.2 := by
  obtain ⟨rows, rfl, hw, hl, hI⟩ := hT
  subst hl
  have hT : Rep (some ⟨rows, r, sz rows.list⟩) rows.list r := ⟨rows, rfl, hw, rfl, hI⟩
  have hlen := hI.len
  have hh := rows.hgt_le
  have h24 : 1099511627776 ≤ k := hk
  unfold table_Table_Do.f act
  rw [if_neg (by simp), bind_eq (right_eq o)]
  cases hR : right o with
  | false => exact ⟨_, rfl, hT⟩
  | true =>
    obtain ⟨k1, k2, k3, k4⟩ := right_key hR
    rw [if_pos rfl, if_neg (show ¬ (true = false) by simp)]
    by_cases c5 : o.Kind = 5
    · rw [if_pos c5, if_pos c5]
      simp only [Option.bind_some]
      rw [bind_eq (seek_eq rows (bs o.Key) hI.ord)]
      unfold table_Table_Do.j1
      cases hA : above (bs o.Key) rows.list with
      | nil =>
        refine ⟨_, ?_, hT⟩
        rw [bind_eq (show table_Table_told.f (some ⟨rows, r, sz rows.list⟩) (seekQ []).1 (seekQ []).2.1 (seekQ []).2.2 = _ from told_none)]; rfl
      | cons e M =>
        have := hI.ent e (above_mem hA)
        refine ⟨_, ?_, hT⟩
        rw [bind_eq (show table_Table_told.f (some ⟨rows, r, sz rows.list⟩) (seekQ (e :: M)).1 (seekQ (e :: M)).2.1 (seekQ (e :: M)).2.2 = _ from told_some (k := e.1) (c := e.2) (by omega) (by omega))]
    · rw [if_neg c5, if_neg c5]
      have k3' := k3 c5
      simp only [Option.bind_some]
      rw [bind_eq (get_eq k rows (bs o.Key) (by omega) hI.ord), bind_eq (writes_eq o)]
      by_cases c1 : o.Kind = 1
      · rw [if_pos c1, if_neg (by simp [isW, c1])]
        refine ⟨_, ?_, hT⟩
        rw [bind_eq (told_look hI)]
      · have hiw : isW o = true := by unfold isW; simp; omega
        rw [if_neg c1, if_pos hiw, if_neg (by show ¬ ((r : Int) = _); omega)]
        rw [wr (n := (r : Int) + 1) (by omega) (by omega), bind_eq (told_look hI)]
        have hcl : bytes_Clone.f o.Value = some o.Value := by unfold bytes_Clone.f; rw [if_pos (by omega)]
        rw [bind_eq hcl]
        unfold table_Table_Do.j2
        rw [wr (n := (r : Int) + 1) (by omega) (by omega)]
        by_cases c3 : o.Kind = 3
        · rw [if_pos c3, if_pos c3]
          obtain ⟨t', e', R'⟩ := set_del hk (c0 := ⟨o.Value, (r : Int) + 1⟩) (key := bs o.Key) hr hw rfl hI
          exact ⟨t', by rw [bind_eq e'], R'⟩
        · rw [if_neg c3, if_neg c3]
          obtain ⟨t', e', R'⟩ := set_put hk (key := bs o.Key) (v := o.Value) hr hw rfl hI (by rw [bs_size]; omega) (by rw [bs_size]; omega) k2
          have hj : ∀ b, table_Table_Do.j3 k o ⟨rows, r, sz rows.list⟩ (told ((r : Int) + 1) (bs o.Key) (look (bs o.Key) rows.list)) o.Value b = if b = true then some ({ told ((r : Int) + 1) (bs o.Key) (look (bs o.Key) rows.list) with Done := true }, 0, t') else some ({ told ((r : Int) + 1) (bs o.Key) (look (bs o.Key) rows.list) with Done := false }, 0, some ⟨rows, r + 1, sz rows.list⟩) := by
            intro b
            unfold table_Table_Do.j3
            rw [wr (n := (r : Int) + 1) (by omega) (by omega)]
            cases b with
            | true => rw [if_pos rfl, if_pos rfl, bind_eq e']
            | false => rw [if_neg (by simp), if_neg (by simp)]
          have hold : (gotQ (look (bs o.Key) rows.list)).1.rev = (look (bs o.Key) rows.list).elim 0 (fun c => c.rev) := by
            cases look (bs o.Key) rows.list <;> rfl
          by_cases c2 : o.Kind = 2
          · rw [if_pos c2, if_pos (Or.inl c2), hj, if_pos rfl]
            exact ⟨t', rfl, R'⟩
          · rw [if_neg c2, hj, hold]
            by_cases c : (look (bs o.Key) rows.list).elim 0 (fun c => c.rev) = o.Rev
            · rw [if_pos (Or.inr c), if_pos (by simp [c])]
              exact ⟨t', rfl, R'⟩
            · rw [if_neg (show ¬ (o.Kind = 2 ∨ (look (bs o.Key) rows.list).elim 0 (fun c => c.rev) = o.Rev) from fun h => h.elim c2 c), if_neg (by simp [c])]
              exact ⟨_, rfl, rows, by simp, hw, rfl, hI.up⟩
theorem act_r (L : List Ent) (r : Nat) (o : api_Op) : (act L r o).2.2.2 = r ∨ (act L r o).2.2.2 = r + 1 := by
  unfold act
  repeat' split
  all_goals simp
theorem new_rep : ∃ t, table_New.f = some t ∧ Rep t [] 0 := ⟨_, rfl, .nil, rfl, trivial, rfl, ⟨List.Pairwise.nil, Nat.le_refl _, fun e he => by cases he⟩⟩
end Go.Proofs.Ythankpjbfpcldaa.G
/-! Ops one behind the other; comparisons; the form. -/
namespace Go.Proofs.Ythankpjbfpcldaa.G
open Go
set_option linter.unusedVariables false
set_option linter.unusedSimpArgs false
theorem rd_eq {α : Type} [Inhabited α] {xs : List α} {i : Nat} (h : i < xs.length) : rd xs (i : Int) = xs[i] := by
  unfold rd
  rw [Int.toNat_natCast, List.getD_eq_getElem?_getD, List.getElem?_eq_getElem h]
  rfl
theorem take_one {α : Type} {xs : List α} {i : Nat} (h : i < xs.length) : xs.take (i + 1) = xs.take i ++ [xs[i]] := by
  rw [List.take_add_one, List.getElem?_eq_getElem h]; rfl
theorem wrS (i : Nat) (h : i < 1000000000000) : IntKind.i64.wrap ((i : Int) + 1) = ((i + 1 : Nat) : Int) := by rw [wr (by omega) (by omega)]; omega
abbrev St := List Ent × Nat
def stepS (s : St) (o : api_Op) : St := (act s.1 s.2 o).2.2
def run (s : St) (ops : List api_Op) : St := ops.foldl stepS s
theorem run_snoc (s : St) (ops : List api_Op) (o : api_Op) : run s (ops ++ [o]) = stepS (run s ops) o := by simp [run]
theorem run_app (s : St) (a b : List api_Op) : run s (a ++ b) = run (run s a) b := by simp [run]
theorem step_r (s : St) (o : api_Op) : (stepS s o).2 = s.2 ∨ (stepS s o).2 = s.2 + 1 := act_r s.1 s.2 o
theorem run_r : ∀ (ops : List api_Op) (s : St), (run s ops).2 ≤ s.2 + ops.length
  | [], s => Nat.le_refl _
  | o :: ops, s => by
    have h1 := run_r ops (stepS s o)
    have h2 := step_r s o
    show (run (stepS s o) ops).2 ≤ _
    rw [List.length_cons]; omega
abbrev RepS (t : Option Tab) (s : St) : Prop := Rep t s.1 s.2
theorem do_step {k : Nat} (hk : Fuel k) {t : Option Tab} {s : St} (hr : s.2 < 4194304) (hT : RepS t s) (o : api_Op) :
    ∃ t', table_Table_Do.f k t o = some ((act s.1 s.2 o).1, (act s.1 s.2 o).2.1, t') ∧ RepS t' (stepS s o) := do_eq hk hr hT o
theorem loop_inv {S X : Type} {f : S → Option (Ctl S X)} {I : Nat → S → Prop} {P : X → Prop} {N : Nat}
    (step : ∀ i s, i < N → I i s → (∃ s', f s = some (.next s') ∧ I (i + 1) s') ∨ (∃ x, f s = some (.done x) ∧ P x))
    (last : ∀ s, I N s → ∃ x, f s = some (.done x) ∧ P x) : ∀ (n i : Nat) (s : S) (m : Nat), I i s → i + n = N → n < m → ∃ x, loop f m s = some x ∧ P x
  | _, _, _, 0, _, _, h => absurd h (by omega)
  | 0, i, s, m + 1, hI, hN, _ => by
    obtain rfl : i = N := by omega
    obtain ⟨x, h1, h2⟩ := last s hI
    exact ⟨x, loop_done h1, h2⟩
  | n + 1, i, s, m + 1, hI, hN, hm => by
    rcases step i s (by omega) hI with ⟨s', h1, h2⟩ | ⟨x, h1, h2⟩
    · rw [loop_next h1]
      exact loop_inv step last n (i + 1) s' m h2 (by omega) (by omega)
    · exact ⟨x, loop_done h1, h2⟩
/-! ### the form -/
def fmP : Nat → Nat → List Int
  | 0, _ => []
  | f + 1, n => if n ≤ 127 then [] else bor .u8 (IntKind.u8.wrap n) 128 :: fmP f (n / 128)
def fmL : Nat → Nat → Nat
  | 0, n => n
  | f + 1, n => if n ≤ 127 then n else fmL f (n / 128)
def fm (n : Nat) : List Int := fmP 9 n ++ [IntKind.u8.wrap (fmL 9 n)]
theorem fmP_len : ∀ f n, (fmP f n).length = nmF f n
  | 0, _ => rfl
  | f + 1, n => by
    unfold fmP nmF
    split
    · rfl
    · rw [List.length_cons, fmP_len f]
theorem fm_len (n : Nat) : (fm n).length = nm n := by unfold fm nm; rw [List.length_append, fmP_len]; simp; omega
theorem form_loop : ∀ (f n k : Nat) (l : List Int), n < 128 ^ f → f < k → l.length + f < 1000 → loop (fun (s_ : Int × List Int) => parcel_form.b1 s_.1 s_.2) k ((n : Int), l) = some ((fmL f n : Int), l ++ fmP f n)
  | _, _, 0, _, _, h, _ => absurd h (by omega)
  | 0, n, k + 1, l, h, _, _ => by
    have : n = 0 := by simpa using h
    subst this
    rw [loop_done (x := ((0 : Int), l))]
    · simp [fmP, fmL]
    · simp [parcel_form.b1]
  | f + 1, n, k + 1, l, h, hk, hs => by
    by_cases c : n ≤ 127
    · rw [loop_done (x := ((n : Int), l))]
      · simp [fmP, fmL, c]
      · unfold parcel_form.b1; rw [if_neg (by omega)]
    · have hd : n / 128 < 128 ^ f := by rw [Nat.pow_succ] at h; omega
      rw [loop_next (s' := (((n / 128 : Nat) : Int), l ++ [bor .u8 (IntKind.u8.wrap n) 128]))]
      · rw [form_loop f (n / 128) k _ hd (by omega) (by simp; omega)]
        simp [fmP, fmL, c]
      · unfold parcel_form.b1
        rw [if_pos (by omega), if_pos (by simp; omega), shr7u]
theorem form_eq {k n : Nat} (hk : Fuel k) (hn : n < 9223372036854775808) : parcel_form.f k (n : Int) = some (fm n) := by
  have h24 : 1099511627776 ≤ k := hk
  have := nmF_le 9 n
  unfold parcel_form.f
  rw [if_pos (by decide), bind_eq (form_loop 9 n k _ (by omega) (by omega) (by simp))]
  unfold parcel_form.j2
  simp only [Int.toNat_zero, List.replicate_zero, List.nil_append]
  rw [if_pos (by rw [fmP_len]; simp; omega)]
  rfl
theorem wru {n : Int} (h0 : 0 ≤ n) (h1 : n < 9223372036854775808) : IntKind.u64.wrap n = n := by
  simp only [IntKind.wrap, IntKind.bits, IntKind.signed]; simp; omega
abbrev W (room : Int) (b : List Int) : Option Wri := some ⟨room, b, [], 0⟩
theorem lay_eq {room : Int} {b a : List Int} (h1 : (b.length + a.length : Nat) ≤ room) (h2 : room ≤ 1000000000000) : parcel_Writer_lay.f (W room b) a = some (W room (b ++ a)) := by
  unfold parcel_Writer_lay.f parcel_Writer_whole.f
  simp only [Option.isNone_some, Bool.false_eq_true, if_false, Option.bind_some, decide_true, if_true]
  rw [wr (by omega) (by omega), if_neg (by omega), if_pos (by omega)]
theorem Num_eq {k : Nat} (hk : Fuel k) {room : Int} {b : List Int} {n : Nat} (hn : n < 9223372036854775808) (h1 : (b.length + (fm n).length : Nat) ≤ room) (h2 : room ≤ 1000000000000) :
    parcel_Writer_Num.f k (W room b) (n : Int) = some (W room (b ++ fm n)) := by
  unfold parcel_Writer_Num.f
  rw [bind_eq (form_eq hk hn), bind_eq (lay_eq h1 h2)]
theorem concat_eq {k : Nat} (hk : Fuel k) {x y : List Int} (h : x.length + y.length < 2000000000000) : slices_Concat.f k [x, y] = some (x ++ y) := by
  have h24 : 1099511627776 ≤ k := hk
  obtain ⟨q, rfl⟩ : ∃ q, k = q + 1 + 1 + 1 := ⟨k - 3, by omega⟩
  unfold slices_Concat.f
  have e1 : loop (fun (s_ : Int × Int) => slices_Concat.b1 [x, y] s_.1 s_.2) (q + 1 + 1 + 1) (0, 0) = some ((x.length + y.length : Nat) : Int) := by
    rw [loop_next (s' := ((x.length : Int), (1 : Int)))]
    · rw [loop_next (s' := (((x.length + y.length : Nat) : Int), (2 : Int)))]
      · refine loop_done ?_
        simp [slices_Concat.b1]
      · have r1 : rd [x, y] 1 = y := rfl
        have w1 : IntKind.i64.wrap ((x.length : Int) + (y.length : Int)) = ((x.length + y.length : Nat) : Int) := by rw [wr (by omega) (by omega)]; omega
        unfold slices_Concat.b1
        simp only [r1, w1]
        rw [if_pos (by simp), if_pos (by simp), if_neg (by omega)]
        rfl
    · have r1 : rd [x, y] 0 = x := rfl
      have w1 : IntKind.i64.wrap (0 + (x.length : Int)) = (x.length : Int) := by rw [wr (by omega) (by omega)]; omega
      unfold slices_Concat.b1
      simp only [r1, w1]
      rw [if_pos (by simp), if_pos (by simp), if_neg (by omega)]
      rfl
  rw [bind_eq e1]
  unfold slices_Concat.j2
  have e2 : slices_Grow.f [] ((x.length + y.length : Nat) : Int) = some [] := by
    unfold slices_Grow.f; rw [if_pos ⟨by omega, by omega, rfl⟩]
  rw [bind_eq e2]
  have e3 : loop (fun (s_ : (List Int) × Int) => slices_Concat.b3 [x, y] s_.1 s_.2) (q + 1 + 1 + 1) ([], 0) = some (x ++ y) := by
    rw [loop_next (s' := (x, (1 : Int)))]
    · rw [loop_next (s' := (x ++ y, (2 : Int)))]
      · refine loop_done ?_
        simp [slices_Concat.b3]
      · have r1 : rd [x, y] 1 = y := rfl
        unfold slices_Concat.b3
        simp only [r1]
        rw [if_pos (by simp), if_pos (by simp), if_pos (by omega)]
        rfl
    · have r1 : rd [x, y] 0 = x := rfl
      unfold slices_Concat.b3
      simp only [r1]
      rw [if_pos (by simp), if_pos (by simp), if_pos (by simp; omega)]
      rfl
  rw [bind_eq e3]
  rfl
theorem Text_eq {k : Nat} (hk : Fuel k) {room : Int} {b a : List Int} (h1 : (b.length + (fm a.length).length + a.length : Nat) ≤ room) (h2 : room ≤ 1000000000000) :
    parcel_Writer_Text.f k (W room b) a = some (W room (b ++ (fm a.length ++ a))) := by
  have := fm_len a.length; have := nm_le a.length
  have e : ((b.length + (fm a.length ++ a).length : Nat) : Int) ≤ room := by rw [List.length_append]; omega
  unfold parcel_Writer_Text.f
  rw [wru (by omega) (by omega), bind_eq (form_eq hk (by omega)), bind_eq (concat_eq hk (by omega)), bind_eq (lay_eq e h2)]
def ef (e : Ent) : List Int := (fm e.1.size ++ sb e.1) ++ ((fm e.2.value.length ++ e.2.value) ++ fm e.2.rev.toNat)
theorem sb_len (k : ByteArray) : (sb k).length = k.size := by unfold sb; rw [List.length_map]; rfl
theorem ef_len (e : Ent) : ((ef e).length : Int) = lg e.1 e.2 := by
  unfold ef lg
  simp only [List.length_append, fm_len, sb_len]; omega
theorem bytes_fold {k : Nat} (hk : Fuel k) {room : Int} (h2 : room ≤ 1000000000000) {r : Nat} (hr : r ≤ 1099511627776) : ∀ (L : List Ent) (b : List Int), (∀ e ∈ L, 1 ≤ e.1.size ∧ e.1.size ≤ 64 ∧ e.2.value.length ≤ 256 ∧ 1 ≤ e.2.rev ∧ e.2.rev ≤ (r : Int)) → b.length + sz L ≤ room →
    foldC (fun (s_ : (Option Wri)) (k_ : ByteArray) (v_ : table_cell) => table_Table_Bytes.b1 k s_ k_ v_) L (W room b) = some (.next (W room (b ++ L.flatMap ef)))
  | [], b, _, _ => by simp [foldC]
  | e :: L, b, h, hb => by
    have he := h e (by simp)
    have h3 := sz_le (L := L) (r := r) (fun x hx => h x (by simp [hx]))
    rw [sz_cons] at hb
    have hl := ef_len e
    have hl' := hl
    unfold lg at hl'
    have f1 := fm_len e.1.size; have f2 := fm_len e.2.value.length; have f3 := fm_len e.2.rev.toNat
    have hs := sb_len e.1
    have hrev : e.2.rev = ((e.2.rev.toNat : Nat) : Int) := by omega
    have step : table_Table_Bytes.b1 k (W room b) e.1 e.2 = some (Ctl.next (W room (b ++ ef e))) := by
      unfold table_Table_Bytes.b1
      rw [if_pos (by omega), bind_eq (Text_eq hk (a := sb e.1) (by rw [hs]; omega) h2), bind_eq (Text_eq hk (a := e.2.value) (by simp only [List.length_append, hs]; omega) h2), hrev, wru (by omega) (by omega),
        bind_eq (Num_eq hk (n := e.2.rev.toNat) (by omega) (by simp only [List.length_append, hs]; omega) h2)]
      unfold ef
      rw [hs]
      simp only [List.append_assoc]
    show thenC (table_Table_Bytes.b1 k (W room b) e.1 e.2) _ = _
    rw [step]
    show foldC _ L (W room (b ++ ef e)) = _
    rw [bytes_fold hk h2 hr L (b ++ ef e) (fun x hx => h x (by simp [hx])) (by simp only [List.length_append]; omega)]
    simp
def form (s : St) : List Int := fm s.2 ++ fm s.1.length ++ s.1.flatMap ef
theorem done_eq {room : Int} {b : List Int} (h : b.length ≤ 1000000000000) : parcel_Writer_Done.f (W room b) = some (b, 0) := by
  unfold parcel_Writer_Done.f
  simp only [Option.isNone_some, Bool.false_eq_true, if_false, Option.bind_some, if_true, List.length_nil]
  rw [if_neg (by omega), if_pos (by omega)]
  simp
theorem RepS.inv {t : Option Tab} {s : St} (hT : RepS t s) : Inv s.1 s.2 := by obtain ⟨rows, _, _, _, hI⟩ := hT; exact hI
theorem size_eq0 {k : Nat} (hk : Fuel k) {t : Option Tab} {s : St} (hl0 : s.1.length < 2000000000) (hr : s.2 ≤ 1099511627776) (hT : RepS t s) : table_Table_Size.f k t = some (nm s.2 + nm s.1.length + sz s.1) := by
  obtain ⟨rows, rfl, hw, hl, hI⟩ := hT
  have hlen := hI.len
  have hsz := sz_le hI.ent
  have := nm_le s.2; have := nm_le s.1.length
  unfold table_Table_Size.f
  simp only [Option.isNone_some, Bool.false_eq_true, if_false, Option.bind_some]
  rw [bind_eq (num_eq hk (n := s.2) (by omega)), bind_eq (len_eq hw), hl, bind_eq (num_eq hk (n := s.1.length) (by omega)), wr (n := (nm s.2 : Int) + nm s.1.length) (by omega) (by omega), wr (by omega) (by omega)]
theorem size_eq {k : Nat} (hk : Fuel k) {t : Option Tab} {s : St} (hr : s.2 < 4194304) (hT : RepS t s) : table_Table_Size.f k t = some (nm s.2 + nm s.1.length + sz s.1) := size_eq0 hk (Nat.lt_trans (Nat.lt_of_le_of_lt hT.inv.len hr) (by omega)) (by omega) hT
theorem flat_len : ∀ L : List Ent, ((L.flatMap ef).length : Int) = sz L
  | [] => rfl
  | e :: L => by rw [List.flatMap_cons, List.length_append, sz_cons, ← flat_len L, ← ef_len]; omega
theorem bytes_eq0 {k : Nat} (hk : Fuel k) {t : Option Tab} {s : St} (hl0 : s.1.length < 2000000000) (hr : s.2 ≤ 1099511627776) (hT : RepS t s) : table_Table_Bytes.f k t = some (form s) := by
  have hS := size_eq0 hk hl0 hr hT
  obtain ⟨rows, rfl, hw, hl, hI⟩ := hT
  have hlen := hI.len
  have hsz := sz_le hI.ent
  have h1 := nm_le s.2; have h2 := nm_le s.1.length
  have f1 := fm_len s.2; have f2 := fm_len s.1.length
  unfold table_Table_Bytes.f
  rw [if_neg (by simp), bind_eq hS]
  have e0 : parcel_New.f (nm s.2 + nm s.1.length + sz s.1) = some (W (nm s.2 + nm s.1.length + sz s.1) []) := by
    unfold parcel_New.f
    rw [Int.max_eq_left (by omega)]
  rw [bind_eq e0]
  simp only [Option.bind_some]
  rw [wru (by omega) (by omega), bind_eq (Num_eq hk (n := s.2) (by omega) (by simp only [List.length_nil]; omega) (by omega)), bind_eq (len_eq hw), hl, wru (by omega) (by omega),
    bind_eq (Num_eq hk (n := s.1.length) (by omega) (by simp only [List.length_append, List.length_nil]; omega) (by omega))]
  show (some (It.all rows)).bind _ = _
  rw [Option.bind_some]
  show (Tr.up _ rows _).bind _ = _
  rw [up_eq, hl, bind_eq (bytes_fold hk (by omega) hr s.1 _ hI.ent (by simp only [List.length_append, List.length_nil]; omega))]
  have hfl := flat_len s.1
  show (parcel_Writer_Done.f _).bind _ = _
  rw [bind_eq (done_eq (by simp only [List.length_append, List.length_nil]; omega))]
  simp [form]
theorem bytes_eq {k : Nat} (hk : Fuel k) {t : Option Tab} {s : St} (hr : s.2 < 4194304) (hT : RepS t s) : table_Table_Bytes.f k t = some (form s) := bytes_eq0 hk (Nat.lt_trans (Nat.lt_of_le_of_lt hT.inv.len hr) (by omega)) (by omega) hT
theorem copy_eq {t : Option Tab} {s : St} (hT : RepS t s) : table_Table_Copy.f t = some t := by
  obtain ⟨rows, rfl, hw, hl, hI⟩ := hT
  rfl
theorem Rev_eq {t : Option Tab} {s : St} (hT : RepS t s) : table_Table_Rev.f t = some (s.2 : Int) := by
  obtain ⟨rows, rfl, hw, hl, hI⟩ := hT
  rfl
theorem Len_eq {t : Option Tab} {s : St} (hT : RepS t s) : table_Table_Len.f t = some (s.1.length : Int) := by
  obtain ⟨rows, rfl, hw, hl, hI⟩ := hT
  unfold table_Table_Len.f
  rw [if_neg (by simp)]
  show (tree_Tree_Len.f rows).bind _ = _
  rw [bind_eq (len_eq hw), hl]
/-! ### rows -/
def rowOf (e : Ent) : api_Row := ⟨sb e.1, e.2.value, e.2.rev⟩
theorem rows_fold : ∀ (L : List Ent) (b : List api_Row), (∀ e ∈ L, e.1.size ≤ 64 ∧ e.2.value.length ≤ 256) → b.length + L.length ≤ 2000000000 →
    foldC (X := Unit) (fun (s_ : List api_Row) (k_ : ByteArray) (v_ : table_cell) => table_Table_Rows.b1 s_ k_ v_) L b = some (.next (b ++ L.map rowOf))
  | [], b, _, _ => by simp [foldC]
  | e :: L, b, h, hb => by
    have he := h e (by simp)
    rw [List.length_cons] at hb
    have step : table_Table_Rows.b1 b e.1 e.2 = some (Ctl.next (b ++ [rowOf e])) := by
      unfold table_Table_Rows.b1 bytes_Clone.f
      rw [if_pos (by omega), if_pos (by omega), Option.bind_some, if_pos (by simp only [List.length_singleton]; omega)]
      rfl
    show thenC (table_Table_Rows.b1 b e.1 e.2) _ = _
    rw [step]
    show foldC _ L (b ++ [rowOf e]) = _
    rw [rows_fold L _ (fun x hx => h x (by simp [hx])) (by simp; omega)]
    simp
theorem Rows_eq0 {t : Option Tab} {s : St} (hl0 : s.1.length < 2000000000) (hT : RepS t s) : table_Table_Rows.f t = some (s.1.map rowOf) := by
  obtain ⟨rows, rfl, hw, hl, hI⟩ := hT
  have hlen := hI.len
  unfold table_Table_Rows.f
  rw [if_neg (by simp)]
  show (Tr.up _ rows _).bind _ = _
  rw [up_eq, hl, bind_eq (rows_fold s.1 [] (fun e he => ⟨(hI.ent e he).2.1, (hI.ent e he).2.2.1⟩) (by simp; omega))]
  rfl
theorem Rows_eq {t : Option Tab} {s : St} (hr : s.2 < 4194304) (hT : RepS t s) : table_Table_Rows.f t = some (s.1.map rowOf) := Rows_eq0 (Nat.lt_trans (Nat.lt_of_le_of_lt hT.inv.len hr) (by omega)) hT
end Go.Proofs.Ythankpjbfpcldaa.G
/-! The shard's plain law: what laying, the size and a step answer. -/
namespace Go.Proofs.Ythankpjbfpcldaa.G
open Go
set_option linter.unusedVariables false
set_option linter.unusedSimpArgs false
theorem act_short {L : List Ent} {r : Nat} {o : api_Op} (hI : Inv L r) : (act L r o).1.Key.length ≤ 65 ∧ (act L r o).1.Value.length ≤ 256 := by
  have tl : ∀ (R : Int) (q : Option table_cell), (∀ c, q = some c → c.value.length ≤ 256) → (told R (bs o.Key) q).Value.length ≤ 256 := by
    intro R q hq
    cases q with
    | none => simp [told]
    | some c => exact hq c rfl
  have tk : ∀ (R : Int) (q : Option table_cell), (∀ c, q = some c → (bs o.Key).size ≤ 64) → (told R (bs o.Key) q).Key.length ≤ 65 := by
    intro R q hq
    cases q with
    | none => simp [told]
    | some c => show (sb (bs o.Key)).length ≤ 65; rw [sb_len]; have := hq c rfl; omega
  have hl : ∀ c, look (bs o.Key) L = some c → c.value.length ≤ 256 := fun c h => (hI.look h).2.2.1
  have hk : ∀ c, look (bs o.Key) L = some c → (bs o.Key).size ≤ 64 := fun c h => (hI.look h).2.1
  unfold act
  split
  · simp [zeroA]
  · split
    · split
      · simp [told]
      · rename_i a b c h
        have := hI.ent _ (above_mem h)
        exact ⟨by show (sb a).length ≤ 65; rw [sb_len]; have := this.2.1; simp only at this; omega, this.2.2.1⟩
    · split
      · exact ⟨tk _ _ hk, tl _ _ hl⟩
      · split
        · exact ⟨tk _ _ hk, tl _ _ hl⟩
        · split
          · exact ⟨tk _ _ hk, tl _ _ hl⟩
          · exact ⟨tk _ _ hk, tl _ _ hl⟩
/-! ### a writer that never dies -/
def WT (n : Nat) (w : Option Wri) : Prop := ∃ b f, w = some ⟨1048576, b, [], f⟩ ∧ b.length ≤ n ∧ n ≤ 1000000
theorem WT.lay {n m : Nat} {w : Option Wri} (h : WT n w) {a : List Int} (ha : n + a.length ≤ m) (hm : m ≤ 1000000) : ∃ w', parcel_Writer_lay.f w a = some w' ∧ WT m w' := by
  obtain ⟨b, f, rfl, hb, hn⟩ := h
  unfold parcel_Writer_lay.f parcel_Writer_whole.f
  simp only [Option.isNone_some, Bool.false_eq_true, if_false, Option.bind_some]
  by_cases c : f = 0
  · subst c
    simp only [decide_true, if_true]
    rw [wr (by omega) (by omega), if_neg (by omega), if_pos (by omega)]
    exact ⟨_, rfl, _, _, rfl, by rw [List.length_append]; omega, hm⟩
  · rw [if_neg (by simpa using c)]
    exact ⟨_, rfl, _, _, rfl, by omega, hm⟩
theorem WT.refuse {n : Nat} {w : Option Wri} (h : WT n w) (x : Int) : ∃ w', parcel_Writer_refuse.f w x = some w' ∧ WT n w' := by
  obtain ⟨b, f, rfl, hb, hn⟩ := h
  unfold parcel_Writer_refuse.f parcel_Writer_whole.f
  simp only [Option.isNone_some, Bool.false_eq_true, if_false, Option.bind_some]
  split
  · exact ⟨_, rfl, _, _, rfl, hb, hn⟩
  · exact ⟨_, rfl, _, _, rfl, hb, hn⟩
theorem u64_range (x : Int) : ∃ n : Nat, IntKind.u64.wrap x = (n : Int) ∧ n < 18446744073709551616 := by
  refine ⟨(IntKind.u64.wrap x).toNat, ?_, ?_⟩ <;> simp only [IntKind.wrap, IntKind.bits, IntKind.signed] <;> simp <;> omega
theorem form_tot {k : Nat} (hk : Fuel k) (x : Int) : ∃ l, parcel_form.f k (IntKind.u64.wrap x) = some l ∧ l.length ≤ 11 := by
  have h24 : 1099511627776 ≤ k := hk
  obtain ⟨n, e, hn⟩ := u64_range x
  have := nmF_le 10 n
  rw [e]
  unfold parcel_form.f
  rw [if_pos (by decide), bind_eq (form_loop 10 n k _ (by omega) (by omega) (by simp))]
  unfold parcel_form.j2
  simp only [Int.toNat_zero, List.replicate_zero, List.nil_append]
  rw [if_pos (by rw [fmP_len]; simp; omega)]
  exact ⟨_, rfl, by rw [List.length_append, fmP_len]; simp; omega⟩
theorem WT.num {k : Nat} (hk : Fuel k) {n m : Nat} {w : Option Wri} (h : WT n w) (x : Int) (hm : n + 11 ≤ m) (hM : m ≤ 1000000) : ∃ w', parcel_Writer_Num.f k w (IntKind.u64.wrap x) = some w' ∧ WT m w' := by
  obtain ⟨l, e, hl⟩ := form_tot hk x
  obtain ⟨w', e', h'⟩ := h.lay (a := l) (m := m) (by omega) hM
  exact ⟨w', by unfold parcel_Writer_Num.f; rw [bind_eq e, bind_eq e'], h'⟩
theorem WT.text {k : Nat} (hk : Fuel k) {n m : Nat} {w : Option Wri} (h : WT n w) (a : List Int) (hm : n + 11 + a.length ≤ m) (hM : m ≤ 1000000) : ∃ w', parcel_Writer_Text.f k w a = some w' ∧ WT m w' := by
  obtain ⟨l, e, hl⟩ := form_tot hk (a.length : Int)
  obtain ⟨w', e', h'⟩ := h.lay (a := l ++ a) (m := m) (by rw [List.length_append]; omega) hM
  exact ⟨w', by unfold parcel_Writer_Text.f; rw [bind_eq e, bind_eq (concat_eq hk (by omega)), bind_eq e'], h'⟩
theorem WT.byte {n m : Nat} {w : Option Wri} (h : WT n w) (x : Int) (hx : 0 ≤ x ∧ x ≤ 255) (hm : n + 1 ≤ m) (hM : m ≤ 1000000) : ∃ w', parcel_Writer_Byte.f w x = some w' ∧ WT m w' := by
  obtain ⟨w', e', h'⟩ := h.lay (a := [IntKind.u8.wrap x]) (m := m) (by simp; omega) hM
  refine ⟨w', ?_, h'⟩
  unfold parcel_Writer_Byte.f parcel_Writer_Byte.j1
  rw [if_neg (by omega), decide_eq_false (by omega), if_neg (by simp), bind_eq e']
theorem WT.done {n : Nat} {w : Option Wri} (h : WT n w) : ∃ l x, parcel_Writer_Done.f w = some (l, x) ∧ l.length ≤ n := by
  obtain ⟨b, f, rfl, hb, hn⟩ := h
  by_cases c : f = 0
  · subst c
    have := done_eq (room := 1048576) (b := b) (by omega)
    exact ⟨b, 0, this, hb⟩
  · unfold parcel_Writer_Done.f
    simp only [Option.isNone_some, Bool.false_eq_true, if_false, Option.bind_some]
    rw [if_neg c]
    exact ⟨_, _, rfl, by simp⟩
/-! ### the seats -/
structure QB (q : api_Seat) : Prop where
  key : q.Answer.Key.length ≤ 1000
  val : q.Answer.Value.length ≤ 1000
abbrev zeroQ : api_Seat := api_Seat.mk 0 0 (api_Answer.mk false [] [] 0 0)
theorem count_tot {k : Nat} (hk : Fuel k) {Q : List api_Seat} : ∃ c, loop (fun (s_ : Int × Int) => shard_seats_lay.b1 Q s_.1 s_.2) k (0, 0) = some c := by
  have h24 : 1099511627776 ≤ k := hk
  have LI := loop_inv (f := fun (s_ : Int × Int) => shard_seats_lay.b1 Q s_.1 s_.2) (I := fun i s => s.2 = (i : Int)) (P := fun _ => True) (N := 16) ?_ ?_ 16 0 (0, 0) k rfl rfl (by omega)
  · obtain ⟨x, e, _⟩ := LI
    exact ⟨x, e⟩
  · rintro i ⟨a, _⟩ hi rfl
    left
    simp only [shard_seats_lay.b1]
    rw [if_pos (by omega), if_pos (by omega), wrS i (by omega)]
    split
    · exact ⟨_, rfl, rfl⟩
    · exact ⟨_, rfl, rfl⟩
  · rintro ⟨a, _⟩ rfl
    simp only [shard_seats_lay.b1]
    rw [if_neg (by omega)]
    exact ⟨_, rfl, trivial⟩
@[irreducible] def gr (i : Nat) : Nat := 2200 * i
theorem gr_succ (i : Nat) : gr (i + 1) = gr i + 2200 := by unfold gr; omega
theorem gr_le {i : Nat} (h : i ≤ 16) : gr i ≤ 35200 := by unfold gr; omega
theorem gr_zero : gr 0 = 0 := by unfold gr; rfl
theorem lay_tot {k : Nat} (hk : Fuel k) {Q : List api_Seat} (hQ : Q.length = 16) (hB : ∀ q ∈ Q, QB q) {n : Nat} (hn : n ≤ 100000) {w : Option Wri} (h : WT n w) : ∃ w', shard_seats_lay.f k Q w = some w' ∧ WT (n + 40000) w' := by
  have h24 : 1099511627776 ≤ k := hk
  obtain ⟨c, ec⟩ := count_tot hk (Q := Q)
  unfold shard_seats_lay.f
  rw [bind_eq ec]
  unfold shard_seats_lay.j2
  obtain ⟨w1, e1, h1⟩ := h.num hk c (m := n + 11) (by omega) (by omega)
  rw [bind_eq e1]
  have LI := loop_inv (f := fun (s_ : (Option Wri) × Int) => shard_seats_lay.b5 k Q s_.1 s_.2) (I := fun i s => s.2 = (i : Int) ∧ WT (n + 11 + gr i) s.1) (P := fun x => WT (n + 40000) x) (N := 16) ?_ ?_ 16 0 (w1, 0) k ⟨rfl, by rw [gr_zero]; exact h1⟩ rfl (by omega)
  · obtain ⟨x, e, hx⟩ := LI
    exact ⟨x, by rw [bind_eq e]; rfl, hx⟩
  · rintro i ⟨a, _⟩ hi ⟨rfl, ha⟩
    left
    simp only at ha
    simp only [shard_seats_lay.b5, shard_seats_lay.j4]
    have q1 := gr_succ i
    have q2 := gr_le (i := i + 1) (by omega)
    have hq := hB (rd Q (i : Int)) (by rw [rd_eq (by omega)]; exact List.getElem_mem _)
    have h1 := hq.key; have h2 := hq.val
    have up : ∀ {p q : Nat} {v : Option Wri}, WT p v → p ≤ q → q ≤ 1000000 → WT q v := fun ⟨b, f, e, h, _⟩ h1 h2 => ⟨b, f, e, by omega, h2⟩
    rw [if_pos (by omega), if_pos (by omega), wrS i (by omega)]
    split
    · exact ⟨_, rfl, rfl, up ha (by omega) (by omega)⟩
    · obtain ⟨a1, f1, g1⟩ := ha.num hk (rd Q (i : Int)).Client (m := n + 11 + gr i + 11) (by omega) (by omega)
      obtain ⟨a2, f2, g2⟩ := g1.num hk (rd Q (i : Int)).Seq (m := n + 11 + gr i + 22) (by omega) (by omega)
      rw [bind_eq f1, bind_eq f2]
      have rest : ∀ v, WT (n + 11 + gr i + 23) v → ∃ s', ((parcel_Writer_Text.f k v (((rd Q (i : Int)).Answer).Key)).bind fun t163 => (parcel_Writer_Text.f k t163 (((rd Q (i : Int)).Answer).Value)).bind fun t172 => (parcel_Writer_Num.f k t172 (IntKind.u64.wrap (((rd Q (i : Int)).Answer).Rev))).bind fun t181 => (parcel_Writer_Num.f k t181 (IntKind.u64.wrap (((rd Q (i : Int)).Answer).At))).bind fun t189 => some (Ctl.next (X := Option Wri) (t189, ((i + 1 : Nat) : Int)))) = some (Ctl.next s') ∧ s'.2 = ((i + 1 : Nat) : Int) ∧ WT (n + 11 + gr (i + 1)) s'.1 := by
        intro v hv
        obtain ⟨a3, f3, g3⟩ := hv.text hk (rd Q (i : Int)).Answer.Key (m := n + 11 + gr i + 1040) (by omega) (by omega)
        obtain ⟨a4, f4, g4⟩ := g3.text hk (rd Q (i : Int)).Answer.Value (m := n + 11 + gr i + 2060) (by omega) (by omega)
        obtain ⟨a5, f5, g5⟩ := g4.num hk (rd Q (i : Int)).Answer.Rev (m := n + 11 + gr i + 2080) (by omega) (by omega)
        obtain ⟨a6, f6, g6⟩ := g5.num hk (rd Q (i : Int)).Answer.At (m := n + 11 + gr (i + 1)) (by omega) (by omega)
        rw [bind_eq f3, bind_eq f4, bind_eq f5, bind_eq f6]
        exact ⟨_, rfl, rfl, g6⟩
      split
      · obtain ⟨v, f3, g3⟩ := g2.byte 1 (by decide) (m := n + 11 + gr i + 23) (by omega) (by omega)
        rw [bind_eq f3]; exact rest v g3
      · obtain ⟨v, f3, g3⟩ := g2.byte 0 (by decide) (m := n + 11 + gr i + 23) (by omega) (by omega)
        rw [bind_eq f3]; exact rest v g3
  · rintro ⟨a, _⟩ ⟨rfl, ha⟩
    simp only at ha
    simp only [shard_seats_lay.b5]
    rw [if_neg (by omega)]
    have q2 := gr_le (i := 16) (by omega)
    obtain ⟨b, f, e, h, _⟩ := ha
    exact ⟨_, rfl, b, f, e, by omega, by omega⟩
theorem bytes_tot {k : Nat} (hk : Fuel k) {Q : List api_Seat} (hQ : Q.length = 16) (hB : ∀ q ∈ Q, QB q) : ∃ l, shard_seats_bytes.f k Q = some l ∧ l.length ≤ 40000 := by
  obtain ⟨w, e, h⟩ := lay_tot hk hQ hB (n := 0) (by omega) (w := W 1048576 []) ⟨[], 0, rfl, by simp, by omega⟩
  obtain ⟨l, x, ed, hl⟩ := h.done
  refine ⟨l, ?_, by omega⟩
  unfold shard_seats_bytes.f
  rw [bind_eq (show parcel_New.f 1048576 = some (W 1048576 []) from rfl), bind_eq e, bind_eq ed]
theorem numSize_b1 : (fun (s_ : Int × Int) => shard_numSize.b1 s_.1 s_.2) = fun (s_ : Int × Int) => table_num.b1 s_.1 s_.2 := by
  funext s
  unfold shard_numSize.b1 table_num.b1
  by_cases c : 127 < s.1
  · rw [if_pos c, if_pos (by omega)]
  · rw [if_neg c, if_neg (by omega)]
theorem numSize_eq {k n : Nat} (hk : Fuel k) (hn : n < 9223372036854775808) : shard_numSize.f k (n : Int) = some (nm n : Int) := by
  have := num_eq hk hn
  unfold table_num.f at this
  unfold shard_numSize.f
  rw [numSize_b1]
  exact this
theorem Size_tot {k : Nat} (hk : Fuel k) {T : Option Tab} {Q : List api_Seat} {st : St} (hr : st.2 < 4194304) (hT : RepS T st) (hQ : Q.length = 16) (hB : ∀ q ∈ Q, QB q) :
    ∃ z, shard_Shard_Size.f k (some ⟨T, Q⟩) = some z ∧ z ≤ sz st.1 + 40100 := by
  have hi := hT.inv
  have hsz := sz_le hi.ent
  have hlen := hi.len
  obtain ⟨l, el, hl⟩ := bytes_tot hk hQ hB
  have h1 := nm_le st.2; have h2 := nm_le st.1.length
  obtain ⟨Z, e0⟩ : ∃ Z : Nat, (nm st.2 + nm st.1.length + sz st.1 : Int) = (Z : Int) := ⟨(nm st.2 + nm st.1.length + sz st.1 : Int).toNat, by omega⟩
  have h3 := nm_le Z
  unfold shard_Shard_Size.f
  simp only [Option.isNone_some, Bool.false_eq_true, if_false, Option.bind_some]
  rw [bind_eq (size_eq hk hr hT), e0, bind_eq (numSize_eq hk (by omega)), bind_eq el, wr (n := (nm Z : Int) + Z) (by omega) (by omega), wr (by omega) (by omega)]
  exact ⟨_, rfl, by omega⟩
end Go.Proofs.Ythankpjbfpcldaa.G
/-! The plain law of ShardTable. -/
namespace Go.Proofs.Ythankpjbfpcldaa.G
open Go
set_option linter.unusedVariables false
set_option linter.unusedSimpArgs false
theorem do_none {k : Nat} {s : Sha} {c n : Int} {o : api_Op} {a : api_Answer} {ch : Bool} {e : Int} (h : shard_Shard_next.f k (some s) c n o = some (some none, a, ch, e)) (he : e ≠ 0) : shard_Shard_Do.f k (some s) c n o = some (a, ch, e, some s) := by
  unfold shard_Shard_Do.f
  rw [bind_eq h]
  show (if e = 0 then _ else _) = _
  rw [if_neg he]
theorem do_self {k : Nat} {s : Sha} {c n : Int} {o : api_Op} {a : api_Answer} {ch : Bool} (h : shard_Shard_next.f k (some s) c n o = some (none, a, ch, 0)) : shard_Shard_Do.f k (some s) c n o = some (a, ch, 0, some s) := by
  unfold shard_Shard_Do.f
  rw [bind_eq h]
  rfl
theorem do_new {k : Nat} {s s' : Sha} {c n : Int} {o : api_Op} {a : api_Answer} {ch : Bool} (h : shard_Shard_next.f k (some s) c n o = some (some (some s'), a, ch, 0)) : shard_Shard_Do.f k (some s) c n o = some (a, ch, 0, some s') := by
  unfold shard_Shard_Do.f
  rw [bind_eq h]
  rfl
theorem own_eq {q : api_Seat} (h : QB q) : shard_own.f q = some q := by
  have h1 := h.key; have h2 := h.val
  unfold shard_own.f slices_Clone.f
  rw [if_pos (by omega), if_pos (by omega)]
  rfl
theorem act_zero {L : List Ent} {r : Nat} {o : api_Op} (h : right o = true) : (act L r o).2.1 = 0 := by
  unfold act
  rw [if_neg (by simp [h])]
  split
  · rfl
  · split
    · rfl
    · split
      · rfl
      · split <;> rfl
theorem act_read {L : List Ent} {r : Nat} {o : api_Op} (h : o.Kind = 1 ∨ o.Kind = 5) : (act L r o).2.2 = (L, r) := by
  unfold act
  split
  · rfl
  · rcases h with h | h
    · rw [if_neg (by omega), if_pos h]
    · rw [if_pos h]
theorem next_of {k : Nat} {s : Sha} {c n : Int} {o : api_Op} (h : 0 ≤ c ∧ c < 16 ∧ 1 ≤ n ∧ n ≤ 1073741824) : shard_Shard_next.f k (some s) c n o = shard_Shard_next.j1 k (some s) c n o false := by
  unfold shard_Shard_next.f
  rw [if_neg (by simp), if_neg (by omega), if_neg (by omega), if_neg (by omega), decide_eq_false (by omega)]
theorem next_bad {k : Nat} {s : Sha} {c n : Int} {o : api_Op} (h : ¬ (0 ≤ c ∧ c < 16 ∧ 1 ≤ n ∧ n ≤ 1073741824)) : shard_Shard_next.f k (some s) c n o = some (some none, zeroA, false, 2) := by
  unfold shard_Shard_next.f
  rw [if_neg (by simp)]
  split
  · rfl
  · split
    · rfl
    · split
      · rfl
      · rw [decide_eq_true (by omega)]; rfl
structure SI (T : Option Tab) (Q : List api_Seat) (st : St) : Prop where
  rep : RepS T st
  len : Q.length = 16
  qb : ∀ q ∈ Q, QB q
theorem SI.mem {T : Option Tab} {Q : List api_Seat} {st : St} (h : SI T Q st) {c : Int} (hc : 0 ≤ c ∧ c < 16) : QB (rd Q c) := by
  obtain ⟨i, rfl⟩ : ∃ i : Nat, c = (i : Int) := ⟨c.toNat, by omega⟩
  have := h.len
  rw [rd_eq (by omega)]
  exact h.qb _ (List.getElem_mem _)
theorem SI.set {T T' : Option Tab} {Q : List api_Seat} {st st' : St} (h : SI T Q st) (hr : RepS T' st') (i : Nat) {q : api_Seat} (hq : QB q) : SI T' (Q.set i q) st' :=
  ⟨hr, by rw [List.length_set]; exact h.len, fun x hx => (List.mem_or_eq_of_mem_set hx).elim (h.qb x) fun e => e ▸ hq⟩
/-- what a step of a shard answers -/
theorem sh_do {k : Nat} (hk : Fuel k) {T : Option Tab} {Q : List api_Seat} {st : St} (hr : st.2 < 4194304) (hS : SI T Q st) (c n : Int) (o : api_Op) (hr' : (stepS st o).2 < 4194304) :
    (∃ e, e ≠ 0 ∧ shard_Shard_Do.f k (some ⟨T, Q⟩) c n o = some (zeroA, false, e, some ⟨T, Q⟩) ∧ (¬ (0 ≤ c ∧ c < 16 ∧ 1 ≤ n ∧ n ≤ 1073741824) ∨ right o = false ∨ n < (rd Q c).Seq ∨ 200000 < sz (stepS st o).1)) ∨
    (0 ≤ c ∧ c < 16 ∧ 1 ≤ n) ∧ (((rd Q c).Seq = n ∧ shard_Shard_Do.f k (some ⟨T, Q⟩) c n o = some ((rd Q c).Answer, false, 0, some ⟨T, Q⟩)) ∨
      ((rd Q c).Seq < n ∧ right o = true ∧ (((o.Kind = 1 ∨ o.Kind = 5) ∧ shard_Shard_Do.f k (some ⟨T, Q⟩) c n o = some ((act st.1 st.2 o).1, false, 0, some ⟨T, Q⟩)) ∨
        (¬ (o.Kind = 1 ∨ o.Kind = 5) ∧ ∃ T' Q', shard_Shard_Do.f k (some ⟨T, Q⟩) c n o = some ((act st.1 st.2 o).1, true, 0, some ⟨T', Q'⟩) ∧ SI T' Q' (stepS st o) ∧ Q' = Q.set c.toNat ⟨c, n, (act st.1 st.2 o).1⟩)))) := by
  by_cases v : 0 ≤ c ∧ c < 16 ∧ 1 ≤ n ∧ n ≤ 1073741824
  · have hc : 0 ≤ c ∧ c < 16 := ⟨v.1, v.2.1⟩
    have hx := next_of (k := k) (s := ⟨T, Q⟩) (o := o) v
    unfold shard_Shard_next.j1 at hx
    rw [if_neg (by simp), bind_eq (right_eq o)] at hx
    by_cases R : right o = true
    · rw [if_pos R] at hx
      simp only [Option.bind_some] at hx
      rw [if_pos hc] at hx
      by_cases c1 : n < (rd Q c).Seq
      · rw [if_pos c1] at hx
        exact .inl ⟨141, by decide, do_none hx (by decide), .inr (.inr (.inl c1))⟩
      · rw [if_neg c1, if_pos hc] at hx
        by_cases c2 : (rd Q c).Seq = n
        · rw [if_pos c2, if_pos hc] at hx
          rw [bind_eq (own_eq (q := api_Seat.mk (rd Q c).Client (rd Q c).Seq (rd Q c).Answer) ⟨(hS.mem hc).key, (hS.mem hc).val⟩)] at hx
          exact .inr ⟨⟨v.1, v.2.1, v.2.2.1⟩, .inl ⟨c2, do_self hx⟩⟩
        · rw [if_neg c2] at hx
          obtain ⟨T', eT, RT⟩ := do_step hk hr hS.rep o
          have ec : shard_Shard_Copy.f (some ⟨T, Q⟩) = some (some ⟨T, Q⟩) := by
            unfold shard_Shard_Copy.f
            rw [if_neg (by simp), Option.bind_some, bind_eq (copy_eq hS.rep)]
          rw [bind_eq ec, Option.bind_some, bind_eq eT] at hx
          unfold shard_Shard_next.j2 at hx
          rw [if_pos (act_zero R)] at hx
          by_cases K : o.Kind = 1 ∨ o.Kind = 5
          · have hx' : shard_Shard_next.f k (some ⟨T, Q⟩) c n o = some (none, (act st.1 st.2 o).1, false, 0) := by
              rw [hx]
              rcases K with K | K
              · rw [if_pos K]; rfl
              · rw [if_neg (by omega), decide_eq_true K]; rfl
            exact .inr ⟨⟨v.1, v.2.1, v.2.2.1⟩, .inr ⟨by omega, R, .inl ⟨K, do_self hx'⟩⟩⟩
          · have hsh := act_short (o := o) hS.rep.inv
            have hq : QB ⟨c, n, (act st.1 st.2 o).1⟩ := ⟨by have := hsh.1; show (act st.1 st.2 o).1.Key.length ≤ 1000; omega, by have := hsh.2; show (act st.1 st.2 o).1.Value.length ≤ 1000; omega⟩
            have hS' := hS.set RT c.toNat hq
            obtain ⟨z, ez, hz⟩ := Size_tot hk hr' hS'.rep hS'.len hS'.qb
            rw [if_neg (fun q => K (.inl q)), decide_eq_false (fun q => K (.inr q))] at hx
            unfold shard_Shard_next.j3 shard_Shard_next.j4 at hx
            rw [if_neg (by simp), bind_eq (own_eq hq), if_pos hc, bind_eq ez] at hx
            by_cases big : 262144 < z
            · rw [if_pos big] at hx
              exact .inl ⟨142, by decide, do_none hx (by decide), .inr (.inr (.inr (by omega)))⟩
            · rw [if_neg big] at hx
              exact .inr ⟨⟨v.1, v.2.1, v.2.2.1⟩, .inr ⟨by omega, R, .inr ⟨K, T', _, do_new hx, hS', rfl⟩⟩⟩
    · rw [if_neg R] at hx
      exact .inl ⟨131, by decide, do_none hx (by decide), .inr (.inl (by simpa using R))⟩
  · exact .inl ⟨2, by decide, do_none (next_bad v) (by decide), .inl v⟩
theorem Seat_eq {T : Option Tab} {Q : List api_Seat} {st : St} (hS : SI T Q st) (c : Int) :
    (¬ (0 ≤ c ∧ c < 16) ∧ shard_Shard_Seat.f (some ⟨T, Q⟩) c = some (zeroQ, false)) ∨ ((0 ≤ c ∧ c < 16) ∧ (((rd Q c).Seq = 0 ∧ shard_Shard_Seat.f (some ⟨T, Q⟩) c = some (zeroQ, false)) ∨ ((rd Q c).Seq ≠ 0 ∧ shard_Shard_Seat.f (some ⟨T, Q⟩) c = some (rd Q c, true)))) := by
  unfold shard_Shard_Seat.f
  rw [if_neg (by simp)]
  by_cases hc : 0 ≤ c ∧ c < 16
  · right
    refine ⟨hc, ?_⟩
    rw [if_neg (by omega), if_neg (by omega), Option.bind_some, if_pos hc]
    by_cases z : (rd Q c).Seq = 0
    · exact .inl ⟨z, by rw [decide_eq_true z]; rfl⟩
    · refine .inr ⟨z, ?_⟩
      rw [decide_eq_false z]
      unfold shard_Shard_Seat.j1
      rw [if_neg (by simp), Option.bind_some, if_pos hc, bind_eq (own_eq (q := api_Seat.mk (rd Q c).Client (rd Q c).Seq (rd Q c).Answer) ⟨(hS.mem hc).key, (hS.mem hc).val⟩)]
  · left
    refine ⟨hc, ?_⟩
    split
    · rfl
    · rw [if_pos (by omega)]; rfl
/-! ### comparisons -/
theorem same_loop (a b : List Int) (hl : a.length = b.length) : ∀ (n i m : Nat), i + n = a.length → n < m → a.length < 4000000000 →
    loop (fun (s_ : Int) => haulagelaw14_same.b1 a b s_) m (i : Int) = some (if a.drop i = b.drop i then Sum.inl () else Sum.inr false)
  | _, _, 0, _, h, _ => absurd h (by omega)
  | 0, i, m + 1, h, _, _ => by
    refine loop_done ?_
    unfold haulagelaw14_same.b1
    rw [if_neg (by omega), if_pos]
    rw [List.drop_of_length_le (by omega), List.drop_of_length_le (by omega)]
  | n + 1, i, m + 1, h, hm, hb => by
    have hi : i < a.length := by omega
    have hj : i < b.length := by omega
    rw [List.drop_eq_getElem_cons hi, List.drop_eq_getElem_cons hj]
    by_cases c : a[i] = b[i]
    · rw [loop_next (s' := ((i + 1 : Nat) : Int)), same_loop a b hl n (i + 1) m (by omega) (by omega) hb]
      · simp only [c, List.cons.injEq, true_and]
      · unfold haulagelaw14_same.b1
        rw [if_pos (by omega), if_pos (by omega), if_pos (by omega), rd_eq hi, rd_eq hj, if_pos c, wrS i (by omega)]
    · rw [if_neg (by simp only [List.cons.injEq, c, false_and, not_false_eq_true])]
      refine loop_done ?_
      unfold haulagelaw14_same.b1
      rw [if_pos (by omega), if_pos (by omega), if_pos (by omega), rd_eq hi, rd_eq hj, if_neg c]
theorem same_eq {k : Nat} (hk : Fuel k) (a b : List Int) (h : a.length < 4000000000 ∨ b.length < 4000000000) : haulagelaw14_same.f k a b = some (decide (a = b)) := by
  have h24 : 1099511627776 ≤ k := hk
  unfold haulagelaw14_same.f
  by_cases c : a.length = b.length
  · rw [if_pos (by omega), show (0 : Int) = ((0 : Nat) : Int) from rfl, bind_eq (same_loop a b c a.length 0 k (by omega) (by omega) (by omega))]
    simp only [List.drop_zero]
    by_cases e : a = b
    · simp [e, haulagelaw14_same.j2]
    · simp [e]
  · rw [if_neg (by omega), decide_eq_false (fun e => c (by rw [e]))]
theorem same_refl {k : Nat} (hk : Fuel k) {a : List Int} (h : a.length < 4000000000) : haulagelaw14_same.f k a a = some true := by rw [same_eq hk a a (.inl h)]; simp
theorem sameAnswer_refl {k : Nat} (hk : Fuel k) {a : api_Answer} (h1 : a.Key.length < 4000000000) (h2 : a.Value.length < 4000000000) : haulagelaw14_sameAnswer.f k a a = some true := by
  unfold haulagelaw14_sameAnswer.f
  rw [if_pos (by simp), bind_eq (same_refl hk h1), if_pos rfl, bind_eq (same_refl hk h2), if_pos rfl, if_pos rfl]
  simp
theorem sameRows_refl {k : Nat} (hk : Fuel k) {R : List api_Row} (hl : R.length < 4000000000) (h : ∀ x ∈ R, x.Key.length < 4000000000 ∧ x.Value.length < 4000000000) : haulagelaw14_sameRows.f k R R = some true := by
  have h24 : 1099511627776 ≤ k := hk
  unfold haulagelaw14_sameRows.f
  rw [if_pos rfl]
  have L := loop_inv (f := fun (s_ : Int) => haulagelaw14_sameRows.b2 k R R s_) (I := fun i s => s = (i : Int)) (P := fun x => x = .inl ()) (N := R.length) ?_ ?_ R.length 0 0 k rfl (by omega) (by omega)
  · obtain ⟨x, e, rfl⟩ := L
    rw [bind_eq e]
    rfl
  · rintro i _ hi rfl
    left
    have hx := h (rd R (i : Int)) (by rw [rd_eq hi]; exact List.getElem_mem _)
    refine ⟨_, ?_, rfl⟩
    simp only [haulagelaw14_sameRows.b2, haulagelaw14_sameRows.j1]
    rw [if_pos (by omega), if_pos (by omega), if_pos (by omega), bind_eq (same_refl hk hx.1), if_pos rfl, if_pos (by omega), if_pos (by omega), bind_eq (same_refl hk hx.2), if_pos rfl, if_pos (by omega), if_pos (by omega), if_neg (by simp), wrS i (by omega)]
  · rintro _ rfl
    refine ⟨_, ?_, rfl⟩
    simp only [haulagelaw14_sameRows.b2]
    rw [if_neg (by omega)]
end Go.Proofs.Ythankpjbfpcldaa.G
/-! The plain law of ShardTable: the closed run and the loop. -/
namespace Go.Proofs.Ythankpjbfpcldaa.G
open Go
set_option linter.unusedVariables false
set_option linter.unusedSimpArgs false
abbrev Q0 : List api_Seat := List.replicate 16 zeroQ
theorem rd_Q0 {i : Nat} (hi : i < 16) : rd Q0 (i : Int) = zeroQ := by rw [rd_eq (by simpa using hi)]; exact List.getElem_replicate _
theorem new_si : ∃ t, table_New.f = some t ∧ shard_New.f = some (some ⟨t, Q0⟩) ∧ SI t Q0 ([], 0) := by
  obtain ⟨t, e, R⟩ := new_rep
  refine ⟨t, e, ?_, R, by simp, fun q hq => ?_⟩
  · unfold shard_New.f; rw [bind_eq e]
  · obtain rfl := (List.mem_replicate.1 hq).2
    exact ⟨by simp, by simp⟩
theorem lay_zero {k : Nat} (hk : Fuel k) {b : List Int} (hb : b.length ≤ 1000) : shard_seats_lay.f k Q0 (W 1048576 b) = some (W 1048576 (b ++ fm 0)) := by
  have h24 : 1099511627776 ≤ k := hk
  have f0 := fm_len 0; have n0 := nm_le 0
  unfold shard_seats_lay.f
  have L := loop_inv (f := fun (s_ : Int × Int) => shard_seats_lay.b1 Q0 s_.1 s_.2) (I := fun i s => s = (0, (i : Int))) (P := fun x => x = 0) (N := 16) ?_ ?_ 16 0 (0, 0) k rfl rfl (by omega)
  · obtain ⟨x, e, rfl⟩ := L
    rw [bind_eq e]
    unfold shard_seats_lay.j2
    rw [wru (by omega) (by omega), show ((0 : Int)) = ((0 : Nat) : Int) from rfl, bind_eq (Num_eq hk (room := 1048576) (b := b) (n := 0) (by omega) (by omega) (by omega))]
    have M := loop_inv (f := fun (s_ : (Option Wri) × Int) => shard_seats_lay.b5 k Q0 s_.1 s_.2) (I := fun i s => s = (W 1048576 (b ++ fm 0), (i : Int))) (P := fun x => x = W 1048576 (b ++ fm 0)) (N := 16) ?_ ?_ 16 0 (W 1048576 (b ++ fm 0), 0) k rfl rfl (by omega)
    · obtain ⟨x, e, rfl⟩ := M
      have e' : loop (fun (s_ : (Option Wri) × Int) => shard_seats_lay.b5 k Q0 s_.1 s_.2) k (W 1048576 (b ++ fm 0), ((0 : Nat) : Int)) = some (W 1048576 (b ++ fm 0)) := e
      rw [bind_eq e']; rfl
    · rintro i _ hi rfl
      left
      refine ⟨_, ?_, rfl⟩
      simp only [shard_seats_lay.b5]
      rw [if_pos (by omega), if_pos (by omega), rd_Q0 hi, if_pos rfl, wrS i (by omega)]
    · rintro _ rfl
      refine ⟨_, ?_, rfl⟩
      simp only [shard_seats_lay.b5]
      rw [if_neg (by omega)]
  · rintro i _ hi rfl
    left
    refine ⟨_, ?_, rfl⟩
    simp only [shard_seats_lay.b1]
    rw [if_pos (by omega), if_pos (by omega), rd_Q0 hi, if_neg (by simp), wrS i (by omega)]
  · rintro _ rfl
    refine ⟨_, ?_, rfl⟩
    simp only [shard_seats_lay.b1]
    rw [if_neg (by omega)]
theorem Export_zero {k : Nat} (hk : Fuel k) {t : Option Tab} (hR : RepS t ([], 0)) : shard_Shard_Export.f k (some ⟨t, Q0⟩) = some [2, 0, 0, 0] := by
  have ef : form ([], 0) = [0, 0] := by decide
  have f2 : fm 2 = [2] := by decide
  have f0 : fm 0 = [0] := by decide
  unfold shard_Shard_Export.f
  rw [if_neg (by simp), bind_eq (show parcel_New.f 1048576 = some (W 1048576 []) from rfl), Option.bind_some, bind_eq (bytes_eq hk (by simp) hR), ef,
    bind_eq (Text_eq hk (by simp [f2]) (by omega))]
  simp only [List.length_cons, List.length_nil, Nat.zero_add, Nat.reduceAdd, f2, List.nil_append]
  rw [bind_eq (lay_zero hk (by simp)), bind_eq (done_eq (by simp [f0])), f0]
  rfl
theorem Size_zero {k : Nat} (hk : Fuel k) {t : Option Tab} (hR : RepS t ([], 0)) : shard_Shard_Size.f k (some ⟨t, Q0⟩) = some 4 := by
  have f0 : fm 0 = [0] := by decide
  have es : (nm (([] : List Ent), 0).2 + nm (([] : List Ent), 0).1.length + sz (([] : List Ent), 0).1 : Int) = ((2 : Nat) : Int) := by decide
  have eb : shard_seats_bytes.f k Q0 = some [0] := by
    unfold shard_seats_bytes.f
    rw [bind_eq (show parcel_New.f 1048576 = some (W 1048576 []) from rfl), bind_eq (lay_zero hk (by simp)), bind_eq (done_eq (by simp [f0])), f0]
    rfl
  unfold shard_Shard_Size.f
  rw [if_neg (by simp), Option.bind_some, bind_eq (size_eq hk (by simp) hR), es, bind_eq (numSize_eq hk (by omega)), bind_eq eb]
  decide
theorem SRev_eq {T : Option Tab} {Q : List api_Seat} {st : St} (h : SI T Q st) : shard_Shard_Rev.f (some ⟨T, Q⟩) = some (st.2 : Int) := by
  unfold shard_Shard_Rev.f; rw [if_neg (by simp), Option.bind_some, bind_eq (Rev_eq h.rep)]
theorem SLen_eq {T : Option Tab} {Q : List api_Seat} {st : St} (h : SI T Q st) : shard_Shard_Len.f (some ⟨T, Q⟩) = some (st.1.length : Int) := by
  unfold shard_Shard_Len.f; rw [if_neg (by simp), Option.bind_some, bind_eq (Len_eq h.rep)]
theorem SRows_eq {T : Option Tab} {Q : List api_Seat} {st : St} (hr : st.2 < 4194304) (h : SI T Q st) : shard_Shard_Rows.f (some ⟨T, Q⟩) = some (st.1.map rowOf) := by
  unfold shard_Shard_Rows.f; rw [if_neg (by simp), Option.bind_some, bind_eq (Rows_eq hr h.rep)]
theorem act1 : act [] 0 (api_Op.mk 2 [97] [49] 0) = (⟨true, [], [], 0, 1⟩, 0, [(bs [97], ⟨[49], 1⟩)], 1) := by
  simp [act, right, keyok, look, ins, told]
theorem act2 : act [(bs [97], ⟨[49], 1⟩)] 1 (api_Op.mk 1 [97] [] 0) = (⟨true, sb (bs [97]), [49], 1, 1⟩, 0, [(bs [97], ⟨[49], 1⟩)], 1) := by
  simp [act, right, keyok, look, ins, told, lt_irr]
theorem putop_eq : haulagelaw14_put.f ({ data := #[97] }) ({ data := #[49] }) = some (api_Op.mk 2 [97] [49] 0) := by
  unfold haulagelaw14_put.f
  rw [if_pos (by decide), if_pos (by decide)]; rfl
theorem get_eq' : haulagelaw14_get.f ({ data := #[97] }) = some (api_Op.mk 1 [97] [] 0) := by
  unfold haulagelaw14_get.f
  rw [if_pos (by decide)]; rfl
theorem known_eq {k : Nat} (hk : Fuel k) : haulagelaw14_known.f k = some true := by
  obtain ⟨t, _, eN, S0⟩ := new_si
  have st1 : stepS ([], 0) (api_Op.mk 2 [97] [49] 0) = ([(bs [97], ⟨[49], 1⟩)], 1) := by unfold stepS; simp only; rw [act1]
  have st2 : stepS ([(bs [97], ⟨[49], 1⟩)], 1) (api_Op.mk 2 [97] [49] 0) = ([(bs [97], ⟨[49], 2⟩)], 2) := by unfold stepS; simp [act, right, keyok, look, ins, told, lt_irr]
  have st3 : stepS ([(bs [97], ⟨[49], 1⟩)], 1) (api_Op.mk 1 [97] [] 0) = ([(bs [97], ⟨[49], 1⟩)], 1) := by unfold stepS; simp only; rw [act2]
  have r1 : right (api_Op.mk 2 [97] [49] 0) = true := by decide
  have r2 : right (api_Op.mk 1 [97] [] 0) = true := by decide
  have z1 : ¬ (200000 < sz [(bs [97], ⟨[49], 1⟩)]) := by decide
  have z2 : ¬ (200000 < sz [(bs [97], ⟨[49], 2⟩)]) := by decide
  obtain ⟨T1, Q1, e1, S1, q1⟩ : ∃ T1 Q1, shard_Shard_Do.f k (some ⟨t, Q0⟩) 3 1 (api_Op.mk 2 [97] [49] 0) = some (⟨true, [], [], 0, 1⟩, true, 0, some ⟨T1, Q1⟩) ∧ SI T1 Q1 ([(bs [97], ⟨[49], 1⟩)], 1) ∧ rd Q1 3 = ⟨3, 1, ⟨true, [], [], 0, 1⟩⟩ := by
    have s0 : (rd Q0 3).Seq = 0 := rfl
    rcases sh_do hk (by simp) S0 3 1 (api_Op.mk 2 [97] [49] 0) (by rw [st1]; simp) with ⟨e, _, _, h | h | h | h⟩ | ⟨_, ⟨h, _⟩ | ⟨_, _, ⟨h, _⟩ | ⟨_, T', Q', e, S', hq⟩⟩⟩
    · omega
    · rw [r1] at h; cases h
    · rw [s0] at h; omega
    · rw [st1] at h; exact absurd h z1
    · rw [s0] at h; omega
    · simp at h
    · rw [act1] at e hq
      rw [st1] at S'
      exact ⟨T', Q', e, S', by rw [hq]; rfl⟩
  have e2 : shard_Shard_Do.f k (some ⟨T1, Q1⟩) 3 1 (api_Op.mk 2 [97] [49] 0) = some (⟨true, [], [], 0, 1⟩, false, 0, some ⟨T1, Q1⟩) := by
    rcases sh_do hk (by simp) S1 3 1 (api_Op.mk 2 [97] [49] 0) (by rw [st2]; simp) with ⟨e, _, _, h | h | h | h⟩ | ⟨_, ⟨h, e⟩ | ⟨h, _⟩⟩
    · omega
    · rw [r1] at h; cases h
    · rw [q1] at h; simp only at h; omega
    · rw [st2] at h; exact absurd h z2
    · rw [e, q1]
    · rw [q1] at h; simp only at h; omega
  have e3 : shard_Shard_Do.f k (some ⟨T1, Q1⟩) 3 2 (api_Op.mk 1 [97] [] 0) = some (⟨true, sb (bs [97]), [49], 1, 1⟩, false, 0, some ⟨T1, Q1⟩) := by
    rcases sh_do hk (by simp) S1 3 2 (api_Op.mk 1 [97] [] 0) (by rw [st3]; simp) with ⟨e, _, _, h | h | h | h⟩ | ⟨_, ⟨h, e⟩ | ⟨_, _, ⟨h, e⟩ | ⟨h, _⟩⟩⟩
    · omega
    · rw [r2] at h; cases h
    · rw [q1] at h; simp only at h; omega
    · rw [st3] at h; exact absurd h z1
    · rw [q1] at h; simp only at h; omega
    · rw [e]; simp only; rw [act2]
    · simp at h
  unfold haulagelaw14_known.f
  rw [bind_eq eN, if_neg (by simp), bind_eq (Export_zero hk S0.rep), bind_eq (same_refl hk (by simp)), if_pos rfl, bind_eq (Size_zero hk S0.rep)]
  unfold haulagelaw14_known.j1
  rw [if_neg (by simp), bind_eq putop_eq, bind_eq e1, bind_eq putop_eq]
  simp only
  rw [bind_eq e2, bind_eq get_eq']
  simp only
  rw [bind_eq e3]
  unfold haulagelaw14_num.f
  simp only [Option.bind_some, if_true, Bool.false_eq_true, if_false]
  rw [bind_eq (sameAnswer_refl hk (by simp) (by simp))]
  unfold haulagelaw14_known.j2
  have eb : sb (bs [97]) = [97] := by decide
  simp only [Bool.not_true, Bool.false_eq_true, if_false, if_true, eb]
  rw [bind_eq (same_refl hk (by simp)), if_pos rfl, bind_eq (same_refl hk (by simp)), if_pos rfl, bind_eq (SRev_eq S1), if_pos (by simp), bind_eq (SLen_eq S1)]
  simp
theorem ShardTable_true {k : Nat} (hk : Fuel k) (ops : List haulagelaw14_Step) (hn : ops.length < 4000000) : haulagelaw14_ShardTable.f k ops = some true := by
  have h24 : 1099511627776 ≤ k := hk
  obtain ⟨t, eT, eN, S0⟩ := new_si
  unfold haulagelaw14_ShardTable.f
  rw [bind_eq (known_eq hk), if_pos rfl, bind_eq eN, bind_eq eT]
  have L := loop_inv (f := fun (s_ : (Option Sha) × (Option Tab) × Int) => haulagelaw14_ShardTable.b7 k ops s_.1 s_.2.1 s_.2.2)
    (I := fun i s => ∃ T Q t st, s = (some ⟨T, Q⟩, t, (i : Int)) ∧ SI T Q st ∧ RepS t st ∧ st.2 ≤ i)
    (P := fun x => ∃ T Q t st, x = .inl (some ⟨T, Q⟩, t) ∧ SI T Q st ∧ RepS t st ∧ st.2 ≤ ops.length) (N := ops.length) ?_ ?_ ops.length 0 (some ⟨t, Q0⟩, t, 0) k ⟨t, Q0, t, ([], 0), rfl, S0, S0.rep, Nat.le_refl _⟩ (by omega) (by omega)
  · obtain ⟨x, ex, T, Q, u, st, rfl, hS, hT, hst⟩ := L
    rw [bind_eq ex]
    have hr : st.2 < 4194304 := by omega
    have hlen := hS.rep.inv.len
    simp only [haulagelaw14_ShardTable.j8]
    rw [bind_eq (SRows_eq hr hS), bind_eq (Rows_eq hr hT), bind_eq (sameRows_refl hk (by rw [List.length_map]; omega) fun x hx => by
      obtain ⟨e, he, rfl⟩ := List.mem_map.1 hx
      have := hS.rep.inv.ent e he
      exact ⟨by show (sb e.1).length < _; rw [sb_len]; omega, by show e.2.value.length < _; omega⟩), if_pos rfl, bind_eq (SRev_eq hS), bind_eq (Rev_eq hT), if_pos rfl, bind_eq (SLen_eq hS), bind_eq (Len_eq hT)]
    simp
  · rintro i _ hi ⟨T, Q, u, st, rfl, hS, hT, hst⟩
    left
    have hsr := step_r st (rd ops (i : Int)).Op
    have hbase : ∀ (q : api_Seat × Bool) (d : api_Answer × Bool × Int × Option Sha), shard_Shard_Seat.f (some ⟨T, Q⟩) (rd ops (i : Int)).Client = some q → shard_Shard_Do.f k (some ⟨T, Q⟩) (rd ops (i : Int)).Client (rd ops (i : Int)).Seq (rd ops (i : Int)).Op = some d →
        haulagelaw14_ShardTable.b7 k ops (some ⟨T, Q⟩) u (i : Int) = (if d.2.2.1 = 0 then (if q.2 = true then haulagelaw14_ShardTable.j4 k ops d u (i : Int) (decide ((rd ops (i : Int)).Seq ≤ q.1.Seq)) else haulagelaw14_ShardTable.j4 k ops d u (i : Int) false) else haulagelaw14_ShardTable.j4 k ops d u (i : Int) true) := by
      intro q d h1 h2
      unfold haulagelaw14_ShardTable.b7 haulagelaw14_num.f
      rw [if_pos (by omega), if_pos (by omega), bind_eq h1, bind_eq h2, Option.bind_some]
    have hj4 : ∀ d : api_Answer × Bool × Int × Option Sha, haulagelaw14_ShardTable.j4 k ops d u (i : Int) true = some (.next (d.2.2.2, u, ((i + 1 : Nat) : Int))) := by
      intro d
      unfold haulagelaw14_ShardTable.j4
      rw [if_pos rfl, wrS i (by omega)]
    obtain ⟨q, hq⟩ : ∃ q, shard_Shard_Seat.f (some ⟨T, Q⟩) (rd ops (i : Int)).Client = some q := by
      rcases Seat_eq hS (rd ops (i : Int)).Client with ⟨_, h⟩ | ⟨_, ⟨_, h⟩ | ⟨_, h⟩⟩ <;> exact ⟨_, h⟩
    show ∃ s', haulagelaw14_ShardTable.b7 k ops (some ⟨T, Q⟩) u (i : Int) = some (.next s') ∧ _
    rcases sh_do hk (by omega) hS (rd ops (i : Int)).Client (rd ops (i : Int)).Seq (rd ops (i : Int)).Op (by omega) with ⟨e, he, hd, _⟩ | ⟨hv, ⟨hs, hd⟩ | ⟨hs, hR, hrest⟩⟩
    · rw [hbase _ _ hq hd, if_neg he, hj4]
      exact ⟨_, rfl, T, Q, u, st, rfl, hS, hT, by omega⟩
    · have hq2 : shard_Shard_Seat.f (some ⟨T, Q⟩) (rd ops (i : Int)).Client = some (rd Q (rd ops (i : Int)).Client, true) := by
        rcases Seat_eq hS (rd ops (i : Int)).Client with ⟨h, _⟩ | ⟨_, ⟨h, _⟩ | ⟨_, h⟩⟩
        · omega
        · omega
        · exact h
      rw [hbase _ _ hq2 hd, if_pos rfl, if_pos rfl, decide_eq_true (by simp only; omega), hj4]
      exact ⟨_, rfl, T, Q, u, st, rfl, hS, hT, by omega⟩
    · have hb2 : ∀ d : api_Answer × Bool × Int × Option Sha, d.2.2.1 = 0 → shard_Shard_Do.f k (some ⟨T, Q⟩) (rd ops (i : Int)).Client (rd ops (i : Int)).Seq (rd ops (i : Int)).Op = some d → haulagelaw14_ShardTable.b7 k ops (some ⟨T, Q⟩) u (i : Int) = haulagelaw14_ShardTable.j4 k ops d u (i : Int) false := by
        intro d h0 hd
        rcases Seat_eq hS (rd ops (i : Int)).Client with ⟨h, _⟩ | ⟨_, ⟨_, h⟩ | ⟨_, h⟩⟩
        · omega
        · rw [hbase _ _ h hd, if_pos h0, if_neg (by simp)]
        · rw [hbase _ _ h hd, if_pos h0, if_pos rfl, decide_eq_false (by simp only; omega)]
      obtain ⟨u', eu, Ru⟩ := do_step hk (by omega) hT (rd ops (i : Int)).Op
      have hsh := act_short (o := (rd ops (i : Int)).Op) hS.rep.inv
      have hj5 : ∀ (ch : Bool) (s' : Option Sha), haulagelaw14_ShardTable.j5 k ((act st.1 st.2 (rd ops (i : Int)).Op).1, ch, 0, s') ((act st.1 st.2 (rd ops (i : Int)).Op).1, (act st.1 st.2 (rd ops (i : Int)).Op).2.1, u') (i : Int) ch = some (.next (s', u', ((i + 1 : Nat) : Int))) := by
        intro ch s'
        unfold haulagelaw14_ShardTable.j5 haulagelaw14_num.f haulagelaw14_ShardTable.j6
        rw [Option.bind_some, if_pos (act_zero hR), bind_eq (sameAnswer_refl hk (by show (act st.1 st.2 (rd ops (i : Int)).Op).1.Key.length < _; omega) (by show (act st.1 st.2 (rd ops (i : Int)).Op).1.Value.length < _; omega)), if_pos rfl, if_neg (by simp), wrS i (by omega)]
      have hkind := (right_key hR).2.2.2
      rcases hrest with ⟨K, hd⟩ | ⟨K, T', Q', hd, hS', _⟩
      · rw [hb2 _ rfl hd]
        unfold haulagelaw14_ShardTable.j4
        rw [if_neg (by simp), bind_eq eu, if_neg (by omega), if_neg (by omega), decide_eq_false (by omega), hj5]
        have hst' : stepS st (rd ops (i : Int)).Op = st := act_read K
        rw [hst'] at Ru
        exact ⟨_, rfl, T, Q, u', st, rfl, hS, Ru, by omega⟩
      · rw [hb2 _ rfl hd]
        unfold haulagelaw14_ShardTable.j4
        rw [if_neg (by simp), bind_eq eu]
        have fin : ∃ s', some (Ctl.next (X := Sum ((Option Sha) × (Option Tab)) Bool) (some (Sha.mk T' Q'), u', ((i + 1 : Nat) : Int))) = some (.next s') ∧ ∃ T Q t st, s' = (some ⟨T, Q⟩, t, ((i + 1 : Nat) : Int)) ∧ SI T Q st ∧ RepS t st ∧ st.2 ≤ i + 1 :=
          ⟨_, rfl, T', Q', u', _, rfl, hS', Ru, by omega⟩
        by_cases c2 : (rd ops (i : Int)).Op.Kind = 2
        · rw [if_pos c2, hj5]; exact fin
        · rw [if_neg c2]
          by_cases c3 : (rd ops (i : Int)).Op.Kind = 3
          · rw [if_pos c3, hj5]; exact fin
          · rw [if_neg c3, decide_eq_true (by omega), hj5]; exact fin
  · rintro _ ⟨T, Q, u, st, rfl, hS, hT, hst⟩
    refine ⟨.inl (some ⟨T, Q⟩, u), ?_, T, Q, u, st, rfl, hS, hT, hst⟩
    simp only [haulagelaw14_ShardTable.b7]
    rw [if_neg (by omega)]
end Go.Proofs.Ythankpjbfpcldaa.G
/- The row of 'ShardTable' (its '..UptoSaid'): whatever the input of bulk at most 1048576, the law returns true and the input reads as it did. -/
namespace Go.Proofs.Ythankpjbfpcldaa.shardTable
open Go.ChangeShapes Go.WideShapes Go.ChangeAt Go.RowKit
set_option linter.unusedVariables false
set_option maxRecDepth 100000 in
theorem contract (H : Type) (enc : TypeId × Value → H) (W : World) (base : Nat) (args : Array Value) (ds gs : List (DataW H)) (before : List MemPlace)
    (hval : ∀ (j : Nat) t v, Try.f3.params[j]? = some t → args[j]? = some v → Value.okWide Try.prog W .any base t v)
    (hW : DataW.Whole enc Try.prog Try.f3.params.toList Rows.shardTableSpec.vars false W args.toList ds gs before) (hk : Rows.uptoSmall H (ds ++ gs) = true) :
    Calls Try.prog 3 args W fun e W' => ∃ v, e = .returned v ∧ Rows.shardTableSpec.post enc Try.prog Try.f3 false true false false W args v W' := by
  have hW' := hW
  obtain ⟨p, q, hA0, hV, rfl, hfz, hnd⟩ := hW
  have hA : DataW.TrodAll enc Try.prog W 0 (fun _ => true) true Try.f3.params.toList args.toList ds p := hA0
  rw [Try.params3] at hA hval
  obtain ⟨v0, vs0, d0, ds0, p0, q0, hargs, rfl, rfl, h0, r0⟩ := trodAll_cons hA
  obtain ⟨rfl, rfl, rfl⟩ := trodAll_nil r0
  obtain rfl : args = #[v0] := by cases args; simp_all
  obtain ⟨rfl, rfl⟩ := trodVars_none hV
  have k0 := h0
  have lt0 : ∀ x ∈ p0, x.block < W.heap.size := by obtain ⟨m, hm⟩ := k0; exact DataW.trod_lt m _ _ _ hm
  obtain ⟨A0, C0, a0, rfl, s0, b0, o0⟩ := G.arg_steps (okWide_slice Try.underlying22 (hval 0 22 v0 rfl rfl)) h0
  have l0 := G.len_sum G.wt_haulagelaw14_Step G.wt_haulagelaw14_Step_pos a0
  have hb : Rows.uptoBulkAll [d0] ≤ 1048576 := of_decide_eq_true hk
  simp only [Rows.uptoBulkAll] at hb
  refine (G.haulagelaw14_ShardTable.calls 1099511627776 (m := 1) (c0 := G.c0) (w0 := W) (Nat.lt_succ_self 0) (fun _ _ => Nat.lt_succ_self 0) s0 true (G.ShardTable_true (k := 1099511627776) (Nat.le_refl _) _ (by omega))).mono fun e W' ⟨c_, he, ev_, _⟩ => ?_
  subst he
  have bel : Below W.heap.size W W' := G.Ev.below ev_
  exact ⟨_, rfl, _, _, _, [], _, [], hW', trodAll_mk1 (shut_bool Try.underlying4 _), (trodAll_cons_mk (Below.trod G.row_laidOut (by kernel_rfl) (of_decide_eq_true (by kernel_rfl)) k0 bel lt0) trodAll_mk0), rfl, bel.frame _, fun h => by cases h⟩
set_option maxRecDepth 100000 in
theorem lifted (os : Os) (started : os.Started) (H : Type) (enc : TypeId × Value → H) (F : Stop.Interp) :
    ReturnsInHanded {} Try.checked os 3 .any ((Rows.OpenSpec.upto Rows.shardTableSpec).pre6 enc Try.prog Try.f3 Rows.shardTableUptoRow.domain false) (((Rows.OpenSpec.upto Rows.shardTableSpec).at F).post enc Try.prog Try.f3 false true false false) := by
  refine returnsInHanded_of_cond (C := Try.checked) (s := Rows.OpenSpec.upto Rows.shardTableSpec) (k := Rows.uptoSmall) rfl G.row_own started (by kernel_rfl) Try.func3
    (OpenSpec.witness (enc := enc) (C := Try.checked) (s := Rows.OpenSpec.upto Rows.shardTableSpec) (k := Rows.uptoSmall) rfl false ⟨#[], #[.slice none 0 0], []⟩ 8 (by kernel_rfl) (by kernel_rfl) (by kernel_rfl)
      (x := ([.nil], [], [])) (by kernel_rfl) rfl (by kernel_rfl)) ?_
  intro W base args ds gs before hval hW _ hk _
  exact contract H enc W base args ds gs before hval hW hk
theorem over : Rows.shardTableUptoRow.holds Try.pinned (Rows.OpenSpec.upto Rows.shardTableSpec) :=
  OpenClaim.holds_of_cond 3 Try.f3 rfl rfl rfl rfl rfl rfl rfl ⟨rfl, rfl, rfl, rfl, rfl⟩ rfl rfl rfl rfl rfl (by kernel_rfl) Try.func3 (by kernel_rfl)
    (of_decide_eq_true (by kernel_rfl)) (by unfold Func.isWrapper; first | (rw [if_pos (by decide +kernel)]; kernel_rfl) | (rw [if_neg (by decide +kernel)]; exact ⟨rfl, rfl⟩))
    (fun os started H enc _ F => lifted os started H enc F)
theorem proved : Rows.ShardTableUptoSaid := over
end Go.Proofs.Ythankpjbfpcldaa.shardTable
namespace Go.Proofs.Ythankpjbfpcldaa
/-- The row, under a short name, for the claim. -/
theorem shardTable_holds : Rows.ShardTableUptoSaid := shardTable.proved
end Go.Proofs.Ythankpjbfpcldaa
