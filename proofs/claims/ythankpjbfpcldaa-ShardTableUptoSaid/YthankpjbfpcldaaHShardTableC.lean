/- Words, contracts and plain laws on which the row of 'ShardTable' hangs (its '..UptoSaid': inputs of bulk at most 1048576). -/
import Derived.Test.YthankpjbfpcldaaHShardTableB
import Derived.WalkSpells
namespace Go.Proofs.Ythankpjbfpcldaa.G
open Go Go.RowKit
set_option linter.unusedVariables false
set_option linter.unusedSimpArgs false
set_option maxRecDepth 100000 in
set_option maxHeartbeats 4000000 in
theorem table_Right.calls {m : Nat} {c0 : Nat → Nat} {w0 : World} {A2 : Option Addr} {C3 : Nat} {A5 : Option Addr} {C6 : Nat} {a1 : api_Op} (hm0 : 0 < m) (B0 : CB m c0 w0) (h4 : SL false (Kint .u8) 0 0 c0 w0 A2 C3 a1.Key) (h7 : SL false (Kint .u8) 0 0 c0 w0 A5 C6 a1.Value) (r : Bool) (H : table_Right.f a1 = some r) : Calls Try.prog 24 #[.agg #[.int .i64 a1.Kind, .slice A2 a1.Key.length C3, .slice A5 a1.Value.length C6, .int .i64 a1.Rev]] w0 (fun e w_ => ∃ (c_ : Nat → Nat), e = .returned (.bool r) ∧ Ev (fun x => False) c0 w0 c_ w_ ∧ CB m c_ w_) := by
 unfold table_Right.f at H
 have B := B0.mono (show m ≤ m + 2 by omega)
 have E : Ev (fun x => False ∨ m ≤ x) c0 w0 c0 w0 := Ev.refl
 refine enter (N := 57) (l := [.agg #[.int .i64 a1.Kind, .slice A2 a1.Key.length C3, .slice A5 a1.Value.length C6, .int .i64 a1.Rev]]) Try.func24 rfl rfl (Nat.le_of_ble_eq_true rfl) fun a F => ?_
 refine wp_seq_k fun K8 hK8 => ?_
 refine reg ?_
 refine q_eff F rfl rfl (by decide) (e_box F (v := .agg #[.int .i64 a1.Kind, .slice A2 a1.Key.length C3, .slice A5 a1.Value.length C6, .int .i64 a1.Rev]) rfl c0 (m + 1)) ?_
 rintro v w10 a ⟨c9, qa11, rfl, E12, h13, B14⟩ F
 replace B := B14 _ B (Nat.add_lt_add_left (by decide) m)
 replace h4 := SL.ev h4 E12 (fun q => q.elim) (fun q => q.elim)
 replace h7 := SL.ev h7 E12 (fun q => q.elim) (fun q => q.elim)
 replace E := E.trans E12 (fun x q => q.elim)
 replace h13 : AT true (m + 1) c9 w10 qa11 [.int .i64 a1.Kind, .slice A2 a1.Key.length C3, .slice A5 a1.Value.length C6, .int .i64 a1.Rev] := h13
 refine q_val F rfl rfl (by decide) (r_assign F rfl) fun a F => ?_
 refine nil ?_
 refine hK8 _ _ ?_
 refine wp_seq_k fun K16 hK16 => ?_
 have J21 : ∀ (c22 : Nat → Nat) (w23 : World) (a : Act) (b20 : Bool), Fr a 57 [(1, .pointer (some qa11)), (3, .bool b20), (4, .bool (decide ((a1.Value.length : Int) ≤ 256))), (5, .bool (decide (a1.Rev = 0)))] → Ev (fun x => False ∨ m ≤ x) c0 w0 c22 w23 → CB (m + 2) c22 w23 → AT true (m + 1) c22 w23 qa11 [.int .i64 a1.Kind, .slice A2 a1.Key.length C3, .slice A5 a1.Value.length C6, .int .i64 a1.Rev] → SL false (Kint .u8) 0 0 c22 w23 A2 C3 a1.Key → SL false (Kint .u8) 0 0 c22 w23 A5 C6 a1.Value → table_Right.j1 a1 b20 = some r → K16 a w23 := by
  intro c22 w23 a b20 F E B h13 h4 h7 H
  unfold table_Right.j1 at H
  refine hK16 _ _ ?_
  refine wp_seq_k fun K24 hK24 => ?_
  have J61 : ∀ (c62 : Nat → Nat) (w63 : World) (a : Act) (b58 : Bool) (b59 : Bool) (b60 : Bool), Fr a 57 [(3, .bool b58), (4, .bool b59), (5, .bool b60)] → Ev (fun x => False ∨ m ≤ x) c0 w0 c62 w63 → CB (m + 2) c62 w63 → table_Right.j4 b58 b59 b60 = some r → K24 a w63 := by
   intro c62 w63 a b58 b59 b60 F E B  H
   unfold table_Right.j4 at H
   refine hK24 _ _ ?_
   refine wp_seq_k fun K64 hK64 => ?_
   refine reg ?_
   refine q_val F rfl rfl (by decide) (r_move F rfl) fun a F => ?_
   refine q_val F rfl rfl (by decide) (r_move F rfl) fun a F => ?_
   by_cases hb65 : b58 = true
   ·replace H := (if_pos hb65).symm.trans H
    refine q_yes F rfl (by decide) rfl hb65 ?_
    refine q_val F rfl rfl (by decide) (r_move F rfl) fun a F => ?_
    refine q_val F rfl rfl (by decide) (r_pick_t F rfl hb65 rfl) fun a F => ?_
    refine q_val F rfl rfl (by decide) (r_move F rfl) fun a F => ?_
    by_cases hb66 : b59 = true
    ·replace H := (if_pos hb66).symm.trans H
     refine q_yes F rfl (by decide) rfl hb66 ?_
     refine q_val F rfl rfl (by decide) (r_move F rfl) fun a F => ?_
     refine q_val F rfl rfl (by decide) (r_pick_t F rfl hb66 rfl) fun a F => ?_
     refine q_val F rfl rfl (by decide) (r_assign F rfl) fun a F => ?_
     refine nil ?_
     refine hK64 _ _ ?_
     replace F : Fr a 57 [(2, .bool b60)] := F.sub ⟨rfl, trivial⟩
     refine wp_ret ?_
     replace H := Option.some.inj H
     subst H
     refine out1 F rfl rfl ?_
     exact ⟨fun b_ => (fun x_ => if x_ < m then x_ else 0) (c62 b_), rfl, E.leave B0 (fun x_ => if x_ < m then x_ else 0) (by intro x_ hx_; show (if x_ < m then x_ else 0) = x_; ((repeat' split) <;> omega)), (fun b_ hb_ => by show (if (c62 b_) < m then (c62 b_) else 0) < m; ((repeat' split) <;> omega))⟩
    ·replace H := (if_neg hb66).symm.trans H
     refine q_no F rfl (by decide) rfl (bfalse hb66) (by decide) fun a F => ?_
     refine q_val F rfl rfl (by decide) (r_pick_f F rfl (bfalse hb66) rfl) fun a F => ?_
     refine q_val F rfl rfl (by decide) (r_assign F rfl) fun a F => ?_
     refine nil ?_
     refine hK64 _ _ ?_
     replace F : Fr a 57 [(2, .bool false)] := F.sub ⟨rfl, trivial⟩
     refine wp_ret ?_
     replace H := Option.some.inj H
     subst H
     refine out1 F rfl rfl ?_
     exact ⟨fun b_ => (fun x_ => if x_ < m then x_ else 0) (c62 b_), rfl, E.leave B0 (fun x_ => if x_ < m then x_ else 0) (by intro x_ hx_; show (if x_ < m then x_ else 0) = x_; ((repeat' split) <;> omega)), (fun b_ hb_ => by show (if (c62 b_) < m then (c62 b_) else 0) < m; ((repeat' split) <;> omega))⟩
   ·replace H := (if_neg hb65).symm.trans H
    refine q_no F rfl (by decide) rfl (bfalse hb65) (by decide) fun a F => ?_
    refine q_val F rfl rfl (by decide) (r_pick_f F rfl (bfalse hb65) rfl) fun a F => ?_
    refine q_val F rfl rfl (by decide) (r_move F rfl) fun a F => ?_
    refine q_no F rfl (by decide) rfl rfl (by decide) fun a F => ?_
    refine q_val F rfl rfl (by decide) (r_pick_f F rfl rfl rfl) fun a F => ?_
    refine q_val F rfl rfl (by decide) (r_assign F rfl) fun a F => ?_
    refine nil ?_
    refine hK64 _ _ ?_
    replace F : Fr a 57 [(2, .bool false)] := F.sub ⟨rfl, trivial⟩
    refine wp_ret ?_
    replace H := Option.some.inj H
    subst H
    refine out1 F rfl rfl ?_
    exact ⟨fun b_ => (fun x_ => if x_ < m then x_ else 0) (c62 b_), rfl, E.leave B0 (fun x_ => if x_ < m then x_ else 0) (by intro x_ hx_; show (if x_ < m then x_ else 0) = x_; ((repeat' split) <;> omega)), (fun b_ hb_ => by show (if (c62 b_) < m then (c62 b_) else 0) < m; ((repeat' split) <;> omega))⟩
  refine wp_seq_k fun K25 hK25 => ?_
  refine reg ?_
  refine q_val F rfl rfl (by decide) (r_fieldAddr F rfl ff_30_0) fun a F => ?_
  refine q_val F rfl rfl (by decide) (r_load F rfl ag_3 (AT.cell h13 rfl)) fun a F => ?_
  refine nil ?_
  refine hK25 _ _ ?_
  refine wp_block ?_
  refine wp_seq_k fun K26 hK26 => ?_
  refine wp_block ?_
  refine wp_seq_k fun K27 hK27 => ?_
  have J52 : ∀ (c53 : Nat → Nat) (w54 : World) (a : Act) (b51 : Bool), Fr a 57 [(1, .pointer (some qa11)), (3, .bool b51), (5, .bool (decide (a1.Rev = 0)))] → Ev (fun x => False ∨ m ≤ x) c0 w0 c53 w54 → CB (m + 2) c53 w54 → AT true (m + 1) c53 w54 qa11 [.int .i64 a1.Kind, .slice A2 a1.Key.length C3, .slice A5 a1.Value.length C6, .int .i64 a1.Rev] → SL false (Kint .u8) 0 0 c53 w54 A2 C3 a1.Key → SL false (Kint .u8) 0 0 c53 w54 A5 C6 a1.Value → table_Right.j3 a1 b51 = some r → K27 a w54 := by
   intro c53 w54 a b51 F E B h13 h4 h7 H
   unfold table_Right.j3 at H
   refine hK27 _ _ ?_
   refine wp_seq_k fun K55 hK55 => ?_
   refine reg ?_
   refine q_val F rfl rfl (by decide) (r_fieldAddr F rfl ff_30_2) fun a F => ?_
   refine q_val F rfl rfl (by decide) (r_load F rfl ag_28 (AT.cell h13 rfl)) fun a F => ?_
   refine q_val F rfl rfl (by decide) (r_lensl F Try.underlying28 rfl) fun a F => ?_
   refine q_val F rfl rfl (by decide) (r_eql F rfl rfl) fun a F => ?_
   refine q_val F rfl rfl (by decide) (r_assign F rfl) fun a F => ?_
   refine nil ?_
   refine hK55 _ _ ?_
   refine wp_exit ?_
   refine inbNe (by decide) ?_
   refine thenE ?_
   refine inbE ?_
   exact J61 c53 w54 a b51 (decide ((a1.Value.length : Int) = 0)) (decide (a1.Rev = 0)) (F.sub ⟨rfl, rfl, rfl, trivial⟩) E B  H
  refine wp_block ?_
  refine wp_seq_k fun K28 hK28 => ?_
  refine wp_block ?_
  refine wp_seq_k fun K29 hK29 => ?_
  refine wp_block ?_
  refine wp_seq_k fun K30 hK30 => ?_
  refine wp_block ?_
  refine wp_seq_k fun K31 hK31 => ?_
  refine wp_seq_k fun K32 hK32 => ?_
  refine wp_seq_k fun K33 hK33 => ?_
  refine reg ?_
  refine q_val F rfl rfl (by decide) (r_eql F rfl rfl) fun a F => ?_
  refine q_val F rfl rfl (by decide) (r_assign F rfl) fun a F => ?_
  refine nil ?_
  refine hK33 _ _ ?_
  by_cases hb34 : a1.Kind = 4
  ·replace H := (if_pos hb34).symm.trans H
   refine wp_cond_true ((F.ev rfl).trans (congrArg Value.bool (decide_eq_true hb34))) ?_
   refine wp_exit ?_
   refine thenE ?_
   refine thenE ?_
   refine inbE ?_
   refine hK30 _ _ ?_
   refine wp_seq_k fun K49 hK49 => ?_
   refine reg ?_
   refine q_val F rfl rfl (by decide) (r_fieldAddr F rfl ff_30_3) fun a F => ?_
   refine q_val F rfl rfl (by decide) (r_load F rfl ag_3 (AT.cell h13 rfl)) fun a F => ?_
   refine q_val F rfl rfl (by decide) (r_geq F rfl rfl) fun a F => ?_
   refine q_val F rfl rfl (by decide) (r_move F rfl) fun a F => ?_
   by_cases hb50 : 0 ≤ a1.Rev
   ·replace H := (if_pos hb50).symm.trans H
    refine q_yes F rfl (by decide) rfl (decide_eq_true hb50) ?_
    refine q_val F rfl rfl (by decide) (r_fieldAddr F rfl ff_30_3) fun a F => ?_
    refine q_yes F rfl (by decide) rfl (decide_eq_true hb50) ?_
    refine q_val F rfl rfl (by decide) (r_load F rfl ag_3 (AT.cell h13 rfl)) fun a F => ?_
    refine q_yes F rfl (by decide) rfl (decide_eq_true hb50) ?_
    refine q_val F rfl rfl (by decide) (r_leq F rfl rfl) fun a F => ?_
    refine q_val F rfl rfl (by decide) (r_pick_t F rfl (decide_eq_true hb50) rfl) fun a F => ?_
    refine q_val F rfl rfl (by decide) (r_assign F rfl) fun a F => ?_
    refine nil ?_
    refine hK49 _ _ ?_
    replace F : Fr a 57 [(3, .bool b20), (4, .bool (decide ((a1.Value.length : Int) ≤ 256))), (5, .bool (decide (a1.Rev ≤ 1099511627776)))] := F.sub ⟨rfl, rfl, rfl, trivial⟩
    refine wp_exit ?_
    refine inbNe (by decide) ?_
    refine thenE ?_
    refine inbNe (by decide) ?_
    refine thenE ?_
    refine inbNe (by decide) ?_
    refine thenE ?_
    refine inbNe (by decide) ?_
    refine thenE ?_
    refine inbE ?_
    exact J61 c22 w23 a b20 (decide ((a1.Value.length : Int) ≤ 256)) (decide (a1.Rev ≤ 1099511627776)) (F.sub ⟨rfl, rfl, rfl, trivial⟩) E B  H
   ·replace H := (if_neg hb50).symm.trans H
    refine q_no F rfl (by decide) rfl (decide_eq_false hb50) (by decide) fun a F => ?_
    refine q_no F rfl (by decide) rfl (decide_eq_false hb50) (by decide) fun a F => ?_
    refine q_no F rfl (by decide) rfl (decide_eq_false hb50) (by decide) fun a F => ?_
    refine q_val F rfl rfl (by decide) (r_pick_f F rfl (decide_eq_false hb50) rfl) fun a F => ?_
    refine q_val F rfl rfl (by decide) (r_assign F rfl) fun a F => ?_
    refine nil ?_
    refine hK49 _ _ ?_
    replace F : Fr a 57 [(3, .bool b20), (4, .bool (decide ((a1.Value.length : Int) ≤ 256))), (5, .bool false)] := F.sub ⟨rfl, rfl, rfl, trivial⟩
    refine wp_exit ?_
    refine inbNe (by decide) ?_
    refine thenE ?_
    refine inbNe (by decide) ?_
    refine thenE ?_
    refine inbNe (by decide) ?_
    refine thenE ?_
    refine inbNe (by decide) ?_
    refine thenE ?_
    refine inbE ?_
    exact J61 c22 w23 a b20 (decide ((a1.Value.length : Int) ≤ 256)) false (F.sub ⟨rfl, rfl, rfl, trivial⟩) E B  H
  ·replace H := (if_neg hb34).symm.trans H
   refine wp_cond_false ((F.ev rfl).trans (congrArg Value.bool (decide_eq_false hb34))) ?_
   refine wp_skip ?_
   refine hK32 _ _ ?_
   refine wp_seq_k fun K35 hK35 => ?_
   refine wp_seq_k fun K36 hK36 => ?_
   refine reg ?_
   refine q_val F rfl rfl (by decide) (r_eql F rfl rfl) fun a F => ?_
   refine q_val F rfl rfl (by decide) (r_assign F rfl) fun a F => ?_
   refine nil ?_
   refine hK36 _ _ ?_
   by_cases hb37 : a1.Kind = 2
   ·replace H := (if_pos hb37).symm.trans H
    refine wp_cond_true ((F.ev rfl).trans (congrArg Value.bool (decide_eq_true hb37))) ?_
    refine wp_exit ?_
    refine thenE ?_
    refine thenE ?_
    refine inbNe (by decide) ?_
    refine thenE ?_
    refine inbE ?_
    refine hK29 _ _ ?_
    refine wp_exit ?_
    refine inbNe (by decide) ?_
    refine thenE ?_
    refine inbNe (by decide) ?_
    refine thenE ?_
    refine inbNe (by decide) ?_
    refine thenE ?_
    refine inbE ?_
    exact J61 c22 w23 a b20 (decide ((a1.Value.length : Int) ≤ 256)) (decide (a1.Rev = 0)) (F.sub ⟨rfl, rfl, rfl, trivial⟩) E B  H
   ·replace H := (if_neg hb37).symm.trans H
    refine wp_cond_false ((F.ev rfl).trans (congrArg Value.bool (decide_eq_false hb37))) ?_
    refine wp_skip ?_
    refine hK35 _ _ ?_
    refine wp_seq_k fun K38 hK38 => ?_
    refine wp_seq_k fun K39 hK39 => ?_
    refine reg ?_
    refine q_val F rfl rfl (by decide) (r_eql F rfl rfl) fun a F => ?_
    refine q_val F rfl rfl (by decide) (r_assign F rfl) fun a F => ?_
    refine nil ?_
    refine hK39 _ _ ?_
    by_cases hb40 : a1.Kind = 5
    ·replace H := (if_pos hb40).symm.trans H
     refine wp_cond_true ((F.ev rfl).trans (congrArg Value.bool (decide_eq_true hb40))) ?_
     refine wp_exit ?_
     refine thenE ?_
     refine thenE ?_
     refine inbNe (by decide) ?_
     refine thenE ?_
     refine inbNe (by decide) ?_
     refine thenE ?_
     refine inbE ?_
     refine hK28 _ _ ?_
     replace F : Fr a 57 [(1, .pointer (some qa11)), (5, .bool (decide (a1.Rev = 0)))] := F.sub ⟨rfl, rfl, trivial⟩
     refine reg ?_
     refine q_val F rfl rfl (by decide) (r_fieldAddr F rfl ff_30_1) fun a F => ?_
     refine q_val F rfl rfl (by decide) (r_load F rfl ag_28 (AT.cell h13 rfl)) fun a F => ?_
     refine q_val F rfl rfl (by decide) (r_lensl F Try.underlying28 rfl) fun a F => ?_
     refine q_val F rfl rfl (by decide) (r_leq F rfl rfl) fun a F => ?_
     refine q_val F rfl rfl (by decide) (r_assign F rfl) fun a F => ?_
     refine nil ?_
     exact J52 c22 w23 a (decide ((a1.Key.length : Int) ≤ 65)) (F.sub ⟨rfl, rfl, rfl, trivial⟩) E B h13 h4 h7 H
    ·replace H := (if_neg hb40).symm.trans H
     refine wp_cond_false ((F.ev rfl).trans (congrArg Value.bool (decide_eq_false hb40))) ?_
     refine wp_skip ?_
     refine hK38 _ _ ?_
     replace F : Fr a 57 [(1, .pointer (some qa11)), (3, .bool b20), (5, .bool (decide (a1.Rev = 0))), (24, .int .i64 a1.Kind)] := F.sub ⟨rfl, rfl, rfl, rfl, trivial⟩
     refine wp_seq_k fun K41 hK41 => ?_
     have J45 : ∀ (c46 : Nat → Nat) (w47 : World) (a : Act) (b44 : Bool), Fr a 57 [(1, .pointer (some qa11)), (3, .bool b20), (5, .bool (decide (a1.Rev = 0))), (31, .bool b44)] → Ev (fun x => False ∨ m ≤ x) c0 w0 c46 w47 → CB (m + 2) c46 w47 → AT true (m + 1) c46 w47 qa11 [.int .i64 a1.Kind, .slice A2 a1.Key.length C3, .slice A5 a1.Value.length C6, .int .i64 a1.Rev] → SL false (Kint .u8) 0 0 c46 w47 A2 C3 a1.Key → SL false (Kint .u8) 0 0 c46 w47 A5 C6 a1.Value → table_Right.j2 a1 b20 b44 = some r → K41 a w47 := by
      intro c46 w47 a b44 F E B h13 h4 h7 H
      unfold table_Right.j2 at H
      refine hK41 _ _ ?_
      by_cases hb48 : b44 = true
      ·replace H := (if_pos hb48).symm.trans H
       refine wp_cond_true ((F.ev rfl).trans (congrArg Value.bool hb48)) ?_
       refine wp_exit ?_
       refine thenE ?_
       refine inbNe (by decide) ?_
       refine thenE ?_
       refine inbNe (by decide) ?_
       refine thenE ?_
       refine inbNe (by decide) ?_
       refine thenE ?_
       refine inbE ?_
       exact J52 c46 w47 a b20 (F.sub ⟨rfl, rfl, rfl, trivial⟩) E B h13 h4 h7 H
      ·replace H := (if_neg hb48).symm.trans H
       refine wp_cond_false ((F.ev rfl).trans (congrArg Value.bool (bfalse hb48))) ?_
       refine wp_skip ?_
       refine hK31 _ _ ?_
       refine wp_exit ?_
       refine inbNe (by decide) ?_
       refine thenE ?_
       refine inbNe (by decide) ?_
       refine thenE ?_
       refine inbNe (by decide) ?_
       refine thenE ?_
       refine inbNe (by decide) ?_
       refine thenE ?_
       refine inbE ?_
       refine hK26 _ _ ?_
       refine wp_seq_k fun K56 hK56 => ?_
       refine wp_seq_k fun K57 hK57 => ?_
       refine reg ?_
       refine q_val F rfl rfl (by decide) (r_assign F rfl) fun a F => ?_
       refine nil ?_
       refine hK57 _ _ ?_
       refine wp_ret ?_
       refine thenR ?_
       refine inbR ?_
       refine thenR ?_
       replace H := Option.some.inj H
       subst H
       refine out1 F rfl rfl ?_
       exact ⟨fun b_ => (fun x_ => if x_ < m then x_ else 0) (c46 b_), rfl, E.leave B0 (fun x_ => if x_ < m then x_ else 0) (by intro x_ hx_; show (if x_ < m then x_ else 0) = x_; ((repeat' split) <;> omega)), (fun b_ hb_ => by show (if (c46 b_) < m then (c46 b_) else 0) < m; ((repeat' split) <;> omega))⟩
     refine wp_seq_k fun K42 hK42 => ?_
     refine reg ?_
     refine q_val F rfl rfl (by decide) (r_eql F rfl rfl) fun a F => ?_
     refine q_val F rfl rfl (by decide) (r_assign F rfl) fun a F => ?_
     refine nil ?_
     refine hK42 _ _ ?_
     by_cases hb43 : a1.Kind = 1
     ·replace H := (if_pos hb43).symm.trans H
      refine wp_cond_true ((F.ev rfl).trans (congrArg Value.bool (decide_eq_true hb43))) ?_
      refine wp_skip ?_
      exact J45 c22 w23 a (decide (a1.Kind = 1)) (F.sub ⟨rfl, rfl, rfl, rfl, trivial⟩) E B h13 h4 h7 H
     ·replace H := (if_neg hb43).symm.trans H
      refine wp_cond_false ((F.ev rfl).trans (congrArg Value.bool (decide_eq_false hb43))) ?_
      refine reg ?_
      refine q_val F rfl rfl (by decide) (r_eql F rfl rfl) fun a F => ?_
      refine q_val F rfl rfl (by decide) (r_assign F rfl) fun a F => ?_
      refine nil ?_
      exact J45 c22 w23 a (decide (a1.Kind = 3)) (F.sub ⟨rfl, rfl, rfl, rfl, trivial⟩) E B h13 h4 h7 H
 refine regD (SB No c9 w10) 20 (.q 0 (.q 1 (.q 2 (.q 3 (.q 4 (.q 5 (.q 6 (.q 7 (.q 8 (.q 9 (.q 10 (.q 11 (.q 12 (.q 13 (.q 14 (.q 15 (.q 16 (.q 17 (.q 18 (.q 19 .nil)))))))))))))))))))) Try_hm (by decide +kernel) ?_
 intro w17 w1_ w2_ w3_ w4_
 have E18 : Ev No c9 w10 c9 w17 := Ev.same w1_ w2_ w3_ w4_
 replace B := B.same w1_
 have zh4 := h4
 have zh7 := h7
 have zh13 := h13
 have ER : Ev No c9 w10 c9 w17 := Ev.same w1_ w2_ w3_ w4_
 replace h4 := SL.ev h4 E18 (fun q => q.elim) (fun q => q.elim)
 replace h7 := SL.ev h7 E18 (fun q => q.elim) (fun q => q.elim)
 replace h13 := AT.ev h13 E18 (fun q => q.elim)
 replace E := E.trans E18 (fun x q => q.elim)
 refine d_q F rfl rfl rfl (by decide) (fun wq hS => r_fieldAddr F rfl ff_30_1) ER.sb fun a F => ?_
 refine d_q F rfl rfl rfl (by decide) (fun wq hS => r_load F rfl ag_28 (AT.cell (AT.sb zh13 hS (fun q => q.elim)) rfl)) ER.sb fun a F => ?_
 refine d_q F rfl rfl rfl (by decide) (fun wq hS => r_lensl F Try.underlying28 rfl) ER.sb fun a F => ?_
 refine d_q F rfl rfl rfl (by decide) (fun wq hS => r_gtr F rfl rfl) ER.sb fun a F => ?_
 refine d_q F rfl rfl rfl (by decide) (fun wq hS => r_move F rfl) ER.sb fun a F => ?_
 by_cases hb19 : 0 < (a1.Key.length : Int)
 ·replace H := (if_pos hb19).symm.trans H
  refine d_qy F rfl rfl rfl (by decide) rfl (decide_eq_true hb19) rfl (by decide) (fun wq hS => r_fieldAddr F rfl ff_30_1) ER.sb fun a F => ?_
  refine d_qy F rfl rfl rfl (by decide) rfl (decide_eq_true hb19) rfl (by decide) (fun wq hS => r_load F rfl ag_28 (AT.cell (AT.sb zh13 hS (fun q => q.elim)) rfl)) ER.sb fun a F => ?_
  refine d_qy F rfl rfl rfl (by decide) rfl (decide_eq_true hb19) rfl (by decide) (fun wq hS => r_lensl F Try.underlying28 rfl) ER.sb fun a F => ?_
  refine d_qy F rfl rfl rfl (by decide) rfl (decide_eq_true hb19) rfl (by decide) (fun wq hS => r_leq F rfl rfl) ER.sb fun a F => ?_
  refine d_q F rfl rfl rfl (by decide) (fun wq hS => r_pick_t F rfl (decide_eq_true hb19) rfl) ER.sb fun a F => ?_
  refine d_q F rfl rfl rfl (by decide) (fun wq hS => r_fieldAddr F rfl ff_30_2) ER.sb fun a F => ?_
  refine d_q F rfl rfl rfl (by decide) (fun wq hS => r_load F rfl ag_28 (AT.cell (AT.sb zh13 hS (fun q => q.elim)) rfl)) ER.sb fun a F => ?_
  refine d_q F rfl rfl rfl (by decide) (fun wq hS => r_lensl F Try.underlying28 rfl) ER.sb fun a F => ?_
  refine d_q F rfl rfl rfl (by decide) (fun wq hS => r_leq F rfl rfl) ER.sb fun a F => ?_
  refine d_q F rfl rfl rfl (by decide) (fun wq hS => r_fieldAddr F rfl ff_30_3) ER.sb fun a F => ?_
  refine d_q F rfl rfl rfl (by decide) (fun wq hS => r_load F rfl ag_3 (AT.cell (AT.sb zh13 hS (fun q => q.elim)) rfl)) ER.sb fun a F => ?_
  refine d_q F rfl rfl rfl (by decide) (fun wq hS => r_eql F rfl rfl) ER.sb fun a F => ?_
  refine d_q F rfl rfl rfl (by decide) (fun wq hS => r_assign F rfl) ER.sb fun a F => ?_
  refine d_q F rfl rfl rfl (by decide) (fun wq hS => r_assign F rfl) ER.sb fun a F => ?_
  refine d_q F rfl rfl rfl (by decide) (fun wq hS => r_assign F rfl) ER.sb fun a F => ?_
  refine d_nil ?_
  exact J21 c9 w17 a (decide ((a1.Key.length : Int) ≤ 64)) (F.sub ⟨rfl, rfl, rfl, rfl, trivial⟩) E B h13 h4 h7 H
 ·replace H := (if_neg hb19).symm.trans H
  refine d_qn F rfl rfl rfl (by decide) rfl (decide_eq_false hb19) rfl (by decide) ER.sb fun a F => ?_
  refine d_qn F rfl rfl rfl (by decide) rfl (decide_eq_false hb19) rfl (by decide) ER.sb fun a F => ?_
  refine d_qn F rfl rfl rfl (by decide) rfl (decide_eq_false hb19) rfl (by decide) ER.sb fun a F => ?_
  refine d_qn F rfl rfl rfl (by decide) rfl (decide_eq_false hb19) rfl (by decide) ER.sb fun a F => ?_
  refine d_q F rfl rfl rfl (by decide) (fun wq hS => r_pick_f F rfl (decide_eq_false hb19) rfl) ER.sb fun a F => ?_
  refine d_q F rfl rfl rfl (by decide) (fun wq hS => r_fieldAddr F rfl ff_30_2) ER.sb fun a F => ?_
  refine d_q F rfl rfl rfl (by decide) (fun wq hS => r_load F rfl ag_28 (AT.cell (AT.sb zh13 hS (fun q => q.elim)) rfl)) ER.sb fun a F => ?_
  refine d_q F rfl rfl rfl (by decide) (fun wq hS => r_lensl F Try.underlying28 rfl) ER.sb fun a F => ?_
  refine d_q F rfl rfl rfl (by decide) (fun wq hS => r_leq F rfl rfl) ER.sb fun a F => ?_
  refine d_q F rfl rfl rfl (by decide) (fun wq hS => r_fieldAddr F rfl ff_30_3) ER.sb fun a F => ?_
  refine d_q F rfl rfl rfl (by decide) (fun wq hS => r_load F rfl ag_3 (AT.cell (AT.sb zh13 hS (fun q => q.elim)) rfl)) ER.sb fun a F => ?_
  refine d_q F rfl rfl rfl (by decide) (fun wq hS => r_eql F rfl rfl) ER.sb fun a F => ?_
  refine d_q F rfl rfl rfl (by decide) (fun wq hS => r_assign F rfl) ER.sb fun a F => ?_
  refine d_q F rfl rfl rfl (by decide) (fun wq hS => r_assign F rfl) ER.sb fun a F => ?_
  refine d_q F rfl rfl rfl (by decide) (fun wq hS => r_assign F rfl) ER.sb fun a F => ?_
  refine d_nil ?_
  exact J21 c9 w17 a false (F.sub ⟨rfl, rfl, rfl, rfl, trivial⟩) E B h13 h4 h7 H
end Go.Proofs.Ythankpjbfpcldaa.G
/-! Told by hand: bytes.Clone. -/
namespace Go.Proofs.Ythankpjbfpcldaa.G
open Go Go.RowKit
set_option linter.unusedVariables false
set_option linter.unusedSimpArgs false
section
variable {P : Program} {a : Act} {N : Nat} {L : List (Nat × Value)} {D : List Deferred} {w w' : World} {v u : Value} {x y : Operand} {d : Option Tmp} {t ty : TypeId} {pos : String} {af : Array Edge} {gd : Option (Nat × Bool)}
theorem r_sleq (F : Fr a N L D) {A : Option Addr} {n c : Nat} {e yt : TypeId} (hu : P.underlying t = some (.slice e)) (hx : ev L x = some (.slice A n c)) (hy : ev L y = some (.slice none 0 0)) : (execOp a.eval { dst := d, op := .binOp .eql t x y yt, type := ty, pos := pos, after := af, guard := gd }).run P w = .ok (.value (.bool A.isNone)) w := by
  have h : (binOp .eql t (.slice A n c) (.slice none 0 0)).run P w = .ok (.bool A.isNone) w := by
    simp only [binOp]
    simp [Op.equal, Op.maxDepth, Lib.run_equalIn_slice_nil w 9999 t e A n c 0 0 hu]
  simp [execOp, F.ev hx, F.ev hy, eqGuard, h]
end
theorem SL.none_nil {α : Type} {e : K α} {own : Bool} {j i : Nat} {c : Nat → Nat} {w : World} {cap : Nat} {xs : List α} (h : SL own e j i c w none cap xs) : xs = [] := by
  obtain ⟨cs, h2, h3, h4, h5, h6⟩ := h
  rcases h5 with h5 | ⟨a, e, _⟩
  · subst h5
    have := e.pos
    have h : cap * e.sz = 0 := h4.symm
    rcases Nat.mul_eq_zero.1 h with h | h
    · exact List.eq_nil_of_length_eq_zero (by omega)
    · omega
  · cases e
theorem bytes_Clone.calls {m : Nat} {c0 : Nat → Nat} {w0 : World} {j1 : Nat} {A2 : Option Addr} {C3 : Nat} {a1 : List Int} (hm0 : 0 < m) (B0 : CB m c0 w0) (h4 : SL false (Kint .u8) j1 0 c0 w0 A2 C3 a1) (bj1 : j1 < m) (jr : Nat) (bjr : jr < m) (r : List Int) (H : bytes_Clone.f a1 = some r) :
    Calls Try.prog 42 #[.slice A2 a1.length C3] w0 (fun e w_ => ∃ (c_ : Nat → Nat) (A0_ : Option Addr) (C0_ : Nat), e = .returned (.slice A0_ r.length C0_) ∧ Ev (fun x => False) c0 w0 c_ w_ ∧ CB m c_ w_ ∧ SL true (Kint .u8) jr 0 c_ w_ A0_ C0_ r) := by
  unfold bytes_Clone.f at H
  obtain ⟨g, H⟩ := ifN H
  have H := Option.some.inj H
  subst H
  have B := B0.mono (show m ≤ m + 2 by omega)
  have E : Ev (fun x => False ∨ m ≤ x) c0 w0 c0 w0 := Ev.refl
  refine enter (N := 8) (l := [.slice A2 a1.length C3]) Try.func42 rfl rfl (Nat.le_of_ble_eq_true rfl) fun a F => ?_
  refine wp_seq_k fun K5 hK5 => ?_
  refine reg ?_
  refine q_val F rfl rfl (by decide) (r_assign F rfl) fun a F => ?_
  refine nil ?_
  refine hK5 _ _ ?_
  refine wp_seq_k fun K6 hK6 => ?_
  refine wp_seq_k fun K7 hK7 => ?_
  refine reg ?_
  refine q_val F rfl rfl (by decide) (r_move F rfl) fun a F => ?_
  refine q_val F rfl rfl (by decide) (r_sleq F Try.underlying28 rfl rfl) fun a F => ?_
  refine nil ?_
  refine hK7 _ _ ?_
  cases A2 with
  | none =>
    have e := h4.none_nil
    subst e
    refine wp_cond_true (F.ev rfl) ?_
    refine wp_seq_k fun K8 hK8 => ?_
    refine reg ?_
    refine q_val F rfl rfl (by decide) (r_assign F rfl) fun a F => ?_
    refine nil ?_
    refine hK8 _ _ ?_
    refine wp_ret ?_
    refine thenR ?_
    refine out1 F rfl rfl ?_
    exact ⟨c0, none, 0, rfl, Ev.refl, B0, SL.nil⟩
  | some q =>
    refine wp_cond_false (F.ev rfl) ?_
    refine wp_skip ?_
    refine hK6 _ _ ?_
    refine wp_seq_k fun K9 hK9 => ?_
    refine reg ?_
    refine q_eff F rfl rfl (by decide) (e_buildSlice (e := 5) (c := c0) (k := Kint .u8) (i := 0) F [] [] ([] : List Int) (by exact trivial) (fun w => by kernel_rfl) rfl (by decide) rfl trivial (fun q => q) (m + 1)) ?_
    rintro v w1 a ⟨c1, A1, C1, rfl, E1, h1, B1⟩ F
    have B := B1 _ B (by omega)
    have h4 := SL.ev h4 E1 (fun q => q.elim) (fun q => q.elim)
    have E := E.trans E1 (fun x q => q.elim)
    refine q_val F rfl rfl (by decide) (r_move F rfl) fun a F => ?_
    refine q_eff F rfl rfl (by decide) (e_append (k := Kint .u8) (xs := []) (ys := a1) (c := c1) (j := m + 1) (i := 0) F et_28 rfl rfl h1 h4 (by simpa using g) (by have g_ := g; unfold maxLen; simp at g_ ⊢; omega) (by omega)) ?_
    rintro v w2 a ⟨c2, A3, C4, rfl, E2, h2, B2⟩ F
    have B := B2 _ B (by omega)
    have E := E.trans E2 (fun x q => by replace q : x = m + 1 := q; show False ∨ m ≤ x; omega)
    refine q_val F rfl rfl (by decide) (r_assign F rfl) fun a F => ?_
    refine nil ?_
    refine hK9 _ _ ?_
    refine wp_ret ?_
    refine out1 F rfl rfl ?_
    rw [List.nil_append] at h2 ⊢
    exact ⟨fun b_ => (fun x_ => if x_ = m + 1 then jr else if x_ < m then x_ else 0) (c2 b_), A3, C4, rfl, E.leave B0 (fun x_ => if x_ = m + 1 then jr else if x_ < m then x_ else 0) (by intro x_ hx_; show (if x_ = m + 1 then jr else if x_ < m then x_ else 0) = x_; ((repeat' split) <;> omega)), (fun b_ hb_ => by show (if (c2 b_) = m + 1 then jr else if (c2 b_) < m then (c2 b_) else 0) < m; ((repeat' split) <;> omega)), SL.rc h2 (fun k_ hk_ => by show (if (c2 k_) = m + 1 then jr else if (c2 k_) < m then (c2 k_) else 0) = _; rw [hk_]; ((repeat' split) <;> omega)) (fun k_ hk_ => by show (if (c2 k_) = m + 1 then jr else if (c2 k_) < m then (c2 k_) else 0) = _; rw [hk_]; ((repeat' split) <;> omega))⟩
end Go.Proofs.Ythankpjbfpcldaa.G
namespace Go.Proofs.Ythankpjbfpcldaa.G
open Go Go.RowKit
set_option linter.unusedVariables false
set_option linter.unusedSimpArgs false
set_option maxRecDepth 100000 in
set_option maxHeartbeats 4000000 in
theorem table_long.calls (k : Nat) {m : Nat} {c0 : Nat → Nat} {w0 : World} {A3 : Option Addr} {C4 : Nat} {a1 : ByteArray} {a2 : table_cell} (hm0 : 0 < m) (B0 : CB m c0 w0) (h5 : SL false (Kint .u8) 0 0 c0 w0 A3 C4 a2.value) (r : Int) (H : table_long.f k a1 a2 = some r) : Calls Try.prog 63 #[.string a1, .agg #[.slice A3 a2.value.length C4, .int .i64 a2.rev]] w0 (fun e w_ => ∃ (c_ : Nat → Nat), e = .returned (.int .i64 r) ∧ Ev (fun x => False) c0 w0 c_ w_ ∧ CB m c_ w_) := by
 unfold table_long.f at H
 have B := B0.mono (show m ≤ m + 2 by omega)
 have E : Ev (fun x => False ∨ m ≤ x) c0 w0 c0 w0 := Ev.refl
 refine enter (N := 24) (l := [.string a1, .agg #[.slice A3 a2.value.length C4, .int .i64 a2.rev]]) Try.func63 rfl rfl (Nat.le_of_ble_eq_true rfl) fun a F => ?_
 refine wp_seq_k fun K6 hK6 => ?_
 refine reg ?_
 refine q_eff F rfl rfl (by decide) (e_box F (v := .agg #[.slice A3 a2.value.length C4, .int .i64 a2.rev]) rfl c0 (m + 1)) ?_
 rintro v w8 a ⟨c7, qa9, rfl, E10, h11, B12⟩ F
 replace B := B12 _ B (Nat.add_lt_add_left (by decide) m)
 replace h5 := SL.ev h5 E10 (fun q => q.elim) (fun q => q.elim)
 replace E := E.trans E10 (fun x q => q.elim)
 replace h11 : AT true (m + 1) c7 w8 qa9 [.slice A3 a2.value.length C4, .int .i64 a2.rev] := h11
 refine q_val F rfl rfl (by decide) (r_assign F rfl) fun a F => ?_
 refine nil ?_
 refine hK6 _ _ ?_
 refine wp_seq_k fun K14 hK14 => ?_
 refine regD (SB No c7 w8) 20 (.q 0 (.q 1 (.q 3 (.q 4 (.q 6 (.q 7 (.q 8 (.q 11 (.q 12 (.q 13 (.q 15 (.q 16 (.e 2 (.q 5 (.e 9 (.q 10 (.q 14 (.e 17 (.q 18 (.q 19 .nil)))))))))))))))))))) Try_hm (by decide +kernel) ?_
 intro w15 w1_ w2_ w3_ w4_
 have E16 : Ev No c7 w8 c7 w15 := Ev.same w1_ w2_ w3_ w4_
 replace B := B.same w1_
 have zh5 := h5
 have zh11 := h11
 have ER : Ev No c7 w8 c7 w15 := Ev.same w1_ w2_ w3_ w4_
 replace h5 := SL.ev h5 E16 (fun q => q.elim) (fun q => q.elim)
 replace h11 := AT.ev h11 E16 (fun q => q.elim)
 replace E := E.trans E16 (fun x q => q.elim)
 refine d_q F rfl rfl rfl (by decide) (fun wq hS => r_move F rfl) ER.sb fun a F => ?_
 refine d_q F rfl rfl rfl (by decide) (fun wq hS => r_lenstr F Try.underlying9 rfl) ER.sb fun a F => ?_
 refine d_q F rfl rfl rfl (by decide) (fun wq hS => r_move F rfl) ER.sb fun a F => ?_
 refine d_q F rfl rfl rfl (by decide) (fun wq hS => r_lenstr F Try.underlying9 rfl) ER.sb fun a F => ?_
 refine d_q F rfl rfl rfl (by decide) (fun wq hS => r_fieldAddr F rfl ff_80_0) ER.sb fun a F => ?_
 refine d_q F rfl rfl rfl (by decide) (fun wq hS => r_load F rfl ag_28 (AT.cell (AT.sb zh11 hS (fun q => q.elim)) rfl)) ER.sb fun a F => ?_
 refine d_q F rfl rfl rfl (by decide) (fun wq hS => r_lensl F Try.underlying28 rfl) ER.sb fun a F => ?_
 refine d_q F rfl rfl rfl (by decide) (fun wq hS => r_fieldAddr F rfl ff_80_0) ER.sb fun a F => ?_
 refine d_q F rfl rfl rfl (by decide) (fun wq hS => r_load F rfl ag_28 (AT.cell (AT.sb zh11 hS (fun q => q.elim)) rfl)) ER.sb fun a F => ?_
 refine d_q F rfl rfl rfl (by decide) (fun wq hS => r_lensl F Try.underlying28 rfl) ER.sb fun a F => ?_
 refine d_q F rfl rfl rfl (by decide) (fun wq hS => r_fieldAddr F rfl ff_80_1) ER.sb fun a F => ?_
 refine d_q F rfl rfl rfl (by decide) (fun wq hS => r_load F rfl ag_3 (AT.cell (AT.sb zh11 hS (fun q => q.elim)) rfl)) ER.sb fun a F => ?_
 refine d_e ?_
 replace H := bind_some H
 obtain ⟨t17, q18, H⟩ := H
 refine o_call F rfl (wanted_none rfl) rfl (by decide) (r_call F Try.func83 rfl (by kernel_rfl) rfl) (table_num.calls k (m := m + 2) (Nat.add_pos_left hm0 _) B _ q18) ?_
 rintro e w20 ⟨c19, rfl, E21, B22⟩
 refine ⟨_, rfl, fun a F => ?_⟩
 have B := B22
 replace ER := ER.trans E21 (fun x q => q.elim)
 replace h5 := SL.ev h5 E21 (fun q => q.elim) (fun q => q.elim)
 replace h11 := AT.ev h11 E21 (fun q => q.elim)
 replace E := E.trans E21 (fun x q => q.elim)
 refine ⟨fun _ => ER.sb, ?_⟩
 refine d_q F rfl rfl rfl (by decide) (fun wq hS => r_add F rfl rfl) ER.sb fun a F => ?_
 refine d_e ?_
 replace H := bind_some H
 obtain ⟨t24, q25, H⟩ := H
 refine o_call F rfl (wanted_none rfl) rfl (by decide) (r_call F Try.func83 rfl (by kernel_rfl) rfl) (table_num.calls k (m := m + 2) (Nat.add_pos_left hm0 _) B _ q25) ?_
 rintro e w27 ⟨c26, rfl, E28, B29⟩
 refine ⟨_, rfl, fun a F => ?_⟩
 have B := B29
 replace ER := ER.trans E28 (fun x q => q.elim)
 replace h5 := SL.ev h5 E28 (fun q => q.elim) (fun q => q.elim)
 replace h11 := AT.ev h11 E28 (fun q => q.elim)
 replace E := E.trans E28 (fun x q => q.elim)
 refine ⟨fun _ => ER.sb, ?_⟩
 refine d_q F rfl rfl rfl (by decide) (fun wq hS => r_add F rfl rfl) ER.sb fun a F => ?_
 refine d_q F rfl rfl rfl (by decide) (fun wq hS => r_add F rfl rfl) ER.sb fun a F => ?_
 refine d_e ?_
 replace H := bind_some H
 obtain ⟨t31, q32, H⟩ := H
 refine o_call F rfl (wanted_none rfl) rfl (by decide) (r_call F Try.func83 rfl (by kernel_rfl) rfl) (table_num.calls k (m := m + 2) (Nat.add_pos_left hm0 _) B _ q32) ?_
 rintro e w34 ⟨c33, rfl, E35, B36⟩
 refine ⟨_, rfl, fun a F => ?_⟩
 have B := B36
 replace ER := ER.trans E35 (fun x q => q.elim)
 replace h5 := SL.ev h5 E35 (fun q => q.elim) (fun q => q.elim)
 replace h11 := AT.ev h11 E35 (fun q => q.elim)
 replace E := E.trans E35 (fun x q => q.elim)
 refine ⟨fun _ => ER.sb, ?_⟩
 refine d_q F rfl rfl rfl (by decide) (fun wq hS => r_add F rfl rfl) ER.sb fun a F => ?_
 refine d_q F rfl rfl rfl (by decide) (fun wq hS => r_assign F rfl) ER.sb fun a F => ?_
 refine d_nil ?_
 refine hK14 _ _ ?_
 replace F : Fr a 24 [(4, .int .i64 (IntKind.i64.wrap ((IntKind.i64.wrap ((IntKind.i64.wrap ((IntKind.i64.wrap (t17 + (a1.size : Int))) + t24)) + (a2.value.length : Int))) + t31)))] := F.sub ⟨rfl, trivial⟩
 refine wp_ret ?_
 replace H := Option.some.inj H
 subst H
 refine out1 F rfl rfl ?_
 exact ⟨fun b_ => (fun x_ => if x_ < m then x_ else 0) (c33 b_), rfl, E.leave B0 (fun x_ => if x_ < m then x_ else 0) (by intro x_ hx_; show (if x_ < m then x_ else 0) = x_; ((repeat' split) <;> omega)), (fun b_ hb_ => by show (if (c33 b_) < m then (c33 b_) else 0) < m; ((repeat' split) <;> omega))⟩
end Go.Proofs.Ythankpjbfpcldaa.G
namespace Go.Proofs.Ythankpjbfpcldaa.G
open Go Go.RowKit
set_option linter.unusedVariables false
set_option linter.unusedSimpArgs false
set_option maxRecDepth 100000 in
set_option maxHeartbeats 4000000 in
theorem cmp_isNaN.calls {m : Nat} {c0 : Nat → Nat} {w0 : World} {a1 : ByteArray} (hm0 : 0 < m) (B0 : CB m c0 w0) (r : Bool) (H : cmp_isNaN.f a1 = some r) : Calls Try.prog 86 #[.string a1] w0 (fun e w_ => ∃ (c_ : Nat → Nat), e = .returned (.bool r) ∧ Ev (fun x => False) c0 w0 c_ w_ ∧ CB m c_ w_) := by
 unfold cmp_isNaN.f at H
 have B := B0.mono (show m ≤ m + 1 by omega)
 have E : Ev (fun x => False ∨ m ≤ x) c0 w0 c0 w0 := Ev.refl
 refine enter (N := 6) (l := [.string a1]) Try.func86 rfl rfl (Nat.le_of_ble_eq_true rfl) fun a F => ?_
 refine wp_seq_k fun K2 hK2 => ?_
 refine reg ?_
 refine q_val F rfl rfl (by decide) (r_assign F rfl) fun a F => ?_
 refine nil ?_
 refine hK2 _ _ ?_
 refine wp_seq_k fun K3 hK3 => ?_
 refine reg ?_
 refine q_val F rfl rfl (by decide) (r_move F rfl) fun a F => ?_
 refine q_val F rfl rfl (by decide) (r_move F rfl) fun a F => ?_
 refine q_val F rfl rfl (by decide) (r_sneq F rfl rfl) fun a F => ?_
 refine q_val F rfl rfl (by decide) (r_assign F rfl) fun a F => ?_
 refine nil ?_
 refine hK3 _ _ ?_
 refine wp_ret ?_
 replace H := Option.some.inj H
 subst H
 refine out1 F rfl rfl ?_
 exact ⟨fun b_ => (fun x_ => if x_ < m then x_ else 0) (c0 b_), rfl, E.leave B0 (fun x_ => if x_ < m then x_ else 0) (by intro x_ hx_; show (if x_ < m then x_ else 0) = x_; ((repeat' split) <;> omega)), (fun b_ hb_ => by show (if (c0 b_) < m then (c0 b_) else 0) < m; ((repeat' split) <;> omega))⟩
end Go.Proofs.Ythankpjbfpcldaa.G
namespace Go.Proofs.Ythankpjbfpcldaa.G
open Go Go.RowKit
set_option linter.unusedVariables false
set_option linter.unusedSimpArgs false
set_option maxRecDepth 100000 in
set_option maxHeartbeats 4000000 in
theorem cmp_Compare.calls {m : Nat} {c0 : Nat → Nat} {w0 : World} {a1 : ByteArray} {a2 : ByteArray} (hm0 : 0 < m) (B0 : CB m c0 w0) (r : Int) (H : cmp_Compare.f a1 a2 = some r) : Calls Try.prog 62 #[.string a1, .string a2] w0 (fun e w_ => ∃ (c_ : Nat → Nat), e = .returned (.int .i64 r) ∧ Ev (fun x => False) c0 w0 c_ w_ ∧ CB m c_ w_) := by
 unfold cmp_Compare.f at H
 have B := B0.mono (show m ≤ m + 1 by omega)
 have E : Ev (fun x => False ∨ m ≤ x) c0 w0 c0 w0 := Ev.refl
 refine enter (N := 20) (l := [.string a1, .string a2]) Try.func62 rfl rfl (Nat.le_of_ble_eq_true rfl) fun a F => ?_
 refine wp_seq_k fun K3 hK3 => ?_
 refine reg ?_
 refine q_val F rfl rfl (by decide) (r_assign F rfl) fun a F => ?_
 refine nil ?_
 refine hK3 _ _ ?_
 refine wp_seq_k fun K4 hK4 => ?_
 refine reg ?_
 refine q_val F rfl rfl (by decide) (r_move F rfl) fun a F => ?_
 replace H := bind_some H
 obtain ⟨t5, q6, H⟩ := H
 refine q_call F rfl rfl (by decide) (r_call F Try.func86 rfl (by kernel_rfl) rfl) (cmp_isNaN.calls (m := m + 1) (Nat.add_pos_left hm0 _) B _ q6) ?_
 rintro e w8 ⟨c7, rfl, E9, B10⟩
 refine ⟨_, rfl, fun a F => ?_⟩
 have B := B10
 replace E := E.trans E9 (fun x q => q.elim)
 refine q_val F rfl rfl (by decide) (r_assign F rfl) fun a F => ?_
 refine nil ?_
 refine hK4 _ _ ?_
 refine wp_seq_k fun K12 hK12 => ?_
 refine reg ?_
 refine q_val F rfl rfl (by decide) (r_move F rfl) fun a F => ?_
 replace H := bind_some H
 obtain ⟨t13, q14, H⟩ := H
 refine q_call F rfl rfl (by decide) (r_call F Try.func86 rfl (by kernel_rfl) rfl) (cmp_isNaN.calls (m := m + 1) (Nat.add_pos_left hm0 _) B _ q14) ?_
 rintro e w16 ⟨c15, rfl, E17, B18⟩
 refine ⟨_, rfl, fun a F => ?_⟩
 have B := B18
 replace E := E.trans E17 (fun x q => q.elim)
 refine q_val F rfl rfl (by decide) (r_assign F rfl) fun a F => ?_
 refine nil ?_
 refine hK12 _ _ ?_
 refine wp_seq_k fun K20 hK20 => ?_
 refine wp_seq_k fun K21 hK21 => ?_
 refine reg ?_
 refine q_val F rfl rfl (by decide) (r_move F rfl) fun a F => ?_
 refine nil ?_
 refine hK21 _ _ ?_
 by_cases hb22 : t5 = true
 ·replace H := (if_pos hb22).symm.trans H
  refine wp_cond_true ((F.ev rfl).trans (congrArg Value.bool hb22)) ?_
  refine wp_seq_k fun K23 hK23 => ?_
  refine wp_seq_k fun K24 hK24 => ?_
  refine reg ?_
  refine q_val F rfl rfl (by decide) (r_move F rfl) fun a F => ?_
  refine nil ?_
  refine hK24 _ _ ?_
  replace F : Fr a 20 [(12, .bool t13)] := F.sub ⟨rfl, trivial⟩
  by_cases hb25 : t13 = true
  ·replace H := (if_pos hb25).symm.trans H
   refine wp_cond_true ((F.ev rfl).trans (congrArg Value.bool hb25)) ?_
   refine wp_seq_k fun K26 hK26 => ?_
   refine reg ?_
   refine q_val F rfl rfl (by decide) (r_assign F rfl) fun a F => ?_
   refine nil ?_
   refine hK26 _ _ ?_
   refine wp_ret ?_
   refine thenR ?_
   refine thenR ?_
   replace H := Option.some.inj H
   subst H
   refine out1 F rfl rfl ?_
   exact ⟨fun b_ => (fun x_ => if x_ < m then x_ else 0) (c15 b_), rfl, E.leave B0 (fun x_ => if x_ < m then x_ else 0) (by intro x_ hx_; show (if x_ < m then x_ else 0) = x_; ((repeat' split) <;> omega)), (fun b_ hb_ => by show (if (c15 b_) < m then (c15 b_) else 0) < m; ((repeat' split) <;> omega))⟩
  ·replace H := (if_neg hb25).symm.trans H
   refine wp_cond_false ((F.ev rfl).trans (congrArg Value.bool (bfalse hb25))) ?_
   refine wp_skip ?_
   refine hK23 _ _ ?_
   refine wp_seq_k fun K27 hK27 => ?_
   refine reg ?_
   refine q_val F rfl rfl (by decide) (r_assign F rfl) fun a F => ?_
   refine nil ?_
   refine hK27 _ _ ?_
   refine wp_ret ?_
   refine thenR ?_
   replace H := Option.some.inj H
   subst H
   refine out1 F rfl rfl ?_
   exact ⟨fun b_ => (fun x_ => if x_ < m then x_ else 0) (c15 b_), rfl, E.leave B0 (fun x_ => if x_ < m then x_ else 0) (by intro x_ hx_; show (if x_ < m then x_ else 0) = x_; ((repeat' split) <;> omega)), (fun b_ hb_ => by show (if (c15 b_) < m then (c15 b_) else 0) < m; ((repeat' split) <;> omega))⟩
 ·replace H := (if_neg hb22).symm.trans H
  refine wp_cond_false ((F.ev rfl).trans (congrArg Value.bool (bfalse hb22))) ?_
  refine wp_skip ?_
  refine hK20 _ _ ?_
  refine wp_seq_k fun K28 hK28 => ?_
  refine wp_seq_k fun K29 hK29 => ?_
  refine reg ?_
  refine q_val F rfl rfl (by decide) (r_move F rfl) fun a F => ?_
  refine nil ?_
  refine hK29 _ _ ?_
  replace F : Fr a 20 [(0, .string a1), (1, .string a2), (13, .bool t13)] := F.sub ⟨rfl, rfl, rfl, trivial⟩
  by_cases hb30 : t13 = true
  ·replace H := (if_pos hb30).symm.trans H
   refine wp_cond_true ((F.ev rfl).trans (congrArg Value.bool hb30)) ?_
   refine wp_seq_k fun K31 hK31 => ?_
   refine reg ?_
   refine q_val F rfl rfl (by decide) (r_assign F rfl) fun a F => ?_
   refine nil ?_
   refine hK31 _ _ ?_
   refine wp_ret ?_
   refine thenR ?_
   replace H := Option.some.inj H
   subst H
   refine out1 F rfl rfl ?_
   exact ⟨fun b_ => (fun x_ => if x_ < m then x_ else 0) (c15 b_), rfl, E.leave B0 (fun x_ => if x_ < m then x_ else 0) (by intro x_ hx_; show (if x_ < m then x_ else 0) = x_; ((repeat' split) <;> omega)), (fun b_ hb_ => by show (if (c15 b_) < m then (c15 b_) else 0) < m; ((repeat' split) <;> omega))⟩
  ·replace H := (if_neg hb30).symm.trans H
   refine wp_cond_false ((F.ev rfl).trans (congrArg Value.bool (bfalse hb30))) ?_
   refine wp_skip ?_
   refine hK28 _ _ ?_
   refine wp_seq_k fun K32 hK32 => ?_
   refine wp_seq_k fun K33 hK33 => ?_
   refine reg ?_
   refine q_val F rfl rfl (by decide) (r_move F rfl) fun a F => ?_
   refine q_val F rfl rfl (by decide) (r_move F rfl) fun a F => ?_
   refine q_val F rfl rfl (by decide) (r_slss F rfl rfl) fun a F => ?_
   refine nil ?_
   refine hK33 _ _ ?_
   by_cases hb34 : (Op.bytesLess a1.toList a2.toList) = true
   ·replace H := (if_pos hb34).symm.trans H
    refine wp_cond_true ((F.ev rfl).trans (congrArg Value.bool hb34)) ?_
    refine wp_seq_k fun K35 hK35 => ?_
    refine reg ?_
    refine q_val F rfl rfl (by decide) (r_assign F rfl) fun a F => ?_
    refine nil ?_
    refine hK35 _ _ ?_
    refine wp_ret ?_
    refine thenR ?_
    replace H := Option.some.inj H
    subst H
    refine out1 F rfl rfl ?_
    exact ⟨fun b_ => (fun x_ => if x_ < m then x_ else 0) (c15 b_), rfl, E.leave B0 (fun x_ => if x_ < m then x_ else 0) (by intro x_ hx_; show (if x_ < m then x_ else 0) = x_; ((repeat' split) <;> omega)), (fun b_ hb_ => by show (if (c15 b_) < m then (c15 b_) else 0) < m; ((repeat' split) <;> omega))⟩
   ·replace H := (if_neg hb34).symm.trans H
    refine wp_cond_false ((F.ev rfl).trans (congrArg Value.bool (bfalse hb34))) ?_
    refine wp_skip ?_
    refine hK32 _ _ ?_
    refine wp_seq_k fun K36 hK36 => ?_
    refine wp_seq_k fun K37 hK37 => ?_
    refine reg ?_
    refine q_val F rfl rfl (by decide) (r_move F rfl) fun a F => ?_
    refine q_val F rfl rfl (by decide) (r_move F rfl) fun a F => ?_
    refine q_val F rfl rfl (by decide) (r_sgtr F rfl rfl) fun a F => ?_
    refine nil ?_
    refine hK37 _ _ ?_
    replace F : Fr a 20 [(19, .bool (!(Op.bytesLess a1.toList a2.toList || (a1.toList == a2.toList))))] := F.sub ⟨rfl, trivial⟩
    by_cases hb38 : (Op.bytesLess a1.toList a2.toList || (a1.toList == a2.toList)) = true
    ·replace H := (if_pos hb38).symm.trans H
     refine wp_cond_false ((F.ev rfl).trans (congrArg Value.bool (congrArg not hb38))) ?_
     refine wp_skip ?_
     refine hK36 _ _ ?_
     refine wp_seq_k fun K40 hK40 => ?_
     refine reg ?_
     refine q_val F rfl rfl (by decide) (r_assign F rfl) fun a F => ?_
     refine nil ?_
     refine hK40 _ _ ?_
     refine wp_ret ?_
     replace H := Option.some.inj H
     subst H
     refine out1 F rfl rfl ?_
     exact ⟨fun b_ => (fun x_ => if x_ < m then x_ else 0) (c15 b_), rfl, E.leave B0 (fun x_ => if x_ < m then x_ else 0) (by intro x_ hx_; show (if x_ < m then x_ else 0) = x_; ((repeat' split) <;> omega)), (fun b_ hb_ => by show (if (c15 b_) < m then (c15 b_) else 0) < m; ((repeat' split) <;> omega))⟩
    ·replace H := (if_neg hb38).symm.trans H
     refine wp_cond_true ((F.ev rfl).trans (congrArg Value.bool (congrArg not (bfalse hb38)))) ?_
     refine wp_seq_k fun K39 hK39 => ?_
     refine reg ?_
     refine q_val F rfl rfl (by decide) (r_assign F rfl) fun a F => ?_
     refine nil ?_
     refine hK39 _ _ ?_
     refine wp_ret ?_
     refine thenR ?_
     replace H := Option.some.inj H
     subst H
     refine out1 F rfl rfl ?_
     exact ⟨fun b_ => (fun x_ => if x_ < m then x_ else 0) (c15 b_), rfl, E.leave B0 (fun x_ => if x_ < m then x_ else 0) (by intro x_ hx_; show (if x_ < m then x_ else 0) = x_; ((repeat' split) <;> omega)), (fun b_ hb_ => by show (if (c15 b_) < m then (c15 b_) else 0) < m; ((repeat' split) <;> omega))⟩
end Go.Proofs.Ythankpjbfpcldaa.G
namespace Go.Proofs.Ythankpjbfpcldaa.G
open Go Go.RowKit
set_option linter.unusedVariables false
set_option linter.unusedSimpArgs false
set_option maxRecDepth 100000 in
set_option maxHeartbeats 4000000 in
theorem tree_Tree_Depth.calls {m : Nat} {c0 : Nat → Nat} {w0 : World} {p2 : Option Addr} {a1 : Tr} (hm0 : 0 < m) (B0 : CB m c0 w0) (h3 : TR 0 c0 w0 p2 a1) (r : Int) (H : tree_Tree_Depth.f a1 = some r) : Calls Try.prog 96 #[.pointer p2] w0 (fun e w_ => ∃ (c_ : Nat → Nat), e = .returned (.int .i64 r) ∧ Ev (fun x => False) c0 w0 c_ w_ ∧ CB m c_ w_) := by
 unfold tree_Tree_Depth.f at H
 have B := B0.mono (show m ≤ m + 1 by omega)
 have E : Ev (fun x => False ∨ m ≤ x) c0 w0 c0 w0 := Ev.refl
 refine enter (N := 9) (l := [.pointer p2]) Try.func96 rfl rfl (Nat.le_of_ble_eq_true rfl) fun a F => ?_
 refine wp_seq_k fun K4 hK4 => ?_
 refine reg ?_
 refine q_val F rfl rfl (by decide) (r_assign F rfl) fun a F => ?_
 refine nil ?_
 refine hK4 _ _ ?_
 refine wp_seq_k fun K5 hK5 => ?_
 refine wp_seq_k fun K6 hK6 => ?_
 refine reg ?_
 refine q_val F rfl rfl (by decide) (r_move F rfl) fun a F => ?_
 refine q_val F rfl rfl (by decide) (r_peqlA F Try.underlying77 rfl rfl (TR.isNil h3)) fun a F => ?_
 refine nil ?_
 refine hK6 _ _ ?_
 by_cases hb7 : (Tr.isNil a1) = true
 ·replace H := (if_pos hb7).symm.trans H
  refine wp_cond_true ((F.ev rfl).trans (congrArg Value.bool hb7)) ?_
  refine wp_seq_k fun K8 hK8 => ?_
  refine reg ?_
  refine q_val F rfl rfl (by decide) (r_assign F rfl) fun a F => ?_
  refine nil ?_
  refine hK8 _ _ ?_
  refine wp_ret ?_
  refine thenR ?_
  replace H := Option.some.inj H
  subst H
  refine out1 F rfl rfl ?_
  exact ⟨fun b_ => (fun x_ => if x_ < m then x_ else 0) (c0 b_), rfl, E.leave B0 (fun x_ => if x_ < m then x_ else 0) (by intro x_ hx_; show (if x_ < m then x_ else 0) = x_; ((repeat' split) <;> omega)), (fun b_ hb_ => by show (if (c0 b_) < m then (c0 b_) else 0) < m; ((repeat' split) <;> omega))⟩
 ·replace H := (if_neg hb7).symm.trans H
  refine wp_cond_false ((F.ev rfl).trans (congrArg Value.bool (bfalse hb7))) ?_
  refine wp_skip ?_
  refine hK5 _ _ ?_
  refine wp_seq_k fun K9 hK9 => ?_
  refine reg ?_
  refine q_val F rfl rfl (by decide) (r_move F rfl) fun a F => ?_
  replace H := cs_some H
  obtain ⟨tl10, tr11, tk12, tv13, ts14, td15, e16, H⟩ := H
  have z17 := h3
  rw [e16] at z17
  obtain ⟨ad21, lp22, rp23, A18, C19, rfl, hat24, h20, hl25, hr26⟩ := TR.node z17
  refine q_val F rfl rfl (by decide) (r_nil F rfl) fun a F => ?_
  refine q_val F rfl rfl (by decide) (r_fieldAddr F rfl ff_112_5) fun a F => ?_
  refine q_val F rfl rfl (by decide) (r_load F rfl ag_3 (AT.cell hat24 rfl)) fun a F => ?_
  refine q_val F rfl rfl (by decide) (r_assign F rfl) fun a F => ?_
  refine nil ?_
  refine hK9 _ _ ?_
  refine wp_ret ?_
  replace H := Option.some.inj H
  subst H
  refine out1 F rfl rfl ?_
  exact ⟨fun b_ => (fun x_ => if x_ < m then x_ else 0) (c0 b_), rfl, E.leave B0 (fun x_ => if x_ < m then x_ else 0) (by intro x_ hx_; show (if x_ < m then x_ else 0) = x_; ((repeat' split) <;> omega)), (fun b_ hb_ => by show (if (c0 b_) < m then (c0 b_) else 0) < m; ((repeat' split) <;> omega))⟩
end Go.Proofs.Ythankpjbfpcldaa.G
namespace Go.Proofs.Ythankpjbfpcldaa.G
open Go Go.RowKit
set_option linter.unusedVariables false
set_option linter.unusedSimpArgs false
set_option maxRecDepth 100000 in
set_option maxHeartbeats 4000000 in
theorem tree_node.calls {m : Nat} {c0 : Nat → Nat} {w0 : World} {p2 : Option Addr} {A6 : Option Addr} {C7 : Nat} {p10 : Option Addr} {a1 : Tr} {a4 : ByteArray} {a5 : table_cell} {a9 : Tr} (hm0 : 0 < m) (B0 : CB m c0 w0) (h3 : TR 0 c0 w0 p2 a1) (h8 : SL false (Kint .u8) 0 0 c0 w0 A6 C7 a5.value) (h11 : TR 0 c0 w0 p10 a9) (r : Tr) (H : tree_node.f a1 a4 a5 a9 = some r) : Calls Try.prog 89 #[.pointer p2, .string a4, .agg #[.slice A6 a5.value.length C7, .int .i64 a5.rev], .pointer p10] w0 (fun e w_ => ∃ (c_ : Nat → Nat) (P0_ : Option Addr), e = .returned (.pointer P0_) ∧ Ev (fun x => False) c0 w0 c_ w_ ∧ CB m c_ w_ ∧ TR 0 c_ w_ P0_ r) := by
 unfold tree_node.f at H
 have B := B0.mono (show m ≤ m + 2 by omega)
 have E : Ev (fun x => False ∨ m ≤ x) c0 w0 c0 w0 := Ev.refl
 refine enter (N := 27) (l := [.pointer p2, .string a4, .agg #[.slice A6 a5.value.length C7, .int .i64 a5.rev], .pointer p10]) Try.func89 rfl rfl (Nat.le_of_ble_eq_true rfl) fun a F => ?_
 refine wp_seq_k fun K12 hK12 => ?_
 refine reg ?_
 refine q_eff F rfl rfl (by decide) (e_box F (v := .agg #[.slice A6 a5.value.length C7, .int .i64 a5.rev]) rfl c0 (m + 1)) ?_
 rintro v w14 a ⟨c13, qa15, rfl, E16, h17, B18⟩ F
 replace B := B18 _ B (Nat.add_lt_add_left (by decide) m)
 replace h3 := TR.ev h3 E16 (fun q => q.elim) (fun q => q.elim)
 replace h8 := SL.ev h8 E16 (fun q => q.elim) (fun q => q.elim)
 replace h11 := TR.ev h11 E16 (fun q => q.elim) (fun q => q.elim)
 replace E := E.trans E16 (fun x q => q.elim)
 replace h17 : AT true (m + 1) c13 w14 qa15 [.slice A6 a5.value.length C7, .int .i64 a5.rev] := h17
 refine q_val F rfl rfl (by decide) (r_assign F rfl) fun a F => ?_
 refine nil ?_
 refine hK12 _ _ ?_
 refine wp_seq_k fun K20 hK20 => ?_
 refine regD (SB No c13 w14) 19 (.q 0 (.q 1 (.q 2 (.q 3 (.q 4 (.q 7 (.q 10 (.q 12 (.e 5 (.q 6 (.e 8 (.q 9 (.e 11 (.e 13 (.q 14 (.q 15 (.q 16 (.e 17 (.q 18 .nil))))))))))))))))))) Try_hm (by decide +kernel) ?_
 intro w21 w1_ w2_ w3_ w4_
 have E22 : Ev No c13 w14 c13 w21 := Ev.same w1_ w2_ w3_ w4_
 replace B := B.same w1_
 have zh3 := h3
 have zh8 := h8
 have zh11 := h11
 have zh17 := h17
 have ER : Ev No c13 w14 c13 w21 := Ev.same w1_ w2_ w3_ w4_
 replace h3 := TR.ev h3 E22 (fun q => q.elim) (fun q => q.elim)
 replace h8 := SL.ev h8 E22 (fun q => q.elim) (fun q => q.elim)
 replace h11 := TR.ev h11 E22 (fun q => q.elim) (fun q => q.elim)
 replace h17 := AT.ev h17 E22 (fun q => q.elim)
 replace E := E.trans E22 (fun x q => q.elim)
 refine d_q F rfl rfl rfl (by decide) (fun wq hS => r_move F rfl) ER.sb fun a F => ?_
 refine d_q F rfl rfl rfl (by decide) (fun wq hS => r_move F rfl) ER.sb fun a F => ?_
 refine d_q F rfl rfl rfl (by decide) (fun wq hS => r_move F rfl) ER.sb fun a F => ?_
 refine d_q F rfl rfl rfl (by decide) (fun wq hS => r_loads (cs := [.slice A6 a5.value.length C7, .int .i64 a5.rev]) F rfl ag_80 sz_80 (AT.sb zh17 hS (fun q => q.elim))) ER.sb fun a F => ?_
 refine d_q F rfl rfl rfl (by decide) (fun wq hS => r_move F rfl) ER.sb fun a F => ?_
 refine d_q F rfl rfl rfl (by decide) (fun wq hS => r_move F rfl) ER.sb fun a F => ?_
 refine d_q F rfl rfl rfl (by decide) (fun wq hS => r_move F rfl) ER.sb fun a F => ?_
 refine d_q F rfl rfl rfl (by decide) (fun wq hS => r_move F rfl) ER.sb fun a F => ?_
 refine d_e ?_
 replace H := bind_some H
 obtain ⟨t23, q24, H⟩ := H
 refine o_call F rfl (wanted_none rfl) rfl (by decide) (r_call F Try.func45 rfl (by kernel_rfl) rfl) (tree_Tree_Len.calls (m := m + 2) (Nat.add_pos_left hm0 _) B h3 _ q24) ?_
 rintro e w26 ⟨c25, rfl, E27, B28⟩
 refine ⟨_, rfl, fun a F => ?_⟩
 have B := B28
 replace ER := ER.trans E27 (fun x q => q.elim)
 replace h3 := TR.ev h3 E27 (fun q => q.elim) (fun q => q.elim)
 replace h8 := SL.ev h8 E27 (fun q => q.elim) (fun q => q.elim)
 replace h11 := TR.ev h11 E27 (fun q => q.elim) (fun q => q.elim)
 replace h17 := AT.ev h17 E27 (fun q => q.elim)
 replace E := E.trans E27 (fun x q => q.elim)
 refine ⟨fun _ => ER.sb, ?_⟩
 refine d_q F rfl rfl rfl (by decide) (fun wq hS => r_add F rfl rfl) ER.sb fun a F => ?_
 refine d_e ?_
 replace H := bind_some H
 obtain ⟨t30, q31, H⟩ := H
 refine o_call F rfl (wanted_none rfl) rfl (by decide) (r_call F Try.func45 rfl (by kernel_rfl) rfl) (tree_Tree_Len.calls (m := m + 2) (Nat.add_pos_left hm0 _) B h11 _ q31) ?_
 rintro e w33 ⟨c32, rfl, E34, B35⟩
 refine ⟨_, rfl, fun a F => ?_⟩
 have B := B35
 replace ER := ER.trans E34 (fun x q => q.elim)
 replace h3 := TR.ev h3 E34 (fun q => q.elim) (fun q => q.elim)
 replace h8 := SL.ev h8 E34 (fun q => q.elim) (fun q => q.elim)
 replace h11 := TR.ev h11 E34 (fun q => q.elim) (fun q => q.elim)
 replace h17 := AT.ev h17 E34 (fun q => q.elim)
 replace E := E.trans E34 (fun x q => q.elim)
 refine ⟨fun _ => ER.sb, ?_⟩
 refine d_q F rfl rfl rfl (by decide) (fun wq hS => r_add F rfl rfl) ER.sb fun a F => ?_
 refine d_e ?_
 replace H := bind_some H
 obtain ⟨t37, q38, H⟩ := H
 refine o_call F rfl (wanted_none rfl) rfl (by decide) (r_call F Try.func96 rfl (by kernel_rfl) rfl) (tree_Tree_Depth.calls (m := m + 2) (Nat.add_pos_left hm0 _) B h3 _ q38) ?_
 rintro e w40 ⟨c39, rfl, E41, B42⟩
 refine ⟨_, rfl, fun a F => ?_⟩
 have B := B42
 replace ER := ER.trans E41 (fun x q => q.elim)
 replace h3 := TR.ev h3 E41 (fun q => q.elim) (fun q => q.elim)
 replace h8 := SL.ev h8 E41 (fun q => q.elim) (fun q => q.elim)
 replace h11 := TR.ev h11 E41 (fun q => q.elim) (fun q => q.elim)
 replace h17 := AT.ev h17 E41 (fun q => q.elim)
 replace E := E.trans E41 (fun x q => q.elim)
 refine ⟨fun _ => ER.sb, ?_⟩
 refine d_e ?_
 replace H := bind_some H
 obtain ⟨t44, q45, H⟩ := H
 refine o_call F rfl (wanted_none rfl) rfl (by decide) (r_call F Try.func96 rfl (by kernel_rfl) rfl) (tree_Tree_Depth.calls (m := m + 2) (Nat.add_pos_left hm0 _) B h11 _ q45) ?_
 rintro e w47 ⟨c46, rfl, E48, B49⟩
 refine ⟨_, rfl, fun a F => ?_⟩
 have B := B49
 replace ER := ER.trans E48 (fun x q => q.elim)
 replace h3 := TR.ev h3 E48 (fun q => q.elim) (fun q => q.elim)
 replace h8 := SL.ev h8 E48 (fun q => q.elim) (fun q => q.elim)
 replace h11 := TR.ev h11 E48 (fun q => q.elim) (fun q => q.elim)
 replace h17 := AT.ev h17 E48 (fun q => q.elim)
 replace E := E.trans E48 (fun x q => q.elim)
 refine ⟨fun _ => ER.sb, ?_⟩
 refine d_q F rfl rfl rfl (by decide) (fun wq hS => r_max F rfl rfl) ER.sb fun a F => ?_
 refine d_q F rfl rfl rfl (by decide) (fun wq hS => r_add F rfl rfl) ER.sb fun a F => ?_
 refine d_q F rfl rfl rfl (by decide) (fun wq hS => r_build (v := .agg #[.pointer p2, .pointer p10, .string a4, .slice A6 a5.value.length C7, .int .i64 a5.rev, .int .i64 (IntKind.i64.wrap ((IntKind.i64.wrap (t23 + 1)) + t30)), .int .i64 (IntKind.i64.wrap (1 + (max t37 t44)))]) F [(0, .pointer p2), (1, .pointer p10), (2, .string a4), (3, .agg #[.slice A6 a5.value.length C7, .int .i64 a5.rev]), (4, .int .i64 (IntKind.i64.wrap ((IntKind.i64.wrap (t23 + 1)) + t30))), (5, .int .i64 (IntKind.i64.wrap (1 + (max t37 t44))))] (by exact ⟨rfl, rfl, rfl, rfl, rfl, rfl, rfl, rfl, rfl, rfl, rfl, rfl, trivial⟩) (fun w => by kernel_rfl)) ER.sb fun a F => ?_
 refine d_e ?_
 refine o_eff F rfl rfl rfl (by decide) (e_box F (v := .agg #[.pointer p2, .pointer p10, .string a4, .slice A6 a5.value.length C7, .int .i64 a5.rev, .int .i64 (IntKind.i64.wrap ((IntKind.i64.wrap (t23 + 1)) + t30)), .int .i64 (IntKind.i64.wrap (1 + (max t37 t44)))]) rfl c46 0) ?_
 rintro v w52 a ⟨c51, qa53, rfl, E54, h55, B56⟩ F
 replace B := B56 _ B (Nat.add_pos_left hm0 _)
 replace ER := ER.trans E54 (fun x q => q.elim)
 replace h3 := TR.ev h3 E54 (fun q => q.elim) (fun q => q.elim)
 replace h8 := SL.ev h8 E54 (fun q => q.elim) (fun q => q.elim)
 replace h11 := TR.ev h11 E54 (fun q => q.elim) (fun q => q.elim)
 replace h17 := AT.ev h17 E54 (fun q => q.elim)
 replace E := E.trans E54 (fun x q => q.elim)
 replace h55 : AT true 0 c51 w52 qa53 [.pointer p2, .pointer p10, .string a4, .slice A6 a5.value.length C7, .int .i64 a5.rev, .int .i64 (IntKind.i64.wrap ((IntKind.i64.wrap (t23 + 1)) + t30)), .int .i64 (IntKind.i64.wrap (1 + (max t37 t44)))] := h55
 refine ⟨fun _ => ER.sb, ?_⟩
 refine d_q F rfl rfl rfl (by decide) (fun wq hS => r_assign F rfl) ER.sb fun a F => ?_
 refine d_nil ?_
 refine hK20 _ _ ?_
 replace F : Fr a 27 [(8, .pointer (some qa53))] := F.sub ⟨rfl, trivial⟩
 refine wp_ret ?_
 have h58 : TR 0 c51 w52 (some qa53) (Tr.node a1 a9 a4 a5 (IntKind.i64.wrap ((IntKind.i64.wrap (t23 + 1)) + t30)) (IntKind.i64.wrap (1 + (max t37 t44)))) := TR.mk h55.r h8 h3 h11
 replace H := Option.some.inj H
 subst H
 refine out1 F rfl rfl ?_
 exact ⟨fun b_ => (fun x_ => if x_ < m then x_ else 0) (c51 b_), (some qa53), rfl, E.leave B0 (fun x_ => if x_ < m then x_ else 0) (by intro x_ hx_; show (if x_ < m then x_ else 0) = x_; ((repeat' split) <;> omega)), (fun b_ hb_ => by show (if (c51 b_) < m then (c51 b_) else 0) < m; ((repeat' split) <;> omega)), TR.rc h58 (fun k_ hk_ => by show (if (c51 k_) < m then (c51 k_) else 0) = _; rw [hk_]; ((repeat' split) <;> omega)) (fun k_ hk_ => by show (if (c51 k_) < m then (c51 k_) else 0) = _; rw [hk_]; ((repeat' split) <;> omega))⟩
end Go.Proofs.Ythankpjbfpcldaa.G
namespace Go.Proofs.Ythankpjbfpcldaa.G
open Go Go.RowKit
set_option linter.unusedVariables false
set_option linter.unusedSimpArgs false
set_option maxRecDepth 100000 in
set_option maxHeartbeats 4000000 in
theorem tree_turnLeft.calls {m : Nat} {c0 : Nat → Nat} {w0 : World} {p2 : Option Addr} {a1 : Tr} (hm0 : 0 < m) (B0 : CB m c0 w0) (h3 : TR 0 c0 w0 p2 a1) (r : Tr) (H : tree_turnLeft.f a1 = some r) : Calls Try.prog 98 #[.pointer p2] w0 (fun e w_ => ∃ (c_ : Nat → Nat) (P0_ : Option Addr), e = .returned (.pointer P0_) ∧ Ev (fun x => False) c0 w0 c_ w_ ∧ CB m c_ w_ ∧ TR 0 c_ w_ P0_ r) := by
 unfold tree_turnLeft.f at H
 have B := B0.mono (show m ≤ m + 1 by omega)
 have E : Ev (fun x => False ∨ m ≤ x) c0 w0 c0 w0 := Ev.refl
 refine enter (N := 38) (l := [.pointer p2]) Try.func98 rfl rfl (Nat.le_of_ble_eq_true rfl) fun a F => ?_
 refine wp_seq_k fun K4 hK4 => ?_
 refine reg ?_
 refine q_val F rfl rfl (by decide) (r_assign F rfl) fun a F => ?_
 refine nil ?_
 refine hK4 _ _ ?_
 refine wp_seq_k fun K5 hK5 => ?_
 refine reg ?_
 refine q_val F rfl rfl (by decide) (r_move F rfl) fun a F => ?_
 replace H := cs_some H
 obtain ⟨tl6, tr7, tk8, tv9, ts10, td11, e12, H⟩ := H
 have z13 := h3
 rw [e12] at z13
 obtain ⟨ad17, lp18, rp19, A14, C15, rfl, hat20, h16, hl21, hr22⟩ := TR.node z13
 refine q_val F rfl rfl (by decide) (r_nil F rfl) fun a F => ?_
 refine q_val F rfl rfl (by decide) (r_fieldAddr F rfl ff_112_1) fun a F => ?_
 refine q_val F rfl rfl (by decide) (r_load F rfl ag_77 (AT.cell hat20 rfl)) fun a F => ?_
 refine q_val F rfl rfl (by decide) (r_assign F rfl) fun a F => ?_
 refine nil ?_
 refine hK5 _ _ ?_
 refine wp_seq_k fun K24 hK24 => ?_
 refine regD (SB No c0 w0) 31 (.q 0 (.q 1 (.q 2 (.q 3 (.q 4 (.q 5 (.q 6 (.q 7 (.q 8 (.q 9 (.q 10 (.q 11 (.q 12 (.q 13 (.q 14 (.q 15 (.q 17 (.q 18 (.q 19 (.q 20 (.q 21 (.q 22 (.q 23 (.q 24 (.q 25 (.q 26 (.q 27 (.q 28 (.e 16 (.e 29 (.q 30 .nil))))))))))))))))))))))))))))))) Try_hm (by decide +kernel) ?_
 intro w25 w1_ w2_ w3_ w4_
 have E26 : Ev No c0 w0 c0 w25 := Ev.same w1_ w2_ w3_ w4_
 replace B := B.same w1_
 have zh3 := h3
 have zh16 := h16
 have zhl21 := hl21
 have zhr22 := hr22
 have zhat20 := hat20
 have ER : Ev No c0 w0 c0 w25 := Ev.same w1_ w2_ w3_ w4_
 replace h3 := TR.ev h3 E26 (fun q => q.elim) (fun q => q.elim)
 replace h16 := SL.ev h16 E26 (fun q => q.elim) (fun q => q.elim)
 replace hl21 := TR.ev hl21 E26 (fun q => q.elim) (fun q => q.elim)
 replace hr22 := TR.ev hr22 E26 (fun q => q.elim) (fun q => q.elim)
 replace hat20 := AT.ev hat20 E26 (fun q => q.elim)
 replace E := E.trans E26 (fun x q => q.elim)
 refine d_q F rfl rfl rfl (by decide) (fun wq hS => r_move F rfl) ER.sb fun a F => ?_
 refine d_q F rfl rfl rfl (by decide) (fun wq hS => r_nil F rfl) ER.sb fun a F => ?_
 refine d_q F rfl rfl rfl (by decide) (fun wq hS => r_fieldAddr F rfl ff_112_0) ER.sb fun a F => ?_
 refine d_q F rfl rfl rfl (by decide) (fun wq hS => r_load F rfl ag_77 (AT.cell (AT.sb zhat20 hS (fun q => q.elim)) rfl)) ER.sb fun a F => ?_
 refine d_q F rfl rfl rfl (by decide) (fun wq hS => r_move F rfl) ER.sb fun a F => ?_
 refine d_q F rfl rfl rfl (by decide) (fun wq hS => r_nil F rfl) ER.sb fun a F => ?_
 refine d_q F rfl rfl rfl (by decide) (fun wq hS => r_fieldAddr F rfl ff_112_2) ER.sb fun a F => ?_
 refine d_q F rfl rfl rfl (by decide) (fun wq hS => r_load F rfl ag_9 (AT.cell (AT.sb zhat20 hS (fun q => q.elim)) rfl)) ER.sb fun a F => ?_
 refine d_q F rfl rfl rfl (by decide) (fun wq hS => r_move F rfl) ER.sb fun a F => ?_
 refine d_q F rfl rfl rfl (by decide) (fun wq hS => r_nil F rfl) ER.sb fun a F => ?_
 refine d_q F rfl rfl rfl (by decide) (fun wq hS => r_fieldAddr F rfl ff_112_3) ER.sb fun a F => ?_
 refine d_q F rfl rfl rfl (by decide) (fun wq hS => r_loads (cs := [.slice A14 tv9.value.length C15, .int .i64 tv9.rev]) F rfl ag_80 sz_80 (AT.sub (AT.sb zhat20 hS (fun q => q.elim)) 3 2 (Nat.le_of_ble_eq_true rfl))) ER.sb fun a F => ?_
 refine d_q F rfl rfl rfl (by decide) (fun wq hS => r_move F rfl) ER.sb fun a F => ?_
 replace H := cs_some H
 obtain ⟨tl27, tr28, tk29, tv30, ts31, td32, e33, H⟩ := H
 have z34 := zhr22
 rw [e33] at z34
 obtain ⟨ad38, lp39, rp40, A35, C36, rfl, hat41, h37, hl42, hr43⟩ := TR.node z34
 have zh37 := h37
 replace h37 := SL.ev h37 ER (fun q => q.elim) (fun q => q.elim)
 have zhl42 := hl42
 replace hl42 := TR.ev hl42 ER (fun q => q.elim) (fun q => q.elim)
 have zhr43 := hr43
 replace hr43 := TR.ev hr43 ER (fun q => q.elim) (fun q => q.elim)
 have zhat41 := hat41
 replace hat41 := AT.ev hat41 ER (fun q => q.elim)
 refine d_q F rfl rfl rfl (by decide) (fun wq hS => r_nil F rfl) ER.sb fun a F => ?_
 refine d_q F rfl rfl rfl (by decide) (fun wq hS => r_fieldAddr F rfl ff_112_0) ER.sb fun a F => ?_
 refine d_q F rfl rfl rfl (by decide) (fun wq hS => r_load F rfl ag_77 (AT.cell (AT.sb zhat41 hS (fun q => q.elim)) rfl)) ER.sb fun a F => ?_
 refine d_q F rfl rfl rfl (by decide) (fun wq hS => r_move F rfl) ER.sb fun a F => ?_
 refine d_q F rfl rfl rfl (by decide) (fun wq hS => r_nil F rfl) ER.sb fun a F => ?_
 refine d_q F rfl rfl rfl (by decide) (fun wq hS => r_fieldAddr F rfl ff_112_2) ER.sb fun a F => ?_
 refine d_q F rfl rfl rfl (by decide) (fun wq hS => r_load F rfl ag_9 (AT.cell (AT.sb zhat41 hS (fun q => q.elim)) rfl)) ER.sb fun a F => ?_
 refine d_q F rfl rfl rfl (by decide) (fun wq hS => r_move F rfl) ER.sb fun a F => ?_
 refine d_q F rfl rfl rfl (by decide) (fun wq hS => r_nil F rfl) ER.sb fun a F => ?_
 refine d_q F rfl rfl rfl (by decide) (fun wq hS => r_fieldAddr F rfl ff_112_3) ER.sb fun a F => ?_
 refine d_q F rfl rfl rfl (by decide) (fun wq hS => r_loads (cs := [.slice A35 tv30.value.length C36, .int .i64 tv30.rev]) F rfl ag_80 sz_80 (AT.sub (AT.sb zhat41 hS (fun q => q.elim)) 3 2 (Nat.le_of_ble_eq_true rfl))) ER.sb fun a F => ?_
 refine d_q F rfl rfl rfl (by decide) (fun wq hS => r_move F rfl) ER.sb fun a F => ?_
 refine d_q F rfl rfl rfl (by decide) (fun wq hS => r_nil F rfl) ER.sb fun a F => ?_
 refine d_q F rfl rfl rfl (by decide) (fun wq hS => r_fieldAddr F rfl ff_112_1) ER.sb fun a F => ?_
 refine d_q F rfl rfl rfl (by decide) (fun wq hS => r_load F rfl ag_77 (AT.cell (AT.sb zhat41 hS (fun q => q.elim)) rfl)) ER.sb fun a F => ?_
 refine d_e ?_
 replace H := bind_some H
 obtain ⟨t45, q46, H⟩ := H
 refine o_call F rfl (wanted_none rfl) rfl (by decide) (r_call F Try.func89 rfl (by kernel_rfl) rfl) (tree_node.calls (m := m + 1) (Nat.add_pos_left hm0 _) B hl21 h16 hl42 _ q46) ?_
 rintro e w48 ⟨c47, p51, rfl, E49, B50, h52⟩
 refine ⟨_, rfl, fun a F => ?_⟩
 have B := B50
 replace ER := ER.trans E49 (fun x q => q.elim)
 replace h3 := TR.ev h3 E49 (fun q => q.elim) (fun q => q.elim)
 replace h16 := SL.ev h16 E49 (fun q => q.elim) (fun q => q.elim)
 replace hl21 := TR.ev hl21 E49 (fun q => q.elim) (fun q => q.elim)
 replace hr22 := TR.ev hr22 E49 (fun q => q.elim) (fun q => q.elim)
 replace hat20 := AT.ev hat20 E49 (fun q => q.elim)
 replace h37 := SL.ev h37 E49 (fun q => q.elim) (fun q => q.elim)
 replace hl42 := TR.ev hl42 E49 (fun q => q.elim) (fun q => q.elim)
 replace hr43 := TR.ev hr43 E49 (fun q => q.elim) (fun q => q.elim)
 replace hat41 := AT.ev hat41 E49 (fun q => q.elim)
 replace E := E.trans E49 (fun x q => q.elim)
 refine ⟨fun _ => ER.sb, ?_⟩
 refine d_e ?_
 replace H := bind_some H
 obtain ⟨t54, q55, H⟩ := H
 refine o_call F rfl (wanted_none rfl) rfl (by decide) (r_call F Try.func89 rfl (by kernel_rfl) rfl) (tree_node.calls (m := m + 1) (Nat.add_pos_left hm0 _) B h52 h37 hr43 _ q55) ?_
 rintro e w57 ⟨c56, p60, rfl, E58, B59, h61⟩
 refine ⟨_, rfl, fun a F => ?_⟩
 have B := B59
 replace ER := ER.trans E58 (fun x q => q.elim)
 replace h3 := TR.ev h3 E58 (fun q => q.elim) (fun q => q.elim)
 replace h16 := SL.ev h16 E58 (fun q => q.elim) (fun q => q.elim)
 replace hl21 := TR.ev hl21 E58 (fun q => q.elim) (fun q => q.elim)
 replace hr22 := TR.ev hr22 E58 (fun q => q.elim) (fun q => q.elim)
 replace hat20 := AT.ev hat20 E58 (fun q => q.elim)
 replace h37 := SL.ev h37 E58 (fun q => q.elim) (fun q => q.elim)
 replace hl42 := TR.ev hl42 E58 (fun q => q.elim) (fun q => q.elim)
 replace hr43 := TR.ev hr43 E58 (fun q => q.elim) (fun q => q.elim)
 replace hat41 := AT.ev hat41 E58 (fun q => q.elim)
 replace h52 := TR.ev h52 E58 (fun q => q.elim) (fun q => q.elim)
 replace E := E.trans E58 (fun x q => q.elim)
 refine ⟨fun _ => ER.sb, ?_⟩
 refine d_q F rfl rfl rfl (by decide) (fun wq hS => r_assign F rfl) ER.sb fun a F => ?_
 refine d_nil ?_
 refine hK24 _ _ ?_
 replace F : Fr a 38 [(2, .pointer p60)] := F.sub ⟨rfl, trivial⟩
 refine wp_ret ?_
 replace H := Option.some.inj H
 subst H
 refine out1 F rfl rfl ?_
 exact ⟨fun b_ => (fun x_ => if x_ < m then x_ else 0) (c56 b_), p60, rfl, E.leave B0 (fun x_ => if x_ < m then x_ else 0) (by intro x_ hx_; show (if x_ < m then x_ else 0) = x_; ((repeat' split) <;> omega)), (fun b_ hb_ => by show (if (c56 b_) < m then (c56 b_) else 0) < m; ((repeat' split) <;> omega)), TR.rc h61 (fun k_ hk_ => by show (if (c56 k_) < m then (c56 k_) else 0) = _; rw [hk_]; ((repeat' split) <;> omega)) (fun k_ hk_ => by show (if (c56 k_) < m then (c56 k_) else 0) = _; rw [hk_]; ((repeat' split) <;> omega))⟩
end Go.Proofs.Ythankpjbfpcldaa.G
namespace Go.Proofs.Ythankpjbfpcldaa.G
open Go Go.RowKit
set_option linter.unusedVariables false
set_option linter.unusedSimpArgs false
set_option maxRecDepth 100000 in
set_option maxHeartbeats 4000000 in
theorem tree_turnRight.calls {m : Nat} {c0 : Nat → Nat} {w0 : World} {p2 : Option Addr} {a1 : Tr} (hm0 : 0 < m) (B0 : CB m c0 w0) (h3 : TR 0 c0 w0 p2 a1) (r : Tr) (H : tree_turnRight.f a1 = some r) : Calls Try.prog 97 #[.pointer p2] w0 (fun e w_ => ∃ (c_ : Nat → Nat) (P0_ : Option Addr), e = .returned (.pointer P0_) ∧ Ev (fun x => False) c0 w0 c_ w_ ∧ CB m c_ w_ ∧ TR 0 c_ w_ P0_ r) := by
 unfold tree_turnRight.f at H
 have B := B0.mono (show m ≤ m + 1 by omega)
 have E : Ev (fun x => False ∨ m ≤ x) c0 w0 c0 w0 := Ev.refl
 refine enter (N := 38) (l := [.pointer p2]) Try.func97 rfl rfl (Nat.le_of_ble_eq_true rfl) fun a F => ?_
 refine wp_seq_k fun K4 hK4 => ?_
 refine reg ?_
 refine q_val F rfl rfl (by decide) (r_assign F rfl) fun a F => ?_
 refine nil ?_
 refine hK4 _ _ ?_
 refine wp_seq_k fun K5 hK5 => ?_
 refine reg ?_
 refine q_val F rfl rfl (by decide) (r_move F rfl) fun a F => ?_
 replace H := cs_some H
 obtain ⟨tl6, tr7, tk8, tv9, ts10, td11, e12, H⟩ := H
 have z13 := h3
 rw [e12] at z13
 obtain ⟨ad17, lp18, rp19, A14, C15, rfl, hat20, h16, hl21, hr22⟩ := TR.node z13
 refine q_val F rfl rfl (by decide) (r_nil F rfl) fun a F => ?_
 refine q_val F rfl rfl (by decide) (r_fieldAddr F rfl ff_112_0) fun a F => ?_
 refine q_val F rfl rfl (by decide) (r_load F rfl ag_77 (AT.cell hat20 rfl)) fun a F => ?_
 refine q_val F rfl rfl (by decide) (r_assign F rfl) fun a F => ?_
 refine nil ?_
 refine hK5 _ _ ?_
 refine wp_seq_k fun K24 hK24 => ?_
 refine regD (SB No c0 w0) 31 (.q 0 (.q 1 (.q 2 (.q 3 (.q 4 (.q 5 (.q 6 (.q 7 (.q 8 (.q 9 (.q 10 (.q 11 (.q 12 (.q 13 (.q 14 (.q 15 (.q 16 (.q 17 (.q 18 (.q 19 (.q 20 (.q 21 (.q 22 (.q 23 (.q 24 (.q 25 (.q 26 (.q 27 (.e 28 (.e 29 (.q 30 .nil))))))))))))))))))))))))))))))) Try_hm (by decide +kernel) ?_
 intro w25 w1_ w2_ w3_ w4_
 have E26 : Ev No c0 w0 c0 w25 := Ev.same w1_ w2_ w3_ w4_
 replace B := B.same w1_
 have zh3 := h3
 have zh16 := h16
 have zhl21 := hl21
 have zhr22 := hr22
 have zhat20 := hat20
 have ER : Ev No c0 w0 c0 w25 := Ev.same w1_ w2_ w3_ w4_
 replace h3 := TR.ev h3 E26 (fun q => q.elim) (fun q => q.elim)
 replace h16 := SL.ev h16 E26 (fun q => q.elim) (fun q => q.elim)
 replace hl21 := TR.ev hl21 E26 (fun q => q.elim) (fun q => q.elim)
 replace hr22 := TR.ev hr22 E26 (fun q => q.elim) (fun q => q.elim)
 replace hat20 := AT.ev hat20 E26 (fun q => q.elim)
 replace E := E.trans E26 (fun x q => q.elim)
 refine d_q F rfl rfl rfl (by decide) (fun wq hS => r_move F rfl) ER.sb fun a F => ?_
 replace H := cs_some H
 obtain ⟨tl27, tr28, tk29, tv30, ts31, td32, e33, H⟩ := H
 have z34 := zhl21
 rw [e33] at z34
 obtain ⟨ad38, lp39, rp40, A35, C36, rfl, hat41, h37, hl42, hr43⟩ := TR.node z34
 have zh37 := h37
 replace h37 := SL.ev h37 ER (fun q => q.elim) (fun q => q.elim)
 have zhl42 := hl42
 replace hl42 := TR.ev hl42 ER (fun q => q.elim) (fun q => q.elim)
 have zhr43 := hr43
 replace hr43 := TR.ev hr43 ER (fun q => q.elim) (fun q => q.elim)
 have zhat41 := hat41
 replace hat41 := AT.ev hat41 ER (fun q => q.elim)
 refine d_q F rfl rfl rfl (by decide) (fun wq hS => r_nil F rfl) ER.sb fun a F => ?_
 refine d_q F rfl rfl rfl (by decide) (fun wq hS => r_fieldAddr F rfl ff_112_0) ER.sb fun a F => ?_
 refine d_q F rfl rfl rfl (by decide) (fun wq hS => r_load F rfl ag_77 (AT.cell (AT.sb zhat41 hS (fun q => q.elim)) rfl)) ER.sb fun a F => ?_
 refine d_q F rfl rfl rfl (by decide) (fun wq hS => r_move F rfl) ER.sb fun a F => ?_
 refine d_q F rfl rfl rfl (by decide) (fun wq hS => r_nil F rfl) ER.sb fun a F => ?_
 refine d_q F rfl rfl rfl (by decide) (fun wq hS => r_fieldAddr F rfl ff_112_2) ER.sb fun a F => ?_
 refine d_q F rfl rfl rfl (by decide) (fun wq hS => r_load F rfl ag_9 (AT.cell (AT.sb zhat41 hS (fun q => q.elim)) rfl)) ER.sb fun a F => ?_
 refine d_q F rfl rfl rfl (by decide) (fun wq hS => r_move F rfl) ER.sb fun a F => ?_
 refine d_q F rfl rfl rfl (by decide) (fun wq hS => r_nil F rfl) ER.sb fun a F => ?_
 refine d_q F rfl rfl rfl (by decide) (fun wq hS => r_fieldAddr F rfl ff_112_3) ER.sb fun a F => ?_
 refine d_q F rfl rfl rfl (by decide) (fun wq hS => r_loads (cs := [.slice A35 tv30.value.length C36, .int .i64 tv30.rev]) F rfl ag_80 sz_80 (AT.sub (AT.sb zhat41 hS (fun q => q.elim)) 3 2 (Nat.le_of_ble_eq_true rfl))) ER.sb fun a F => ?_
 refine d_q F rfl rfl rfl (by decide) (fun wq hS => r_move F rfl) ER.sb fun a F => ?_
 refine d_q F rfl rfl rfl (by decide) (fun wq hS => r_nil F rfl) ER.sb fun a F => ?_
 refine d_q F rfl rfl rfl (by decide) (fun wq hS => r_fieldAddr F rfl ff_112_1) ER.sb fun a F => ?_
 refine d_q F rfl rfl rfl (by decide) (fun wq hS => r_load F rfl ag_77 (AT.cell (AT.sb zhat41 hS (fun q => q.elim)) rfl)) ER.sb fun a F => ?_
 refine d_q F rfl rfl rfl (by decide) (fun wq hS => r_move F rfl) ER.sb fun a F => ?_
 refine d_q F rfl rfl rfl (by decide) (fun wq hS => r_nil F rfl) ER.sb fun a F => ?_
 refine d_q F rfl rfl rfl (by decide) (fun wq hS => r_fieldAddr F rfl ff_112_2) ER.sb fun a F => ?_
 refine d_q F rfl rfl rfl (by decide) (fun wq hS => r_load F rfl ag_9 (AT.cell (AT.sb zhat20 hS (fun q => q.elim)) rfl)) ER.sb fun a F => ?_
 refine d_q F rfl rfl rfl (by decide) (fun wq hS => r_move F rfl) ER.sb fun a F => ?_
 refine d_q F rfl rfl rfl (by decide) (fun wq hS => r_nil F rfl) ER.sb fun a F => ?_
 refine d_q F rfl rfl rfl (by decide) (fun wq hS => r_fieldAddr F rfl ff_112_3) ER.sb fun a F => ?_
 refine d_q F rfl rfl rfl (by decide) (fun wq hS => r_loads (cs := [.slice A14 tv9.value.length C15, .int .i64 tv9.rev]) F rfl ag_80 sz_80 (AT.sub (AT.sb zhat20 hS (fun q => q.elim)) 3 2 (Nat.le_of_ble_eq_true rfl))) ER.sb fun a F => ?_
 refine d_q F rfl rfl rfl (by decide) (fun wq hS => r_move F rfl) ER.sb fun a F => ?_
 refine d_q F rfl rfl rfl (by decide) (fun wq hS => r_nil F rfl) ER.sb fun a F => ?_
 refine d_q F rfl rfl rfl (by decide) (fun wq hS => r_fieldAddr F rfl ff_112_1) ER.sb fun a F => ?_
 refine d_q F rfl rfl rfl (by decide) (fun wq hS => r_load F rfl ag_77 (AT.cell (AT.sb zhat20 hS (fun q => q.elim)) rfl)) ER.sb fun a F => ?_
 refine d_e ?_
 replace H := bind_some H
 obtain ⟨t45, q46, H⟩ := H
 refine o_call F rfl (wanted_none rfl) rfl (by decide) (r_call F Try.func89 rfl (by kernel_rfl) rfl) (tree_node.calls (m := m + 1) (Nat.add_pos_left hm0 _) B hr43 h16 hr22 _ q46) ?_
 rintro e w48 ⟨c47, p51, rfl, E49, B50, h52⟩
 refine ⟨_, rfl, fun a F => ?_⟩
 have B := B50
 replace ER := ER.trans E49 (fun x q => q.elim)
 replace h3 := TR.ev h3 E49 (fun q => q.elim) (fun q => q.elim)
 replace h16 := SL.ev h16 E49 (fun q => q.elim) (fun q => q.elim)
 replace hl21 := TR.ev hl21 E49 (fun q => q.elim) (fun q => q.elim)
 replace hr22 := TR.ev hr22 E49 (fun q => q.elim) (fun q => q.elim)
 replace hat20 := AT.ev hat20 E49 (fun q => q.elim)
 replace h37 := SL.ev h37 E49 (fun q => q.elim) (fun q => q.elim)
 replace hl42 := TR.ev hl42 E49 (fun q => q.elim) (fun q => q.elim)
 replace hr43 := TR.ev hr43 E49 (fun q => q.elim) (fun q => q.elim)
 replace hat41 := AT.ev hat41 E49 (fun q => q.elim)
 replace E := E.trans E49 (fun x q => q.elim)
 refine ⟨fun _ => ER.sb, ?_⟩
 refine d_e ?_
 replace H := bind_some H
 obtain ⟨t54, q55, H⟩ := H
 refine o_call F rfl (wanted_none rfl) rfl (by decide) (r_call F Try.func89 rfl (by kernel_rfl) rfl) (tree_node.calls (m := m + 1) (Nat.add_pos_left hm0 _) B hl42 h37 h52 _ q55) ?_
 rintro e w57 ⟨c56, p60, rfl, E58, B59, h61⟩
 refine ⟨_, rfl, fun a F => ?_⟩
 have B := B59
 replace ER := ER.trans E58 (fun x q => q.elim)
 replace h3 := TR.ev h3 E58 (fun q => q.elim) (fun q => q.elim)
 replace h16 := SL.ev h16 E58 (fun q => q.elim) (fun q => q.elim)
 replace hl21 := TR.ev hl21 E58 (fun q => q.elim) (fun q => q.elim)
 replace hr22 := TR.ev hr22 E58 (fun q => q.elim) (fun q => q.elim)
 replace hat20 := AT.ev hat20 E58 (fun q => q.elim)
 replace h37 := SL.ev h37 E58 (fun q => q.elim) (fun q => q.elim)
 replace hl42 := TR.ev hl42 E58 (fun q => q.elim) (fun q => q.elim)
 replace hr43 := TR.ev hr43 E58 (fun q => q.elim) (fun q => q.elim)
 replace hat41 := AT.ev hat41 E58 (fun q => q.elim)
 replace h52 := TR.ev h52 E58 (fun q => q.elim) (fun q => q.elim)
 replace E := E.trans E58 (fun x q => q.elim)
 refine ⟨fun _ => ER.sb, ?_⟩
 refine d_q F rfl rfl rfl (by decide) (fun wq hS => r_assign F rfl) ER.sb fun a F => ?_
 refine d_nil ?_
 refine hK24 _ _ ?_
 replace F : Fr a 38 [(2, .pointer p60)] := F.sub ⟨rfl, trivial⟩
 refine wp_ret ?_
 replace H := Option.some.inj H
 subst H
 refine out1 F rfl rfl ?_
 exact ⟨fun b_ => (fun x_ => if x_ < m then x_ else 0) (c56 b_), p60, rfl, E.leave B0 (fun x_ => if x_ < m then x_ else 0) (by intro x_ hx_; show (if x_ < m then x_ else 0) = x_; ((repeat' split) <;> omega)), (fun b_ hb_ => by show (if (c56 b_) < m then (c56 b_) else 0) < m; ((repeat' split) <;> omega)), TR.rc h61 (fun k_ hk_ => by show (if (c56 k_) < m then (c56 k_) else 0) = _; rw [hk_]; ((repeat' split) <;> omega)) (fun k_ hk_ => by show (if (c56 k_) < m then (c56 k_) else 0) = _; rw [hk_]; ((repeat' split) <;> omega))⟩
end Go.Proofs.Ythankpjbfpcldaa.G
namespace Go.Proofs.Ythankpjbfpcldaa.G
open Go Go.RowKit
set_option linter.unusedVariables false
set_option linter.unusedSimpArgs false
set_option maxRecDepth 100000 in
set_option maxHeartbeats 4000000 in
theorem tree_join.calls (k : Nat) : ∀ {m : Nat} {c0 : Nat → Nat} {w0 : World} {p2 : Option Addr} {A6 : Option Addr} {C7 : Nat} {p10 : Option Addr} {a1 : Tr} {a4 : ByteArray} {a5 : table_cell} {a9 : Tr} (hm0 : 0 < m) (B0 : CB m c0 w0) (h3 : TR 0 c0 w0 p2 a1) (h8 : SL false (Kint .u8) 0 0 c0 w0 A6 C7 a5.value) (h11 : TR 0 c0 w0 p10 a9) (r : Tr) (H : tree_join.f k a1 a4 a5 a9 = some r), Calls Try.prog 87 #[.pointer p2, .string a4, .agg #[.slice A6 a5.value.length C7, .int .i64 a5.rev], .pointer p10] w0 (fun e w_ => ∃ (c_ : Nat → Nat) (P0_ : Option Addr), e = .returned (.pointer P0_) ∧ Ev (fun x => False) c0 w0 c_ w_ ∧ CB m c_ w_ ∧ TR 0 c_ w_ P0_ r) := by
 induction k with
 | zero => intro m c0 w0 p2 A6 C7 p10 a1 a4 a5 a9 hm0 B0 h3 h8 h11 r H; exact absurd H (by simp [tree_join.f])
 | succ k ih =>
  intro m c0 w0 p2 A6 C7 p10 a1 a4 a5 a9 hm0 B0 h3 h8 h11 r H
  unfold tree_join.f at H
  have B := B0.mono (show m ≤ m + 2 by omega)
  have E : Ev (fun x => False ∨ m ≤ x) c0 w0 c0 w0 := Ev.refl
  refine enter (N := 152) (l := [.pointer p2, .string a4, .agg #[.slice A6 a5.value.length C7, .int .i64 a5.rev], .pointer p10]) Try.func87 rfl rfl (Nat.le_of_ble_eq_true rfl) fun a F => ?_
  refine wp_seq_k fun K12 hK12 => ?_
  refine reg ?_
  refine q_eff F rfl rfl (by decide) (e_box F (v := .agg #[.slice A6 a5.value.length C7, .int .i64 a5.rev]) rfl c0 (m + 1)) ?_
  rintro v w14 a ⟨c13, qa15, rfl, E16, h17, B18⟩ F
  replace B := B18 _ B (Nat.add_lt_add_left (by decide) m)
  replace h3 := TR.ev h3 E16 (fun q => q.elim) (fun q => q.elim)
  replace h8 := SL.ev h8 E16 (fun q => q.elim) (fun q => q.elim)
  replace h11 := TR.ev h11 E16 (fun q => q.elim) (fun q => q.elim)
  replace E := E.trans E16 (fun x q => q.elim)
  replace h17 : AT true (m + 1) c13 w14 qa15 [.slice A6 a5.value.length C7, .int .i64 a5.rev] := h17
  refine q_val F rfl rfl (by decide) (r_assign F rfl) fun a F => ?_
  refine nil ?_
  refine hK12 _ _ ?_
  refine wp_seq_k fun K20 hK20 => ?_
  refine wp_block ?_
  refine wp_seq_k fun K21 hK21 => ?_
  refine reg ?_
  refine q_val F rfl rfl (by decide) (r_move F rfl) fun a F => ?_
  replace H := bind_some H
  obtain ⟨t22, q23, H⟩ := H
  refine q_call F rfl rfl (by decide) (r_call F Try.func96 rfl (by kernel_rfl) rfl) (tree_Tree_Depth.calls (m := m + 2) (Nat.add_pos_left hm0 _) B h3 _ q23) ?_
  rintro e w25 ⟨c24, rfl, E26, B27⟩
  refine ⟨_, rfl, fun a F => ?_⟩
  have B := B27
  replace h3 := TR.ev h3 E26 (fun q => q.elim) (fun q => q.elim)
  replace h8 := SL.ev h8 E26 (fun q => q.elim) (fun q => q.elim)
  replace h11 := TR.ev h11 E26 (fun q => q.elim) (fun q => q.elim)
  replace h17 := AT.ev h17 E26 (fun q => q.elim)
  replace E := E.trans E26 (fun x q => q.elim)
  refine q_val F rfl rfl (by decide) (r_move F rfl) fun a F => ?_
  replace H := bind_some H
  obtain ⟨t29, q30, H⟩ := H
  refine q_call F rfl rfl (by decide) (r_call F Try.func96 rfl (by kernel_rfl) rfl) (tree_Tree_Depth.calls (m := m + 2) (Nat.add_pos_left hm0 _) B h11 _ q30) ?_
  rintro e w32 ⟨c31, rfl, E33, B34⟩
  refine ⟨_, rfl, fun a F => ?_⟩
  have B := B34
  replace h3 := TR.ev h3 E33 (fun q => q.elim) (fun q => q.elim)
  replace h8 := SL.ev h8 E33 (fun q => q.elim) (fun q => q.elim)
  replace h11 := TR.ev h11 E33 (fun q => q.elim) (fun q => q.elim)
  replace h17 := AT.ev h17 E33 (fun q => q.elim)
  replace E := E.trans E33 (fun x q => q.elim)
  refine q_val F rfl rfl (by decide) (r_add F rfl rfl) fun a F => ?_
  refine q_val F rfl rfl (by decide) (r_gtr F rfl rfl) fun a F => ?_
  refine q_val F rfl rfl (by decide) (r_assign F rfl) fun a F => ?_
  refine nil ?_
  refine hK21 _ _ ?_
  replace F : Fr a 152 [(0, .pointer p2), (1, .string a4), (3, .pointer p10), (6, .pointer (some qa15)), (11, .bool (decide ((IntKind.i64.wrap (t29 + 1)) < t22)))] := F.sub ⟨rfl, rfl, rfl, rfl, rfl, trivial⟩
  by_cases hb36 : (IntKind.i64.wrap (t29 + 1)) < t22
  ·replace H := (if_pos hb36).symm.trans H
   refine wp_cond_true ((F.ev rfl).trans (congrArg Value.bool (decide_eq_true hb36))) ?_
   refine wp_seq_k fun K37 hK37 => ?_
   refine regD (SB No c31 w32) 9 (.q 0 (.q 1 (.q 2 (.q 3 (.q 4 (.q 5 (.q 6 (.e 7 (.q 8 .nil))))))))) Try_hm (by decide +kernel) ?_
   intro w38 w1_ w2_ w3_ w4_
   have E39 : Ev No c31 w32 c31 w38 := Ev.same w1_ w2_ w3_ w4_
   replace B := B.same w1_
   have zh3 := h3
   have zh8 := h8
   have zh11 := h11
   have zh17 := h17
   have ER : Ev No c31 w32 c31 w38 := Ev.same w1_ w2_ w3_ w4_
   replace h3 := TR.ev h3 E39 (fun q => q.elim) (fun q => q.elim)
   replace h8 := SL.ev h8 E39 (fun q => q.elim) (fun q => q.elim)
   replace h11 := TR.ev h11 E39 (fun q => q.elim) (fun q => q.elim)
   replace h17 := AT.ev h17 E39 (fun q => q.elim)
   replace E := E.trans E39 (fun x q => q.elim)
   refine d_q F rfl rfl rfl (by decide) (fun wq hS => r_move F rfl) ER.sb fun a F => ?_
   replace H := cs_some H
   obtain ⟨tl40, tr41, tk42, tv43, ts44, td45, e46, H⟩ := H
   have z47 := zh3
   rw [e46] at z47
   obtain ⟨ad51, lp52, rp53, A48, C49, rfl, hat54, h50, hl55, hr56⟩ := TR.node z47
   have zh50 := h50
   replace h50 := SL.ev h50 ER (fun q => q.elim) (fun q => q.elim)
   have zhl55 := hl55
   replace hl55 := TR.ev hl55 ER (fun q => q.elim) (fun q => q.elim)
   have zhr56 := hr56
   replace hr56 := TR.ev hr56 ER (fun q => q.elim) (fun q => q.elim)
   have zhat54 := hat54
   replace hat54 := AT.ev hat54 ER (fun q => q.elim)
   refine d_q F rfl rfl rfl (by decide) (fun wq hS => r_nil F rfl) ER.sb fun a F => ?_
   refine d_q F rfl rfl rfl (by decide) (fun wq hS => r_fieldAddr F rfl ff_112_1) ER.sb fun a F => ?_
   refine d_q F rfl rfl rfl (by decide) (fun wq hS => r_load F rfl ag_77 (AT.cell (AT.sb zhat54 hS (fun q => q.elim)) rfl)) ER.sb fun a F => ?_
   refine d_q F rfl rfl rfl (by decide) (fun wq hS => r_move F rfl) ER.sb fun a F => ?_
   refine d_q F rfl rfl rfl (by decide) (fun wq hS => r_loads (cs := [.slice A6 a5.value.length C7, .int .i64 a5.rev]) F rfl ag_80 sz_80 (AT.sb zh17 hS (fun q => q.elim))) ER.sb fun a F => ?_
   refine d_q F rfl rfl rfl (by decide) (fun wq hS => r_move F rfl) ER.sb fun a F => ?_
   refine d_e ?_
   replace H := bind_some H
   obtain ⟨t58, q59, H⟩ := H
   refine o_call F rfl (wanted_none rfl) rfl (by decide) (r_call F Try.func87 rfl (by kernel_rfl) rfl) (ih (m := m + 2) (Nat.add_pos_left hm0 _) B hr56 h8 h11 _ q59) ?_
   rintro e w61 ⟨c60, p64, rfl, E62, B63, h65⟩
   refine ⟨_, rfl, fun a F => ?_⟩
   have B := B63
   replace ER := ER.trans E62 (fun x q => q.elim)
   replace h3 := TR.ev h3 E62 (fun q => q.elim) (fun q => q.elim)
   replace h8 := SL.ev h8 E62 (fun q => q.elim) (fun q => q.elim)
   replace h11 := TR.ev h11 E62 (fun q => q.elim) (fun q => q.elim)
   replace h17 := AT.ev h17 E62 (fun q => q.elim)
   replace h50 := SL.ev h50 E62 (fun q => q.elim) (fun q => q.elim)
   replace hl55 := TR.ev hl55 E62 (fun q => q.elim) (fun q => q.elim)
   replace hr56 := TR.ev hr56 E62 (fun q => q.elim) (fun q => q.elim)
   replace hat54 := AT.ev hat54 E62 (fun q => q.elim)
   replace E := E.trans E62 (fun x q => q.elim)
   refine ⟨fun _ => ER.sb, ?_⟩
   refine d_q F rfl rfl rfl (by decide) (fun wq hS => r_assign F rfl) ER.sb fun a F => ?_
   refine d_nil ?_
   refine hK37 _ _ ?_
   replace F : Fr a 152 [(0, .pointer (some ad51)), (9, .pointer p64)] := F.sub ⟨rfl, rfl, trivial⟩
   refine wp_seq_k fun K67 hK67 => ?_
   refine wp_seq_k fun K68 hK68 => ?_
   refine regD (SB No c60 w61) 11 (.q 0 (.q 1 (.q 2 (.q 3 (.q 4 (.q 5 (.q 6 (.q 7 (.e 8 (.q 9 (.q 10 .nil))))))))))) Try_hm (by decide +kernel) ?_
   intro w69 w1_ w2_ w3_ w4_
   have E70 : Ev No c60 w61 c60 w69 := Ev.same w1_ w2_ w3_ w4_
   replace B := B.same w1_
   have zh3 := h3
   have zh8 := h8
   have zh11 := h11
   have zh17 := h17
   have zh50 := h50
   have zhl55 := hl55
   have zhr56 := hr56
   have zhat54 := hat54
   have zh65 := h65
   have ER : Ev No c60 w61 c60 w69 := Ev.same w1_ w2_ w3_ w4_
   replace h3 := TR.ev h3 E70 (fun q => q.elim) (fun q => q.elim)
   replace h8 := SL.ev h8 E70 (fun q => q.elim) (fun q => q.elim)
   replace h11 := TR.ev h11 E70 (fun q => q.elim) (fun q => q.elim)
   replace h17 := AT.ev h17 E70 (fun q => q.elim)
   replace h50 := SL.ev h50 E70 (fun q => q.elim) (fun q => q.elim)
   replace hl55 := TR.ev hl55 E70 (fun q => q.elim) (fun q => q.elim)
   replace hr56 := TR.ev hr56 E70 (fun q => q.elim) (fun q => q.elim)
   replace hat54 := AT.ev hat54 E70 (fun q => q.elim)
   replace h65 := TR.ev h65 E70 (fun q => q.elim) (fun q => q.elim)
   replace E := E.trans E70 (fun x q => q.elim)
   refine d_q F rfl rfl rfl (by decide) (fun wq hS => r_move F rfl) ER.sb fun a F => ?_
   replace H := cs_some H
   obtain ⟨tl71, tr72, tk73, tv74, ts75, td76, e77, H⟩ := H
   have z78 := zh65
   rw [e77] at z78
   obtain ⟨ad82, lp83, rp84, A79, C80, rfl, hat85, h81, hl86, hr87⟩ := TR.node z78
   have zh81 := h81
   replace h81 := SL.ev h81 ER (fun q => q.elim) (fun q => q.elim)
   have zhl86 := hl86
   replace hl86 := TR.ev hl86 ER (fun q => q.elim) (fun q => q.elim)
   have zhr87 := hr87
   replace hr87 := TR.ev hr87 ER (fun q => q.elim) (fun q => q.elim)
   have zhat85 := hat85
   replace hat85 := AT.ev hat85 ER (fun q => q.elim)
   refine d_q F rfl rfl rfl (by decide) (fun wq hS => r_nil F rfl) ER.sb fun a F => ?_
   refine d_q F rfl rfl rfl (by decide) (fun wq hS => r_fieldAddr F rfl ff_112_5) ER.sb fun a F => ?_
   refine d_q F rfl rfl rfl (by decide) (fun wq hS => r_load F rfl ag_3 (AT.cell (AT.sb zhat85 hS (fun q => q.elim)) rfl)) ER.sb fun a F => ?_
   refine d_q F rfl rfl rfl (by decide) (fun wq hS => r_move F rfl) ER.sb fun a F => ?_
   refine d_q F rfl rfl rfl (by decide) (fun wq hS => r_nil F rfl) ER.sb fun a F => ?_
   refine d_q F rfl rfl rfl (by decide) (fun wq hS => r_fieldAddr F rfl ff_112_0) ER.sb fun a F => ?_
   refine d_q F rfl rfl rfl (by decide) (fun wq hS => r_load F rfl ag_77 (AT.cell (AT.sb zhat54 hS (fun q => q.elim)) rfl)) ER.sb fun a F => ?_
   refine d_e ?_
   replace H := bind_some H
   obtain ⟨t89, q90, H⟩ := H
   refine o_call F rfl (wanted_none rfl) rfl (by decide) (r_call F Try.func96 rfl (by kernel_rfl) rfl) (tree_Tree_Depth.calls (m := m + 2) (Nat.add_pos_left hm0 _) B hl55 _ q90) ?_
   rintro e w92 ⟨c91, rfl, E93, B94⟩
   refine ⟨_, rfl, fun a F => ?_⟩
   have B := B94
   replace ER := ER.trans E93 (fun x q => q.elim)
   replace h3 := TR.ev h3 E93 (fun q => q.elim) (fun q => q.elim)
   replace h8 := SL.ev h8 E93 (fun q => q.elim) (fun q => q.elim)
   replace h11 := TR.ev h11 E93 (fun q => q.elim) (fun q => q.elim)
   replace h17 := AT.ev h17 E93 (fun q => q.elim)
   replace h50 := SL.ev h50 E93 (fun q => q.elim) (fun q => q.elim)
   replace hl55 := TR.ev hl55 E93 (fun q => q.elim) (fun q => q.elim)
   replace hr56 := TR.ev hr56 E93 (fun q => q.elim) (fun q => q.elim)
   replace hat54 := AT.ev hat54 E93 (fun q => q.elim)
   replace h65 := TR.ev h65 E93 (fun q => q.elim) (fun q => q.elim)
   replace h81 := SL.ev h81 E93 (fun q => q.elim) (fun q => q.elim)
   replace hl86 := TR.ev hl86 E93 (fun q => q.elim) (fun q => q.elim)
   replace hr87 := TR.ev hr87 E93 (fun q => q.elim) (fun q => q.elim)
   replace hat85 := AT.ev hat85 E93 (fun q => q.elim)
   replace E := E.trans E93 (fun x q => q.elim)
   refine ⟨fun _ => ER.sb, ?_⟩
   refine d_q F rfl rfl rfl (by decide) (fun wq hS => r_add F rfl rfl) ER.sb fun a F => ?_
   refine d_q F rfl rfl rfl (by decide) (fun wq hS => r_gtr F rfl rfl) ER.sb fun a F => ?_
   refine d_nil ?_
   refine hK68 _ _ ?_
   replace F : Fr a 152 [(0, .pointer (some ad51)), (9, .pointer (some ad82)), (36, .bool (decide ((IntKind.i64.wrap (t89 + 1)) < td76)))] := F.sub ⟨rfl, rfl, rfl, trivial⟩
   by_cases hb96 : (IntKind.i64.wrap (t89 + 1)) < td76
   ·replace H := (if_pos hb96).symm.trans H
    refine wp_cond_true ((F.ev rfl).trans (congrArg Value.bool (decide_eq_true hb96))) ?_
    refine wp_seq_k fun K97 hK97 => ?_
    refine wp_seq_k fun K98 hK98 => ?_
    refine regD (SB No c91 w92) 11 (.q 0 (.q 1 (.q 2 (.q 3 (.q 5 (.q 6 (.q 7 (.q 8 (.e 4 (.e 9 (.q 10 .nil))))))))))) Try_hm (by decide +kernel) ?_
    intro w99 w1_ w2_ w3_ w4_
    have E100 : Ev No c91 w92 c91 w99 := Ev.same w1_ w2_ w3_ w4_
    replace B := B.same w1_
    have zh3 := h3
    have zh8 := h8
    have zh11 := h11
    have zh17 := h17
    have zh50 := h50
    have zhl55 := hl55
    have zhr56 := hr56
    have zhat54 := hat54
    have zh65 := h65
    have zh81 := h81
    have zhl86 := hl86
    have zhr87 := hr87
    have zhat85 := hat85
    have ER : Ev No c91 w92 c91 w99 := Ev.same w1_ w2_ w3_ w4_
    replace h3 := TR.ev h3 E100 (fun q => q.elim) (fun q => q.elim)
    replace h8 := SL.ev h8 E100 (fun q => q.elim) (fun q => q.elim)
    replace h11 := TR.ev h11 E100 (fun q => q.elim) (fun q => q.elim)
    replace h17 := AT.ev h17 E100 (fun q => q.elim)
    replace h50 := SL.ev h50 E100 (fun q => q.elim) (fun q => q.elim)
    replace hl55 := TR.ev hl55 E100 (fun q => q.elim) (fun q => q.elim)
    replace hr56 := TR.ev hr56 E100 (fun q => q.elim) (fun q => q.elim)
    replace hat54 := AT.ev hat54 E100 (fun q => q.elim)
    replace h65 := TR.ev h65 E100 (fun q => q.elim) (fun q => q.elim)
    replace h81 := SL.ev h81 E100 (fun q => q.elim) (fun q => q.elim)
    replace hl86 := TR.ev hl86 E100 (fun q => q.elim) (fun q => q.elim)
    replace hr87 := TR.ev hr87 E100 (fun q => q.elim) (fun q => q.elim)
    replace hat85 := AT.ev hat85 E100 (fun q => q.elim)
    replace E := E.trans E100 (fun x q => q.elim)
    refine d_q F rfl rfl rfl (by decide) (fun wq hS => r_move F rfl) ER.sb fun a F => ?_
    refine d_q F rfl rfl rfl (by decide) (fun wq hS => r_nil F rfl) ER.sb fun a F => ?_
    refine d_q F rfl rfl rfl (by decide) (fun wq hS => r_fieldAddr F rfl ff_112_0) ER.sb fun a F => ?_
    refine d_q F rfl rfl rfl (by decide) (fun wq hS => r_load F rfl ag_77 (AT.cell (AT.sb zhat85 hS (fun q => q.elim)) rfl)) ER.sb fun a F => ?_
    refine d_q F rfl rfl rfl (by decide) (fun wq hS => r_move F rfl) ER.sb fun a F => ?_
    refine d_q F rfl rfl rfl (by decide) (fun wq hS => r_nil F rfl) ER.sb fun a F => ?_
    refine d_q F rfl rfl rfl (by decide) (fun wq hS => r_fieldAddr F rfl ff_112_1) ER.sb fun a F => ?_
    refine d_q F rfl rfl rfl (by decide) (fun wq hS => r_load F rfl ag_77 (AT.cell (AT.sb zhat85 hS (fun q => q.elim)) rfl)) ER.sb fun a F => ?_
    refine d_e ?_
    replace H := bind_some H
    obtain ⟨t101, q102, H⟩ := H
    refine o_call F rfl (wanted_none rfl) rfl (by decide) (r_call F Try.func96 rfl (by kernel_rfl) rfl) (tree_Tree_Depth.calls (m := m + 2) (Nat.add_pos_left hm0 _) B hl86 _ q102) ?_
    rintro e w104 ⟨c103, rfl, E105, B106⟩
    refine ⟨_, rfl, fun a F => ?_⟩
    have B := B106
    replace ER := ER.trans E105 (fun x q => q.elim)
    replace h3 := TR.ev h3 E105 (fun q => q.elim) (fun q => q.elim)
    replace h8 := SL.ev h8 E105 (fun q => q.elim) (fun q => q.elim)
    replace h11 := TR.ev h11 E105 (fun q => q.elim) (fun q => q.elim)
    replace h17 := AT.ev h17 E105 (fun q => q.elim)
    replace h50 := SL.ev h50 E105 (fun q => q.elim) (fun q => q.elim)
    replace hl55 := TR.ev hl55 E105 (fun q => q.elim) (fun q => q.elim)
    replace hr56 := TR.ev hr56 E105 (fun q => q.elim) (fun q => q.elim)
    replace hat54 := AT.ev hat54 E105 (fun q => q.elim)
    replace h65 := TR.ev h65 E105 (fun q => q.elim) (fun q => q.elim)
    replace h81 := SL.ev h81 E105 (fun q => q.elim) (fun q => q.elim)
    replace hl86 := TR.ev hl86 E105 (fun q => q.elim) (fun q => q.elim)
    replace hr87 := TR.ev hr87 E105 (fun q => q.elim) (fun q => q.elim)
    replace hat85 := AT.ev hat85 E105 (fun q => q.elim)
    replace E := E.trans E105 (fun x q => q.elim)
    refine ⟨fun _ => ER.sb, ?_⟩
    refine d_e ?_
    replace H := bind_some H
    obtain ⟨t108, q109, H⟩ := H
    refine o_call F rfl (wanted_none rfl) rfl (by decide) (r_call F Try.func96 rfl (by kernel_rfl) rfl) (tree_Tree_Depth.calls (m := m + 2) (Nat.add_pos_left hm0 _) B hr87 _ q109) ?_
    rintro e w111 ⟨c110, rfl, E112, B113⟩
    refine ⟨_, rfl, fun a F => ?_⟩
    have B := B113
    replace ER := ER.trans E112 (fun x q => q.elim)
    replace h3 := TR.ev h3 E112 (fun q => q.elim) (fun q => q.elim)
    replace h8 := SL.ev h8 E112 (fun q => q.elim) (fun q => q.elim)
    replace h11 := TR.ev h11 E112 (fun q => q.elim) (fun q => q.elim)
    replace h17 := AT.ev h17 E112 (fun q => q.elim)
    replace h50 := SL.ev h50 E112 (fun q => q.elim) (fun q => q.elim)
    replace hl55 := TR.ev hl55 E112 (fun q => q.elim) (fun q => q.elim)
    replace hr56 := TR.ev hr56 E112 (fun q => q.elim) (fun q => q.elim)
    replace hat54 := AT.ev hat54 E112 (fun q => q.elim)
    replace h65 := TR.ev h65 E112 (fun q => q.elim) (fun q => q.elim)
    replace h81 := SL.ev h81 E112 (fun q => q.elim) (fun q => q.elim)
    replace hl86 := TR.ev hl86 E112 (fun q => q.elim) (fun q => q.elim)
    replace hr87 := TR.ev hr87 E112 (fun q => q.elim) (fun q => q.elim)
    replace hat85 := AT.ev hat85 E112 (fun q => q.elim)
    replace E := E.trans E112 (fun x q => q.elim)
    refine ⟨fun _ => ER.sb, ?_⟩
    refine d_q F rfl rfl rfl (by decide) (fun wq hS => r_gtr F rfl rfl) ER.sb fun a F => ?_
    refine d_nil ?_
    refine hK98 _ _ ?_
    replace F : Fr a 152 [(0, .pointer (some ad51)), (9, .pointer (some ad82)), (47, .bool (decide (t108 < t101)))] := F.sub ⟨rfl, rfl, rfl, trivial⟩
    by_cases hb115 : t108 < t101
    ·replace H := (if_pos hb115).symm.trans H
     refine wp_cond_true ((F.ev rfl).trans (congrArg Value.bool (decide_eq_true hb115))) ?_
     refine reg ?_
     refine q_val F rfl rfl (by decide) (r_move F rfl) fun a F => ?_
     replace H := bind_some H
     obtain ⟨t116, q117, H⟩ := H
     refine q_call F rfl rfl (by decide) (r_call F Try.func97 rfl (by kernel_rfl) rfl) (tree_turnRight.calls (m := m + 2) (Nat.add_pos_left hm0 _) B h65 _ q117) ?_
     rintro e w119 ⟨c118, p122, rfl, E120, B121, h123⟩
     refine ⟨_, rfl, fun a F => ?_⟩
     have B := B121
     replace h3 := TR.ev h3 E120 (fun q => q.elim) (fun q => q.elim)
     replace h8 := SL.ev h8 E120 (fun q => q.elim) (fun q => q.elim)
     replace h11 := TR.ev h11 E120 (fun q => q.elim) (fun q => q.elim)
     replace h17 := AT.ev h17 E120 (fun q => q.elim)
     replace h50 := SL.ev h50 E120 (fun q => q.elim) (fun q => q.elim)
     replace hl55 := TR.ev hl55 E120 (fun q => q.elim) (fun q => q.elim)
     replace hr56 := TR.ev hr56 E120 (fun q => q.elim) (fun q => q.elim)
     replace hat54 := AT.ev hat54 E120 (fun q => q.elim)
     replace h65 := TR.ev h65 E120 (fun q => q.elim) (fun q => q.elim)
     replace h81 := SL.ev h81 E120 (fun q => q.elim) (fun q => q.elim)
     replace hl86 := TR.ev hl86 E120 (fun q => q.elim) (fun q => q.elim)
     replace hr87 := TR.ev hr87 E120 (fun q => q.elim) (fun q => q.elim)
     replace hat85 := AT.ev hat85 E120 (fun q => q.elim)
     replace E := E.trans E120 (fun x q => q.elim)
     refine q_val F rfl rfl (by decide) (r_assign F rfl) fun a F => ?_
     refine nil ?_
     refine hK97 _ _ ?_
     refine wp_seq_k fun K125 hK125 => ?_
     refine regD (SB No c118 w119) 16 (.q 0 (.q 1 (.q 2 (.q 3 (.q 4 (.q 5 (.q 6 (.q 7 (.q 8 (.q 9 (.q 10 (.q 11 (.q 12 (.e 13 (.e 14 (.q 15 .nil)))))))))))))))) Try_hm (by decide +kernel) ?_
     intro w126 w1_ w2_ w3_ w4_
     have E127 : Ev No c118 w119 c118 w126 := Ev.same w1_ w2_ w3_ w4_
     replace B := B.same w1_
     have zh3 := h3
     have zh8 := h8
     have zh11 := h11
     have zh17 := h17
     have zh50 := h50
     have zhl55 := hl55
     have zhr56 := hr56
     have zhat54 := hat54
     have zh65 := h65
     have zh81 := h81
     have zhl86 := hl86
     have zhr87 := hr87
     have zhat85 := hat85
     have zh123 := h123
     have ER : Ev No c118 w119 c118 w126 := Ev.same w1_ w2_ w3_ w4_
     replace h3 := TR.ev h3 E127 (fun q => q.elim) (fun q => q.elim)
     replace h8 := SL.ev h8 E127 (fun q => q.elim) (fun q => q.elim)
     replace h11 := TR.ev h11 E127 (fun q => q.elim) (fun q => q.elim)
     replace h17 := AT.ev h17 E127 (fun q => q.elim)
     replace h50 := SL.ev h50 E127 (fun q => q.elim) (fun q => q.elim)
     replace hl55 := TR.ev hl55 E127 (fun q => q.elim) (fun q => q.elim)
     replace hr56 := TR.ev hr56 E127 (fun q => q.elim) (fun q => q.elim)
     replace hat54 := AT.ev hat54 E127 (fun q => q.elim)
     replace h65 := TR.ev h65 E127 (fun q => q.elim) (fun q => q.elim)
     replace h81 := SL.ev h81 E127 (fun q => q.elim) (fun q => q.elim)
     replace hl86 := TR.ev hl86 E127 (fun q => q.elim) (fun q => q.elim)
     replace hr87 := TR.ev hr87 E127 (fun q => q.elim) (fun q => q.elim)
     replace hat85 := AT.ev hat85 E127 (fun q => q.elim)
     replace h123 := TR.ev h123 E127 (fun q => q.elim) (fun q => q.elim)
     replace E := E.trans E127 (fun x q => q.elim)
     refine d_q F rfl rfl rfl (by decide) (fun wq hS => r_move F rfl) ER.sb fun a F => ?_
     refine d_q F rfl rfl rfl (by decide) (fun wq hS => r_nil F rfl) ER.sb fun a F => ?_
     refine d_q F rfl rfl rfl (by decide) (fun wq hS => r_fieldAddr F rfl ff_112_0) ER.sb fun a F => ?_
     refine d_q F rfl rfl rfl (by decide) (fun wq hS => r_load F rfl ag_77 (AT.cell (AT.sb zhat54 hS (fun q => q.elim)) rfl)) ER.sb fun a F => ?_
     refine d_q F rfl rfl rfl (by decide) (fun wq hS => r_move F rfl) ER.sb fun a F => ?_
     refine d_q F rfl rfl rfl (by decide) (fun wq hS => r_nil F rfl) ER.sb fun a F => ?_
     refine d_q F rfl rfl rfl (by decide) (fun wq hS => r_fieldAddr F rfl ff_112_2) ER.sb fun a F => ?_
     refine d_q F rfl rfl rfl (by decide) (fun wq hS => r_load F rfl ag_9 (AT.cell (AT.sb zhat54 hS (fun q => q.elim)) rfl)) ER.sb fun a F => ?_
     refine d_q F rfl rfl rfl (by decide) (fun wq hS => r_move F rfl) ER.sb fun a F => ?_
     refine d_q F rfl rfl rfl (by decide) (fun wq hS => r_nil F rfl) ER.sb fun a F => ?_
     refine d_q F rfl rfl rfl (by decide) (fun wq hS => r_fieldAddr F rfl ff_112_3) ER.sb fun a F => ?_
     refine d_q F rfl rfl rfl (by decide) (fun wq hS => r_loads (cs := [.slice A48 tv43.value.length C49, .int .i64 tv43.rev]) F rfl ag_80 sz_80 (AT.sub (AT.sb zhat54 hS (fun q => q.elim)) 3 2 (Nat.le_of_ble_eq_true rfl))) ER.sb fun a F => ?_
     refine d_q F rfl rfl rfl (by decide) (fun wq hS => r_move F rfl) ER.sb fun a F => ?_
     refine d_e ?_
     replace H := bind_some H
     obtain ⟨t128, q129, H⟩ := H
     refine o_call F rfl (wanted_none rfl) rfl (by decide) (r_call F Try.func89 rfl (by kernel_rfl) rfl) (tree_node.calls (m := m + 2) (Nat.add_pos_left hm0 _) B hl55 h50 h123 _ q129) ?_
     rintro e w131 ⟨c130, p134, rfl, E132, B133, h135⟩
     refine ⟨_, rfl, fun a F => ?_⟩
     have B := B133
     replace ER := ER.trans E132 (fun x q => q.elim)
     replace h3 := TR.ev h3 E132 (fun q => q.elim) (fun q => q.elim)
     replace h8 := SL.ev h8 E132 (fun q => q.elim) (fun q => q.elim)
     replace h11 := TR.ev h11 E132 (fun q => q.elim) (fun q => q.elim)
     replace h17 := AT.ev h17 E132 (fun q => q.elim)
     replace h50 := SL.ev h50 E132 (fun q => q.elim) (fun q => q.elim)
     replace hl55 := TR.ev hl55 E132 (fun q => q.elim) (fun q => q.elim)
     replace hr56 := TR.ev hr56 E132 (fun q => q.elim) (fun q => q.elim)
     replace hat54 := AT.ev hat54 E132 (fun q => q.elim)
     replace h65 := TR.ev h65 E132 (fun q => q.elim) (fun q => q.elim)
     replace h81 := SL.ev h81 E132 (fun q => q.elim) (fun q => q.elim)
     replace hl86 := TR.ev hl86 E132 (fun q => q.elim) (fun q => q.elim)
     replace hr87 := TR.ev hr87 E132 (fun q => q.elim) (fun q => q.elim)
     replace hat85 := AT.ev hat85 E132 (fun q => q.elim)
     replace h123 := TR.ev h123 E132 (fun q => q.elim) (fun q => q.elim)
     replace E := E.trans E132 (fun x q => q.elim)
     refine ⟨fun _ => ER.sb, ?_⟩
     refine d_e ?_
     replace H := bind_some H
     obtain ⟨t137, q138, H⟩ := H
     refine o_call F rfl (wanted_none rfl) rfl (by decide) (r_call F Try.func98 rfl (by kernel_rfl) rfl) (tree_turnLeft.calls (m := m + 2) (Nat.add_pos_left hm0 _) B h135 _ q138) ?_
     rintro e w140 ⟨c139, p143, rfl, E141, B142, h144⟩
     refine ⟨_, rfl, fun a F => ?_⟩
     have B := B142
     replace ER := ER.trans E141 (fun x q => q.elim)
     replace h3 := TR.ev h3 E141 (fun q => q.elim) (fun q => q.elim)
     replace h8 := SL.ev h8 E141 (fun q => q.elim) (fun q => q.elim)
     replace h11 := TR.ev h11 E141 (fun q => q.elim) (fun q => q.elim)
     replace h17 := AT.ev h17 E141 (fun q => q.elim)
     replace h50 := SL.ev h50 E141 (fun q => q.elim) (fun q => q.elim)
     replace hl55 := TR.ev hl55 E141 (fun q => q.elim) (fun q => q.elim)
     replace hr56 := TR.ev hr56 E141 (fun q => q.elim) (fun q => q.elim)
     replace hat54 := AT.ev hat54 E141 (fun q => q.elim)
     replace h65 := TR.ev h65 E141 (fun q => q.elim) (fun q => q.elim)
     replace h81 := SL.ev h81 E141 (fun q => q.elim) (fun q => q.elim)
     replace hl86 := TR.ev hl86 E141 (fun q => q.elim) (fun q => q.elim)
     replace hr87 := TR.ev hr87 E141 (fun q => q.elim) (fun q => q.elim)
     replace hat85 := AT.ev hat85 E141 (fun q => q.elim)
     replace h123 := TR.ev h123 E141 (fun q => q.elim) (fun q => q.elim)
     replace h135 := TR.ev h135 E141 (fun q => q.elim) (fun q => q.elim)
     replace E := E.trans E141 (fun x q => q.elim)
     refine ⟨fun _ => ER.sb, ?_⟩
     refine d_q F rfl rfl rfl (by decide) (fun wq hS => r_assign F rfl) ER.sb fun a F => ?_
     refine d_nil ?_
     refine hK125 _ _ ?_
     replace F : Fr a 152 [(8, .pointer p143)] := F.sub ⟨rfl, trivial⟩
     refine wp_ret ?_
     refine thenR ?_
     refine inbR ?_
     refine thenR ?_
     replace H := Option.some.inj H
     subst H
     refine out1 F rfl rfl ?_
     exact ⟨fun b_ => (fun x_ => if x_ < m then x_ else 0) (c139 b_), p143, rfl, E.leave B0 (fun x_ => if x_ < m then x_ else 0) (by intro x_ hx_; show (if x_ < m then x_ else 0) = x_; ((repeat' split) <;> omega)), (fun b_ hb_ => by show (if (c139 b_) < m then (c139 b_) else 0) < m; ((repeat' split) <;> omega)), TR.rc h144 (fun k_ hk_ => by show (if (c139 k_) < m then (c139 k_) else 0) = _; rw [hk_]; ((repeat' split) <;> omega)) (fun k_ hk_ => by show (if (c139 k_) < m then (c139 k_) else 0) = _; rw [hk_]; ((repeat' split) <;> omega))⟩
    ·replace H := (if_neg hb115).symm.trans H
     refine wp_cond_false ((F.ev rfl).trans (congrArg Value.bool (decide_eq_false hb115))) ?_
     refine wp_skip ?_
     refine hK97 _ _ ?_
     refine wp_seq_k fun K146 hK146 => ?_
     refine regD (SB No c110 w111) 16 (.q 0 (.q 1 (.q 2 (.q 3 (.q 4 (.q 5 (.q 6 (.q 7 (.q 8 (.q 9 (.q 10 (.q 11 (.q 12 (.e 13 (.e 14 (.q 15 .nil)))))))))))))))) Try_hm (by decide +kernel) ?_
     intro w147 w1_ w2_ w3_ w4_
     have E148 : Ev No c110 w111 c110 w147 := Ev.same w1_ w2_ w3_ w4_
     replace B := B.same w1_
     have zh3 := h3
     have zh8 := h8
     have zh11 := h11
     have zh17 := h17
     have zh50 := h50
     have zhl55 := hl55
     have zhr56 := hr56
     have zhat54 := hat54
     have zh65 := h65
     have zh81 := h81
     have zhl86 := hl86
     have zhr87 := hr87
     have zhat85 := hat85
     have ER : Ev No c110 w111 c110 w147 := Ev.same w1_ w2_ w3_ w4_
     replace h3 := TR.ev h3 E148 (fun q => q.elim) (fun q => q.elim)
     replace h8 := SL.ev h8 E148 (fun q => q.elim) (fun q => q.elim)
     replace h11 := TR.ev h11 E148 (fun q => q.elim) (fun q => q.elim)
     replace h17 := AT.ev h17 E148 (fun q => q.elim)
     replace h50 := SL.ev h50 E148 (fun q => q.elim) (fun q => q.elim)
     replace hl55 := TR.ev hl55 E148 (fun q => q.elim) (fun q => q.elim)
     replace hr56 := TR.ev hr56 E148 (fun q => q.elim) (fun q => q.elim)
     replace hat54 := AT.ev hat54 E148 (fun q => q.elim)
     replace h65 := TR.ev h65 E148 (fun q => q.elim) (fun q => q.elim)
     replace h81 := SL.ev h81 E148 (fun q => q.elim) (fun q => q.elim)
     replace hl86 := TR.ev hl86 E148 (fun q => q.elim) (fun q => q.elim)
     replace hr87 := TR.ev hr87 E148 (fun q => q.elim) (fun q => q.elim)
     replace hat85 := AT.ev hat85 E148 (fun q => q.elim)
     replace E := E.trans E148 (fun x q => q.elim)
     refine d_q F rfl rfl rfl (by decide) (fun wq hS => r_move F rfl) ER.sb fun a F => ?_
     refine d_q F rfl rfl rfl (by decide) (fun wq hS => r_nil F rfl) ER.sb fun a F => ?_
     refine d_q F rfl rfl rfl (by decide) (fun wq hS => r_fieldAddr F rfl ff_112_0) ER.sb fun a F => ?_
     refine d_q F rfl rfl rfl (by decide) (fun wq hS => r_load F rfl ag_77 (AT.cell (AT.sb zhat54 hS (fun q => q.elim)) rfl)) ER.sb fun a F => ?_
     refine d_q F rfl rfl rfl (by decide) (fun wq hS => r_move F rfl) ER.sb fun a F => ?_
     refine d_q F rfl rfl rfl (by decide) (fun wq hS => r_nil F rfl) ER.sb fun a F => ?_
     refine d_q F rfl rfl rfl (by decide) (fun wq hS => r_fieldAddr F rfl ff_112_2) ER.sb fun a F => ?_
     refine d_q F rfl rfl rfl (by decide) (fun wq hS => r_load F rfl ag_9 (AT.cell (AT.sb zhat54 hS (fun q => q.elim)) rfl)) ER.sb fun a F => ?_
     refine d_q F rfl rfl rfl (by decide) (fun wq hS => r_move F rfl) ER.sb fun a F => ?_
     refine d_q F rfl rfl rfl (by decide) (fun wq hS => r_nil F rfl) ER.sb fun a F => ?_
     refine d_q F rfl rfl rfl (by decide) (fun wq hS => r_fieldAddr F rfl ff_112_3) ER.sb fun a F => ?_
     refine d_q F rfl rfl rfl (by decide) (fun wq hS => r_loads (cs := [.slice A48 tv43.value.length C49, .int .i64 tv43.rev]) F rfl ag_80 sz_80 (AT.sub (AT.sb zhat54 hS (fun q => q.elim)) 3 2 (Nat.le_of_ble_eq_true rfl))) ER.sb fun a F => ?_
     refine d_q F rfl rfl rfl (by decide) (fun wq hS => r_move F rfl) ER.sb fun a F => ?_
     refine d_e ?_
     replace H := bind_some H
     obtain ⟨t128, q129, H⟩ := H
     refine o_call F rfl (wanted_none rfl) rfl (by decide) (r_call F Try.func89 rfl (by kernel_rfl) rfl) (tree_node.calls (m := m + 2) (Nat.add_pos_left hm0 _) B hl55 h50 h65 _ q129) ?_
     rintro e w150 ⟨c149, p153, rfl, E151, B152, h154⟩
     refine ⟨_, rfl, fun a F => ?_⟩
     have B := B152
     replace ER := ER.trans E151 (fun x q => q.elim)
     replace h3 := TR.ev h3 E151 (fun q => q.elim) (fun q => q.elim)
     replace h8 := SL.ev h8 E151 (fun q => q.elim) (fun q => q.elim)
     replace h11 := TR.ev h11 E151 (fun q => q.elim) (fun q => q.elim)
     replace h17 := AT.ev h17 E151 (fun q => q.elim)
     replace h50 := SL.ev h50 E151 (fun q => q.elim) (fun q => q.elim)
     replace hl55 := TR.ev hl55 E151 (fun q => q.elim) (fun q => q.elim)
     replace hr56 := TR.ev hr56 E151 (fun q => q.elim) (fun q => q.elim)
     replace hat54 := AT.ev hat54 E151 (fun q => q.elim)
     replace h65 := TR.ev h65 E151 (fun q => q.elim) (fun q => q.elim)
     replace h81 := SL.ev h81 E151 (fun q => q.elim) (fun q => q.elim)
     replace hl86 := TR.ev hl86 E151 (fun q => q.elim) (fun q => q.elim)
     replace hr87 := TR.ev hr87 E151 (fun q => q.elim) (fun q => q.elim)
     replace hat85 := AT.ev hat85 E151 (fun q => q.elim)
     replace E := E.trans E151 (fun x q => q.elim)
     refine ⟨fun _ => ER.sb, ?_⟩
     refine d_e ?_
     replace H := bind_some H
     obtain ⟨t137, q138, H⟩ := H
     refine o_call F rfl (wanted_none rfl) rfl (by decide) (r_call F Try.func98 rfl (by kernel_rfl) rfl) (tree_turnLeft.calls (m := m + 2) (Nat.add_pos_left hm0 _) B h154 _ q138) ?_
     rintro e w157 ⟨c156, p160, rfl, E158, B159, h161⟩
     refine ⟨_, rfl, fun a F => ?_⟩
     have B := B159
     replace ER := ER.trans E158 (fun x q => q.elim)
     replace h3 := TR.ev h3 E158 (fun q => q.elim) (fun q => q.elim)
     replace h8 := SL.ev h8 E158 (fun q => q.elim) (fun q => q.elim)
     replace h11 := TR.ev h11 E158 (fun q => q.elim) (fun q => q.elim)
     replace h17 := AT.ev h17 E158 (fun q => q.elim)
     replace h50 := SL.ev h50 E158 (fun q => q.elim) (fun q => q.elim)
     replace hl55 := TR.ev hl55 E158 (fun q => q.elim) (fun q => q.elim)
     replace hr56 := TR.ev hr56 E158 (fun q => q.elim) (fun q => q.elim)
     replace hat54 := AT.ev hat54 E158 (fun q => q.elim)
     replace h65 := TR.ev h65 E158 (fun q => q.elim) (fun q => q.elim)
     replace h81 := SL.ev h81 E158 (fun q => q.elim) (fun q => q.elim)
     replace hl86 := TR.ev hl86 E158 (fun q => q.elim) (fun q => q.elim)
     replace hr87 := TR.ev hr87 E158 (fun q => q.elim) (fun q => q.elim)
     replace hat85 := AT.ev hat85 E158 (fun q => q.elim)
     replace h154 := TR.ev h154 E158 (fun q => q.elim) (fun q => q.elim)
     replace E := E.trans E158 (fun x q => q.elim)
     refine ⟨fun _ => ER.sb, ?_⟩
     refine d_q F rfl rfl rfl (by decide) (fun wq hS => r_assign F rfl) ER.sb fun a F => ?_
     refine d_nil ?_
     refine hK146 _ _ ?_
     replace F : Fr a 152 [(8, .pointer p160)] := F.sub ⟨rfl, trivial⟩
     refine wp_ret ?_
     refine thenR ?_
     refine inbR ?_
     refine thenR ?_
     replace H := Option.some.inj H
     subst H
     refine out1 F rfl rfl ?_
     exact ⟨fun b_ => (fun x_ => if x_ < m then x_ else 0) (c156 b_), p160, rfl, E.leave B0 (fun x_ => if x_ < m then x_ else 0) (by intro x_ hx_; show (if x_ < m then x_ else 0) = x_; ((repeat' split) <;> omega)), (fun b_ hb_ => by show (if (c156 b_) < m then (c156 b_) else 0) < m; ((repeat' split) <;> omega)), TR.rc h161 (fun k_ hk_ => by show (if (c156 k_) < m then (c156 k_) else 0) = _; rw [hk_]; ((repeat' split) <;> omega)) (fun k_ hk_ => by show (if (c156 k_) < m then (c156 k_) else 0) = _; rw [hk_]; ((repeat' split) <;> omega))⟩
   ·replace H := (if_neg hb96).symm.trans H
    refine wp_cond_false ((F.ev rfl).trans (congrArg Value.bool (decide_eq_false hb96))) ?_
    refine wp_skip ?_
    refine hK67 _ _ ?_
    refine wp_seq_k fun K163 hK163 => ?_
    refine regD (SB No c91 w92) 15 (.q 0 (.q 1 (.q 2 (.q 3 (.q 4 (.q 5 (.q 6 (.q 7 (.q 8 (.q 9 (.q 10 (.q 11 (.q 12 (.e 13 (.q 14 .nil))))))))))))))) Try_hm (by decide +kernel) ?_
    intro w164 w1_ w2_ w3_ w4_
    have E165 : Ev No c91 w92 c91 w164 := Ev.same w1_ w2_ w3_ w4_
    replace B := B.same w1_
    have zh3 := h3
    have zh8 := h8
    have zh11 := h11
    have zh17 := h17
    have zh50 := h50
    have zhl55 := hl55
    have zhr56 := hr56
    have zhat54 := hat54
    have zh65 := h65
    have zh81 := h81
    have zhl86 := hl86
    have zhr87 := hr87
    have zhat85 := hat85
    have ER : Ev No c91 w92 c91 w164 := Ev.same w1_ w2_ w3_ w4_
    replace h3 := TR.ev h3 E165 (fun q => q.elim) (fun q => q.elim)
    replace h8 := SL.ev h8 E165 (fun q => q.elim) (fun q => q.elim)
    replace h11 := TR.ev h11 E165 (fun q => q.elim) (fun q => q.elim)
    replace h17 := AT.ev h17 E165 (fun q => q.elim)
    replace h50 := SL.ev h50 E165 (fun q => q.elim) (fun q => q.elim)
    replace hl55 := TR.ev hl55 E165 (fun q => q.elim) (fun q => q.elim)
    replace hr56 := TR.ev hr56 E165 (fun q => q.elim) (fun q => q.elim)
    replace hat54 := AT.ev hat54 E165 (fun q => q.elim)
    replace h65 := TR.ev h65 E165 (fun q => q.elim) (fun q => q.elim)
    replace h81 := SL.ev h81 E165 (fun q => q.elim) (fun q => q.elim)
    replace hl86 := TR.ev hl86 E165 (fun q => q.elim) (fun q => q.elim)
    replace hr87 := TR.ev hr87 E165 (fun q => q.elim) (fun q => q.elim)
    replace hat85 := AT.ev hat85 E165 (fun q => q.elim)
    replace E := E.trans E165 (fun x q => q.elim)
    refine d_q F rfl rfl rfl (by decide) (fun wq hS => r_move F rfl) ER.sb fun a F => ?_
    refine d_q F rfl rfl rfl (by decide) (fun wq hS => r_nil F rfl) ER.sb fun a F => ?_
    refine d_q F rfl rfl rfl (by decide) (fun wq hS => r_fieldAddr F rfl ff_112_0) ER.sb fun a F => ?_
    refine d_q F rfl rfl rfl (by decide) (fun wq hS => r_load F rfl ag_77 (AT.cell (AT.sb zhat54 hS (fun q => q.elim)) rfl)) ER.sb fun a F => ?_
    refine d_q F rfl rfl rfl (by decide) (fun wq hS => r_move F rfl) ER.sb fun a F => ?_
    refine d_q F rfl rfl rfl (by decide) (fun wq hS => r_nil F rfl) ER.sb fun a F => ?_
    refine d_q F rfl rfl rfl (by decide) (fun wq hS => r_fieldAddr F rfl ff_112_2) ER.sb fun a F => ?_
    refine d_q F rfl rfl rfl (by decide) (fun wq hS => r_load F rfl ag_9 (AT.cell (AT.sb zhat54 hS (fun q => q.elim)) rfl)) ER.sb fun a F => ?_
    refine d_q F rfl rfl rfl (by decide) (fun wq hS => r_move F rfl) ER.sb fun a F => ?_
    refine d_q F rfl rfl rfl (by decide) (fun wq hS => r_nil F rfl) ER.sb fun a F => ?_
    refine d_q F rfl rfl rfl (by decide) (fun wq hS => r_fieldAddr F rfl ff_112_3) ER.sb fun a F => ?_
    refine d_q F rfl rfl rfl (by decide) (fun wq hS => r_loads (cs := [.slice A48 tv43.value.length C49, .int .i64 tv43.rev]) F rfl ag_80 sz_80 (AT.sub (AT.sb zhat54 hS (fun q => q.elim)) 3 2 (Nat.le_of_ble_eq_true rfl))) ER.sb fun a F => ?_
    refine d_q F rfl rfl rfl (by decide) (fun wq hS => r_move F rfl) ER.sb fun a F => ?_
    refine d_e ?_
    replace H := bind_some H
    obtain ⟨t166, q167, H⟩ := H
    refine o_call F rfl (wanted_none rfl) rfl (by decide) (r_call F Try.func89 rfl (by kernel_rfl) rfl) (tree_node.calls (m := m + 2) (Nat.add_pos_left hm0 _) B hl55 h50 h65 _ q167) ?_
    rintro e w169 ⟨c168, p172, rfl, E170, B171, h173⟩
    refine ⟨_, rfl, fun a F => ?_⟩
    have B := B171
    replace ER := ER.trans E170 (fun x q => q.elim)
    replace h3 := TR.ev h3 E170 (fun q => q.elim) (fun q => q.elim)
    replace h8 := SL.ev h8 E170 (fun q => q.elim) (fun q => q.elim)
    replace h11 := TR.ev h11 E170 (fun q => q.elim) (fun q => q.elim)
    replace h17 := AT.ev h17 E170 (fun q => q.elim)
    replace h50 := SL.ev h50 E170 (fun q => q.elim) (fun q => q.elim)
    replace hl55 := TR.ev hl55 E170 (fun q => q.elim) (fun q => q.elim)
    replace hr56 := TR.ev hr56 E170 (fun q => q.elim) (fun q => q.elim)
    replace hat54 := AT.ev hat54 E170 (fun q => q.elim)
    replace h65 := TR.ev h65 E170 (fun q => q.elim) (fun q => q.elim)
    replace h81 := SL.ev h81 E170 (fun q => q.elim) (fun q => q.elim)
    replace hl86 := TR.ev hl86 E170 (fun q => q.elim) (fun q => q.elim)
    replace hr87 := TR.ev hr87 E170 (fun q => q.elim) (fun q => q.elim)
    replace hat85 := AT.ev hat85 E170 (fun q => q.elim)
    replace E := E.trans E170 (fun x q => q.elim)
    refine ⟨fun _ => ER.sb, ?_⟩
    refine d_q F rfl rfl rfl (by decide) (fun wq hS => r_assign F rfl) ER.sb fun a F => ?_
    refine d_nil ?_
    refine hK163 _ _ ?_
    replace F : Fr a 152 [(8, .pointer p172)] := F.sub ⟨rfl, trivial⟩
    refine wp_ret ?_
    refine inbR ?_
    refine thenR ?_
    replace H := Option.some.inj H
    subst H
    refine out1 F rfl rfl ?_
    exact ⟨fun b_ => (fun x_ => if x_ < m then x_ else 0) (c168 b_), p172, rfl, E.leave B0 (fun x_ => if x_ < m then x_ else 0) (by intro x_ hx_; show (if x_ < m then x_ else 0) = x_; ((repeat' split) <;> omega)), (fun b_ hb_ => by show (if (c168 b_) < m then (c168 b_) else 0) < m; ((repeat' split) <;> omega)), TR.rc h173 (fun k_ hk_ => by show (if (c168 k_) < m then (c168 k_) else 0) = _; rw [hk_]; ((repeat' split) <;> omega)) (fun k_ hk_ => by show (if (c168 k_) < m then (c168 k_) else 0) = _; rw [hk_]; ((repeat' split) <;> omega))⟩
  ·replace H := (if_neg hb36).symm.trans H
   refine wp_cond_false ((F.ev rfl).trans (congrArg Value.bool (decide_eq_false hb36))) ?_
   refine wp_seq_k fun K175 hK175 => ?_
   refine reg ?_
   refine q_val F rfl rfl (by decide) (r_move F rfl) fun a F => ?_
   replace H := bind_some H
   obtain ⟨t176, q177, H⟩ := H
   refine q_call F rfl rfl (by decide) (r_call F Try.func96 rfl (by kernel_rfl) rfl) (tree_Tree_Depth.calls (m := m + 2) (Nat.add_pos_left hm0 _) B h11 _ q177) ?_
   rintro e w179 ⟨c178, rfl, E180, B181⟩
   refine ⟨_, rfl, fun a F => ?_⟩
   have B := B181
   replace h3 := TR.ev h3 E180 (fun q => q.elim) (fun q => q.elim)
   replace h8 := SL.ev h8 E180 (fun q => q.elim) (fun q => q.elim)
   replace h11 := TR.ev h11 E180 (fun q => q.elim) (fun q => q.elim)
   replace h17 := AT.ev h17 E180 (fun q => q.elim)
   replace E := E.trans E180 (fun x q => q.elim)
   refine q_val F rfl rfl (by decide) (r_move F rfl) fun a F => ?_
   replace H := bind_some H
   obtain ⟨t183, q184, H⟩ := H
   refine q_call F rfl rfl (by decide) (r_call F Try.func96 rfl (by kernel_rfl) rfl) (tree_Tree_Depth.calls (m := m + 2) (Nat.add_pos_left hm0 _) B h3 _ q184) ?_
   rintro e w186 ⟨c185, rfl, E187, B188⟩
   refine ⟨_, rfl, fun a F => ?_⟩
   have B := B188
   replace h3 := TR.ev h3 E187 (fun q => q.elim) (fun q => q.elim)
   replace h8 := SL.ev h8 E187 (fun q => q.elim) (fun q => q.elim)
   replace h11 := TR.ev h11 E187 (fun q => q.elim) (fun q => q.elim)
   replace h17 := AT.ev h17 E187 (fun q => q.elim)
   replace E := E.trans E187 (fun x q => q.elim)
   refine q_val F rfl rfl (by decide) (r_add F rfl rfl) fun a F => ?_
   refine q_val F rfl rfl (by decide) (r_gtr F rfl rfl) fun a F => ?_
   refine q_val F rfl rfl (by decide) (r_assign F rfl) fun a F => ?_
   refine nil ?_
   refine hK175 _ _ ?_
   by_cases hb190 : (IntKind.i64.wrap (t183 + 1)) < t176
   ·replace H := (if_pos hb190).symm.trans H
    refine wp_cond_true ((F.ev rfl).trans (congrArg Value.bool (decide_eq_true hb190))) ?_
    refine wp_seq_k fun K191 hK191 => ?_
    refine regD (SB No c185 w186) 9 (.q 0 (.q 1 (.q 2 (.q 3 (.q 4 (.q 5 (.q 6 (.e 7 (.q 8 .nil))))))))) Try_hm (by decide +kernel) ?_
    intro w192 w1_ w2_ w3_ w4_
    have E193 : Ev No c185 w186 c185 w192 := Ev.same w1_ w2_ w3_ w4_
    replace B := B.same w1_
    have zh3 := h3
    have zh8 := h8
    have zh11 := h11
    have zh17 := h17
    have ER : Ev No c185 w186 c185 w192 := Ev.same w1_ w2_ w3_ w4_
    replace h3 := TR.ev h3 E193 (fun q => q.elim) (fun q => q.elim)
    replace h8 := SL.ev h8 E193 (fun q => q.elim) (fun q => q.elim)
    replace h11 := TR.ev h11 E193 (fun q => q.elim) (fun q => q.elim)
    replace h17 := AT.ev h17 E193 (fun q => q.elim)
    replace E := E.trans E193 (fun x q => q.elim)
    refine d_q F rfl rfl rfl (by decide) (fun wq hS => r_move F rfl) ER.sb fun a F => ?_
    refine d_q F rfl rfl rfl (by decide) (fun wq hS => r_move F rfl) ER.sb fun a F => ?_
    refine d_q F rfl rfl rfl (by decide) (fun wq hS => r_loads (cs := [.slice A6 a5.value.length C7, .int .i64 a5.rev]) F rfl ag_80 sz_80 (AT.sb zh17 hS (fun q => q.elim))) ER.sb fun a F => ?_
    refine d_q F rfl rfl rfl (by decide) (fun wq hS => r_move F rfl) ER.sb fun a F => ?_
    replace H := cs_some H
    obtain ⟨tl194, tr195, tk196, tv197, ts198, td199, e200, H⟩ := H
    have z201 := zh11
    rw [e200] at z201
    obtain ⟨ad205, lp206, rp207, A202, C203, rfl, hat208, h204, hl209, hr210⟩ := TR.node z201
    have zh204 := h204
    replace h204 := SL.ev h204 ER (fun q => q.elim) (fun q => q.elim)
    have zhl209 := hl209
    replace hl209 := TR.ev hl209 ER (fun q => q.elim) (fun q => q.elim)
    have zhr210 := hr210
    replace hr210 := TR.ev hr210 ER (fun q => q.elim) (fun q => q.elim)
    have zhat208 := hat208
    replace hat208 := AT.ev hat208 ER (fun q => q.elim)
    refine d_q F rfl rfl rfl (by decide) (fun wq hS => r_nil F rfl) ER.sb fun a F => ?_
    refine d_q F rfl rfl rfl (by decide) (fun wq hS => r_fieldAddr F rfl ff_112_0) ER.sb fun a F => ?_
    refine d_q F rfl rfl rfl (by decide) (fun wq hS => r_load F rfl ag_77 (AT.cell (AT.sb zhat208 hS (fun q => q.elim)) rfl)) ER.sb fun a F => ?_
    refine d_e ?_
    replace H := bind_some H
    obtain ⟨t212, q213, H⟩ := H
    refine o_call F rfl (wanted_none rfl) rfl (by decide) (r_call F Try.func87 rfl (by kernel_rfl) rfl) (ih (m := m + 2) (Nat.add_pos_left hm0 _) B h3 h8 hl209 _ q213) ?_
    rintro e w215 ⟨c214, p218, rfl, E216, B217, h219⟩
    refine ⟨_, rfl, fun a F => ?_⟩
    have B := B217
    replace ER := ER.trans E216 (fun x q => q.elim)
    replace h3 := TR.ev h3 E216 (fun q => q.elim) (fun q => q.elim)
    replace h8 := SL.ev h8 E216 (fun q => q.elim) (fun q => q.elim)
    replace h11 := TR.ev h11 E216 (fun q => q.elim) (fun q => q.elim)
    replace h17 := AT.ev h17 E216 (fun q => q.elim)
    replace h204 := SL.ev h204 E216 (fun q => q.elim) (fun q => q.elim)
    replace hl209 := TR.ev hl209 E216 (fun q => q.elim) (fun q => q.elim)
    replace hr210 := TR.ev hr210 E216 (fun q => q.elim) (fun q => q.elim)
    replace hat208 := AT.ev hat208 E216 (fun q => q.elim)
    replace E := E.trans E216 (fun x q => q.elim)
    refine ⟨fun _ => ER.sb, ?_⟩
    refine d_q F rfl rfl rfl (by decide) (fun wq hS => r_assign F rfl) ER.sb fun a F => ?_
    refine d_nil ?_
    refine hK191 _ _ ?_
    replace F : Fr a 152 [(3, .pointer (some ad205)), (10, .pointer p218)] := F.sub ⟨rfl, rfl, trivial⟩
    refine wp_seq_k fun K221 hK221 => ?_
    refine wp_seq_k fun K222 hK222 => ?_
    refine regD (SB No c214 w215) 11 (.q 0 (.q 1 (.q 2 (.q 3 (.q 4 (.q 5 (.q 6 (.q 7 (.e 8 (.q 9 (.q 10 .nil))))))))))) Try_hm (by decide +kernel) ?_
    intro w223 w1_ w2_ w3_ w4_
    have E224 : Ev No c214 w215 c214 w223 := Ev.same w1_ w2_ w3_ w4_
    replace B := B.same w1_
    have zh3 := h3
    have zh8 := h8
    have zh11 := h11
    have zh17 := h17
    have zh204 := h204
    have zhl209 := hl209
    have zhr210 := hr210
    have zhat208 := hat208
    have zh219 := h219
    have ER : Ev No c214 w215 c214 w223 := Ev.same w1_ w2_ w3_ w4_
    replace h3 := TR.ev h3 E224 (fun q => q.elim) (fun q => q.elim)
    replace h8 := SL.ev h8 E224 (fun q => q.elim) (fun q => q.elim)
    replace h11 := TR.ev h11 E224 (fun q => q.elim) (fun q => q.elim)
    replace h17 := AT.ev h17 E224 (fun q => q.elim)
    replace h204 := SL.ev h204 E224 (fun q => q.elim) (fun q => q.elim)
    replace hl209 := TR.ev hl209 E224 (fun q => q.elim) (fun q => q.elim)
    replace hr210 := TR.ev hr210 E224 (fun q => q.elim) (fun q => q.elim)
    replace hat208 := AT.ev hat208 E224 (fun q => q.elim)
    replace h219 := TR.ev h219 E224 (fun q => q.elim) (fun q => q.elim)
    replace E := E.trans E224 (fun x q => q.elim)
    refine d_q F rfl rfl rfl (by decide) (fun wq hS => r_move F rfl) ER.sb fun a F => ?_
    replace H := cs_some H
    obtain ⟨tl225, tr226, tk227, tv228, ts229, td230, e231, H⟩ := H
    have z232 := zh219
    rw [e231] at z232
    obtain ⟨ad236, lp237, rp238, A233, C234, rfl, hat239, h235, hl240, hr241⟩ := TR.node z232
    have zh235 := h235
    replace h235 := SL.ev h235 ER (fun q => q.elim) (fun q => q.elim)
    have zhl240 := hl240
    replace hl240 := TR.ev hl240 ER (fun q => q.elim) (fun q => q.elim)
    have zhr241 := hr241
    replace hr241 := TR.ev hr241 ER (fun q => q.elim) (fun q => q.elim)
    have zhat239 := hat239
    replace hat239 := AT.ev hat239 ER (fun q => q.elim)
    refine d_q F rfl rfl rfl (by decide) (fun wq hS => r_nil F rfl) ER.sb fun a F => ?_
    refine d_q F rfl rfl rfl (by decide) (fun wq hS => r_fieldAddr F rfl ff_112_5) ER.sb fun a F => ?_
    refine d_q F rfl rfl rfl (by decide) (fun wq hS => r_load F rfl ag_3 (AT.cell (AT.sb zhat239 hS (fun q => q.elim)) rfl)) ER.sb fun a F => ?_
    refine d_q F rfl rfl rfl (by decide) (fun wq hS => r_move F rfl) ER.sb fun a F => ?_
    refine d_q F rfl rfl rfl (by decide) (fun wq hS => r_nil F rfl) ER.sb fun a F => ?_
    refine d_q F rfl rfl rfl (by decide) (fun wq hS => r_fieldAddr F rfl ff_112_1) ER.sb fun a F => ?_
    refine d_q F rfl rfl rfl (by decide) (fun wq hS => r_load F rfl ag_77 (AT.cell (AT.sb zhat208 hS (fun q => q.elim)) rfl)) ER.sb fun a F => ?_
    refine d_e ?_
    replace H := bind_some H
    obtain ⟨t243, q244, H⟩ := H
    refine o_call F rfl (wanted_none rfl) rfl (by decide) (r_call F Try.func96 rfl (by kernel_rfl) rfl) (tree_Tree_Depth.calls (m := m + 2) (Nat.add_pos_left hm0 _) B hr210 _ q244) ?_
    rintro e w246 ⟨c245, rfl, E247, B248⟩
    refine ⟨_, rfl, fun a F => ?_⟩
    have B := B248
    replace ER := ER.trans E247 (fun x q => q.elim)
    replace h3 := TR.ev h3 E247 (fun q => q.elim) (fun q => q.elim)
    replace h8 := SL.ev h8 E247 (fun q => q.elim) (fun q => q.elim)
    replace h11 := TR.ev h11 E247 (fun q => q.elim) (fun q => q.elim)
    replace h17 := AT.ev h17 E247 (fun q => q.elim)
    replace h204 := SL.ev h204 E247 (fun q => q.elim) (fun q => q.elim)
    replace hl209 := TR.ev hl209 E247 (fun q => q.elim) (fun q => q.elim)
    replace hr210 := TR.ev hr210 E247 (fun q => q.elim) (fun q => q.elim)
    replace hat208 := AT.ev hat208 E247 (fun q => q.elim)
    replace h219 := TR.ev h219 E247 (fun q => q.elim) (fun q => q.elim)
    replace h235 := SL.ev h235 E247 (fun q => q.elim) (fun q => q.elim)
    replace hl240 := TR.ev hl240 E247 (fun q => q.elim) (fun q => q.elim)
    replace hr241 := TR.ev hr241 E247 (fun q => q.elim) (fun q => q.elim)
    replace hat239 := AT.ev hat239 E247 (fun q => q.elim)
    replace E := E.trans E247 (fun x q => q.elim)
    refine ⟨fun _ => ER.sb, ?_⟩
    refine d_q F rfl rfl rfl (by decide) (fun wq hS => r_add F rfl rfl) ER.sb fun a F => ?_
    refine d_q F rfl rfl rfl (by decide) (fun wq hS => r_gtr F rfl rfl) ER.sb fun a F => ?_
    refine d_nil ?_
    refine hK222 _ _ ?_
    replace F : Fr a 152 [(3, .pointer (some ad205)), (10, .pointer (some ad236)), (104, .bool (decide ((IntKind.i64.wrap (t243 + 1)) < td230)))] := F.sub ⟨rfl, rfl, rfl, trivial⟩
    by_cases hb250 : (IntKind.i64.wrap (t243 + 1)) < td230
    ·replace H := (if_pos hb250).symm.trans H
     refine wp_cond_true ((F.ev rfl).trans (congrArg Value.bool (decide_eq_true hb250))) ?_
     refine wp_seq_k fun K251 hK251 => ?_
     refine wp_seq_k fun K252 hK252 => ?_
     refine regD (SB No c245 w246) 11 (.q 0 (.q 1 (.q 2 (.q 3 (.q 5 (.q 6 (.q 7 (.q 8 (.e 4 (.e 9 (.q 10 .nil))))))))))) Try_hm (by decide +kernel) ?_
     intro w253 w1_ w2_ w3_ w4_
     have E254 : Ev No c245 w246 c245 w253 := Ev.same w1_ w2_ w3_ w4_
     replace B := B.same w1_
     have zh3 := h3
     have zh8 := h8
     have zh11 := h11
     have zh17 := h17
     have zh204 := h204
     have zhl209 := hl209
     have zhr210 := hr210
     have zhat208 := hat208
     have zh219 := h219
     have zh235 := h235
     have zhl240 := hl240
     have zhr241 := hr241
     have zhat239 := hat239
     have ER : Ev No c245 w246 c245 w253 := Ev.same w1_ w2_ w3_ w4_
     replace h3 := TR.ev h3 E254 (fun q => q.elim) (fun q => q.elim)
     replace h8 := SL.ev h8 E254 (fun q => q.elim) (fun q => q.elim)
     replace h11 := TR.ev h11 E254 (fun q => q.elim) (fun q => q.elim)
     replace h17 := AT.ev h17 E254 (fun q => q.elim)
     replace h204 := SL.ev h204 E254 (fun q => q.elim) (fun q => q.elim)
     replace hl209 := TR.ev hl209 E254 (fun q => q.elim) (fun q => q.elim)
     replace hr210 := TR.ev hr210 E254 (fun q => q.elim) (fun q => q.elim)
     replace hat208 := AT.ev hat208 E254 (fun q => q.elim)
     replace h219 := TR.ev h219 E254 (fun q => q.elim) (fun q => q.elim)
     replace h235 := SL.ev h235 E254 (fun q => q.elim) (fun q => q.elim)
     replace hl240 := TR.ev hl240 E254 (fun q => q.elim) (fun q => q.elim)
     replace hr241 := TR.ev hr241 E254 (fun q => q.elim) (fun q => q.elim)
     replace hat239 := AT.ev hat239 E254 (fun q => q.elim)
     replace E := E.trans E254 (fun x q => q.elim)
     refine d_q F rfl rfl rfl (by decide) (fun wq hS => r_move F rfl) ER.sb fun a F => ?_
     refine d_q F rfl rfl rfl (by decide) (fun wq hS => r_nil F rfl) ER.sb fun a F => ?_
     refine d_q F rfl rfl rfl (by decide) (fun wq hS => r_fieldAddr F rfl ff_112_1) ER.sb fun a F => ?_
     refine d_q F rfl rfl rfl (by decide) (fun wq hS => r_load F rfl ag_77 (AT.cell (AT.sb zhat239 hS (fun q => q.elim)) rfl)) ER.sb fun a F => ?_
     refine d_q F rfl rfl rfl (by decide) (fun wq hS => r_move F rfl) ER.sb fun a F => ?_
     refine d_q F rfl rfl rfl (by decide) (fun wq hS => r_nil F rfl) ER.sb fun a F => ?_
     refine d_q F rfl rfl rfl (by decide) (fun wq hS => r_fieldAddr F rfl ff_112_0) ER.sb fun a F => ?_
     refine d_q F rfl rfl rfl (by decide) (fun wq hS => r_load F rfl ag_77 (AT.cell (AT.sb zhat239 hS (fun q => q.elim)) rfl)) ER.sb fun a F => ?_
     refine d_e ?_
     replace H := bind_some H
     obtain ⟨t255, q256, H⟩ := H
     refine o_call F rfl (wanted_none rfl) rfl (by decide) (r_call F Try.func96 rfl (by kernel_rfl) rfl) (tree_Tree_Depth.calls (m := m + 2) (Nat.add_pos_left hm0 _) B hr241 _ q256) ?_
     rintro e w258 ⟨c257, rfl, E259, B260⟩
     refine ⟨_, rfl, fun a F => ?_⟩
     have B := B260
     replace ER := ER.trans E259 (fun x q => q.elim)
     replace h3 := TR.ev h3 E259 (fun q => q.elim) (fun q => q.elim)
     replace h8 := SL.ev h8 E259 (fun q => q.elim) (fun q => q.elim)
     replace h11 := TR.ev h11 E259 (fun q => q.elim) (fun q => q.elim)
     replace h17 := AT.ev h17 E259 (fun q => q.elim)
     replace h204 := SL.ev h204 E259 (fun q => q.elim) (fun q => q.elim)
     replace hl209 := TR.ev hl209 E259 (fun q => q.elim) (fun q => q.elim)
     replace hr210 := TR.ev hr210 E259 (fun q => q.elim) (fun q => q.elim)
     replace hat208 := AT.ev hat208 E259 (fun q => q.elim)
     replace h219 := TR.ev h219 E259 (fun q => q.elim) (fun q => q.elim)
     replace h235 := SL.ev h235 E259 (fun q => q.elim) (fun q => q.elim)
     replace hl240 := TR.ev hl240 E259 (fun q => q.elim) (fun q => q.elim)
     replace hr241 := TR.ev hr241 E259 (fun q => q.elim) (fun q => q.elim)
     replace hat239 := AT.ev hat239 E259 (fun q => q.elim)
     replace E := E.trans E259 (fun x q => q.elim)
     refine ⟨fun _ => ER.sb, ?_⟩
     refine d_e ?_
     replace H := bind_some H
     obtain ⟨t262, q263, H⟩ := H
     refine o_call F rfl (wanted_none rfl) rfl (by decide) (r_call F Try.func96 rfl (by kernel_rfl) rfl) (tree_Tree_Depth.calls (m := m + 2) (Nat.add_pos_left hm0 _) B hl240 _ q263) ?_
     rintro e w265 ⟨c264, rfl, E266, B267⟩
     refine ⟨_, rfl, fun a F => ?_⟩
     have B := B267
     replace ER := ER.trans E266 (fun x q => q.elim)
     replace h3 := TR.ev h3 E266 (fun q => q.elim) (fun q => q.elim)
     replace h8 := SL.ev h8 E266 (fun q => q.elim) (fun q => q.elim)
     replace h11 := TR.ev h11 E266 (fun q => q.elim) (fun q => q.elim)
     replace h17 := AT.ev h17 E266 (fun q => q.elim)
     replace h204 := SL.ev h204 E266 (fun q => q.elim) (fun q => q.elim)
     replace hl209 := TR.ev hl209 E266 (fun q => q.elim) (fun q => q.elim)
     replace hr210 := TR.ev hr210 E266 (fun q => q.elim) (fun q => q.elim)
     replace hat208 := AT.ev hat208 E266 (fun q => q.elim)
     replace h219 := TR.ev h219 E266 (fun q => q.elim) (fun q => q.elim)
     replace h235 := SL.ev h235 E266 (fun q => q.elim) (fun q => q.elim)
     replace hl240 := TR.ev hl240 E266 (fun q => q.elim) (fun q => q.elim)
     replace hr241 := TR.ev hr241 E266 (fun q => q.elim) (fun q => q.elim)
     replace hat239 := AT.ev hat239 E266 (fun q => q.elim)
     replace E := E.trans E266 (fun x q => q.elim)
     refine ⟨fun _ => ER.sb, ?_⟩
     refine d_q F rfl rfl rfl (by decide) (fun wq hS => r_gtr F rfl rfl) ER.sb fun a F => ?_
     refine d_nil ?_
     refine hK252 _ _ ?_
     replace F : Fr a 152 [(3, .pointer (some ad205)), (10, .pointer (some ad236)), (115, .bool (decide (t262 < t255)))] := F.sub ⟨rfl, rfl, rfl, trivial⟩
     by_cases hb269 : t262 < t255
     ·replace H := (if_pos hb269).symm.trans H
      refine wp_cond_true ((F.ev rfl).trans (congrArg Value.bool (decide_eq_true hb269))) ?_
      refine reg ?_
      refine q_val F rfl rfl (by decide) (r_move F rfl) fun a F => ?_
      replace H := bind_some H
      obtain ⟨t270, q271, H⟩ := H
      refine q_call F rfl rfl (by decide) (r_call F Try.func98 rfl (by kernel_rfl) rfl) (tree_turnLeft.calls (m := m + 2) (Nat.add_pos_left hm0 _) B h219 _ q271) ?_
      rintro e w273 ⟨c272, p276, rfl, E274, B275, h277⟩
      refine ⟨_, rfl, fun a F => ?_⟩
      have B := B275
      replace h3 := TR.ev h3 E274 (fun q => q.elim) (fun q => q.elim)
      replace h8 := SL.ev h8 E274 (fun q => q.elim) (fun q => q.elim)
      replace h11 := TR.ev h11 E274 (fun q => q.elim) (fun q => q.elim)
      replace h17 := AT.ev h17 E274 (fun q => q.elim)
      replace h204 := SL.ev h204 E274 (fun q => q.elim) (fun q => q.elim)
      replace hl209 := TR.ev hl209 E274 (fun q => q.elim) (fun q => q.elim)
      replace hr210 := TR.ev hr210 E274 (fun q => q.elim) (fun q => q.elim)
      replace hat208 := AT.ev hat208 E274 (fun q => q.elim)
      replace h219 := TR.ev h219 E274 (fun q => q.elim) (fun q => q.elim)
      replace h235 := SL.ev h235 E274 (fun q => q.elim) (fun q => q.elim)
      replace hl240 := TR.ev hl240 E274 (fun q => q.elim) (fun q => q.elim)
      replace hr241 := TR.ev hr241 E274 (fun q => q.elim) (fun q => q.elim)
      replace hat239 := AT.ev hat239 E274 (fun q => q.elim)
      replace E := E.trans E274 (fun x q => q.elim)
      refine q_val F rfl rfl (by decide) (r_assign F rfl) fun a F => ?_
      refine nil ?_
      refine hK251 _ _ ?_
      refine wp_seq_k fun K279 hK279 => ?_
      refine regD (SB No c272 w273) 16 (.q 0 (.q 1 (.q 2 (.q 3 (.q 4 (.q 5 (.q 6 (.q 7 (.q 8 (.q 9 (.q 10 (.q 11 (.q 12 (.e 13 (.e 14 (.q 15 .nil)))))))))))))))) Try_hm (by decide +kernel) ?_
      intro w280 w1_ w2_ w3_ w4_
      have E281 : Ev No c272 w273 c272 w280 := Ev.same w1_ w2_ w3_ w4_
      replace B := B.same w1_
      have zh3 := h3
      have zh8 := h8
      have zh11 := h11
      have zh17 := h17
      have zh204 := h204
      have zhl209 := hl209
      have zhr210 := hr210
      have zhat208 := hat208
      have zh219 := h219
      have zh235 := h235
      have zhl240 := hl240
      have zhr241 := hr241
      have zhat239 := hat239
      have zh277 := h277
      have ER : Ev No c272 w273 c272 w280 := Ev.same w1_ w2_ w3_ w4_
      replace h3 := TR.ev h3 E281 (fun q => q.elim) (fun q => q.elim)
      replace h8 := SL.ev h8 E281 (fun q => q.elim) (fun q => q.elim)
      replace h11 := TR.ev h11 E281 (fun q => q.elim) (fun q => q.elim)
      replace h17 := AT.ev h17 E281 (fun q => q.elim)
      replace h204 := SL.ev h204 E281 (fun q => q.elim) (fun q => q.elim)
      replace hl209 := TR.ev hl209 E281 (fun q => q.elim) (fun q => q.elim)
      replace hr210 := TR.ev hr210 E281 (fun q => q.elim) (fun q => q.elim)
      replace hat208 := AT.ev hat208 E281 (fun q => q.elim)
      replace h219 := TR.ev h219 E281 (fun q => q.elim) (fun q => q.elim)
      replace h235 := SL.ev h235 E281 (fun q => q.elim) (fun q => q.elim)
      replace hl240 := TR.ev hl240 E281 (fun q => q.elim) (fun q => q.elim)
      replace hr241 := TR.ev hr241 E281 (fun q => q.elim) (fun q => q.elim)
      replace hat239 := AT.ev hat239 E281 (fun q => q.elim)
      replace h277 := TR.ev h277 E281 (fun q => q.elim) (fun q => q.elim)
      replace E := E.trans E281 (fun x q => q.elim)
      refine d_q F rfl rfl rfl (by decide) (fun wq hS => r_move F rfl) ER.sb fun a F => ?_
      refine d_q F rfl rfl rfl (by decide) (fun wq hS => r_move F rfl) ER.sb fun a F => ?_
      refine d_q F rfl rfl rfl (by decide) (fun wq hS => r_nil F rfl) ER.sb fun a F => ?_
      refine d_q F rfl rfl rfl (by decide) (fun wq hS => r_fieldAddr F rfl ff_112_2) ER.sb fun a F => ?_
      refine d_q F rfl rfl rfl (by decide) (fun wq hS => r_load F rfl ag_9 (AT.cell (AT.sb zhat208 hS (fun q => q.elim)) rfl)) ER.sb fun a F => ?_
      refine d_q F rfl rfl rfl (by decide) (fun wq hS => r_move F rfl) ER.sb fun a F => ?_
      refine d_q F rfl rfl rfl (by decide) (fun wq hS => r_nil F rfl) ER.sb fun a F => ?_
      refine d_q F rfl rfl rfl (by decide) (fun wq hS => r_fieldAddr F rfl ff_112_3) ER.sb fun a F => ?_
      refine d_q F rfl rfl rfl (by decide) (fun wq hS => r_loads (cs := [.slice A202 tv197.value.length C203, .int .i64 tv197.rev]) F rfl ag_80 sz_80 (AT.sub (AT.sb zhat208 hS (fun q => q.elim)) 3 2 (Nat.le_of_ble_eq_true rfl))) ER.sb fun a F => ?_
      refine d_q F rfl rfl rfl (by decide) (fun wq hS => r_move F rfl) ER.sb fun a F => ?_
      refine d_q F rfl rfl rfl (by decide) (fun wq hS => r_nil F rfl) ER.sb fun a F => ?_
      refine d_q F rfl rfl rfl (by decide) (fun wq hS => r_fieldAddr F rfl ff_112_1) ER.sb fun a F => ?_
      refine d_q F rfl rfl rfl (by decide) (fun wq hS => r_load F rfl ag_77 (AT.cell (AT.sb zhat208 hS (fun q => q.elim)) rfl)) ER.sb fun a F => ?_
      refine d_e ?_
      replace H := bind_some H
      obtain ⟨t282, q283, H⟩ := H
      refine o_call F rfl (wanted_none rfl) rfl (by decide) (r_call F Try.func89 rfl (by kernel_rfl) rfl) (tree_node.calls (m := m + 2) (Nat.add_pos_left hm0 _) B h277 h204 hr210 _ q283) ?_
      rintro e w285 ⟨c284, p288, rfl, E286, B287, h289⟩
      refine ⟨_, rfl, fun a F => ?_⟩
      have B := B287
      replace ER := ER.trans E286 (fun x q => q.elim)
      replace h3 := TR.ev h3 E286 (fun q => q.elim) (fun q => q.elim)
      replace h8 := SL.ev h8 E286 (fun q => q.elim) (fun q => q.elim)
      replace h11 := TR.ev h11 E286 (fun q => q.elim) (fun q => q.elim)
      replace h17 := AT.ev h17 E286 (fun q => q.elim)
      replace h204 := SL.ev h204 E286 (fun q => q.elim) (fun q => q.elim)
      replace hl209 := TR.ev hl209 E286 (fun q => q.elim) (fun q => q.elim)
      replace hr210 := TR.ev hr210 E286 (fun q => q.elim) (fun q => q.elim)
      replace hat208 := AT.ev hat208 E286 (fun q => q.elim)
      replace h219 := TR.ev h219 E286 (fun q => q.elim) (fun q => q.elim)
      replace h235 := SL.ev h235 E286 (fun q => q.elim) (fun q => q.elim)
      replace hl240 := TR.ev hl240 E286 (fun q => q.elim) (fun q => q.elim)
      replace hr241 := TR.ev hr241 E286 (fun q => q.elim) (fun q => q.elim)
      replace hat239 := AT.ev hat239 E286 (fun q => q.elim)
      replace h277 := TR.ev h277 E286 (fun q => q.elim) (fun q => q.elim)
      replace E := E.trans E286 (fun x q => q.elim)
      refine ⟨fun _ => ER.sb, ?_⟩
      refine d_e ?_
      replace H := bind_some H
      obtain ⟨t291, q292, H⟩ := H
      refine o_call F rfl (wanted_none rfl) rfl (by decide) (r_call F Try.func97 rfl (by kernel_rfl) rfl) (tree_turnRight.calls (m := m + 2) (Nat.add_pos_left hm0 _) B h289 _ q292) ?_
      rintro e w294 ⟨c293, p297, rfl, E295, B296, h298⟩
      refine ⟨_, rfl, fun a F => ?_⟩
      have B := B296
      replace ER := ER.trans E295 (fun x q => q.elim)
      replace h3 := TR.ev h3 E295 (fun q => q.elim) (fun q => q.elim)
      replace h8 := SL.ev h8 E295 (fun q => q.elim) (fun q => q.elim)
      replace h11 := TR.ev h11 E295 (fun q => q.elim) (fun q => q.elim)
      replace h17 := AT.ev h17 E295 (fun q => q.elim)
      replace h204 := SL.ev h204 E295 (fun q => q.elim) (fun q => q.elim)
      replace hl209 := TR.ev hl209 E295 (fun q => q.elim) (fun q => q.elim)
      replace hr210 := TR.ev hr210 E295 (fun q => q.elim) (fun q => q.elim)
      replace hat208 := AT.ev hat208 E295 (fun q => q.elim)
      replace h219 := TR.ev h219 E295 (fun q => q.elim) (fun q => q.elim)
      replace h235 := SL.ev h235 E295 (fun q => q.elim) (fun q => q.elim)
      replace hl240 := TR.ev hl240 E295 (fun q => q.elim) (fun q => q.elim)
      replace hr241 := TR.ev hr241 E295 (fun q => q.elim) (fun q => q.elim)
      replace hat239 := AT.ev hat239 E295 (fun q => q.elim)
      replace h277 := TR.ev h277 E295 (fun q => q.elim) (fun q => q.elim)
      replace h289 := TR.ev h289 E295 (fun q => q.elim) (fun q => q.elim)
      replace E := E.trans E295 (fun x q => q.elim)
      refine ⟨fun _ => ER.sb, ?_⟩
      refine d_q F rfl rfl rfl (by decide) (fun wq hS => r_assign F rfl) ER.sb fun a F => ?_
      refine d_nil ?_
      refine hK279 _ _ ?_
      replace F : Fr a 152 [(8, .pointer p297)] := F.sub ⟨rfl, trivial⟩
      refine wp_ret ?_
      refine thenR ?_
      refine inbR ?_
      refine thenR ?_
      replace H := Option.some.inj H
      subst H
      refine out1 F rfl rfl ?_
      exact ⟨fun b_ => (fun x_ => if x_ < m then x_ else 0) (c293 b_), p297, rfl, E.leave B0 (fun x_ => if x_ < m then x_ else 0) (by intro x_ hx_; show (if x_ < m then x_ else 0) = x_; ((repeat' split) <;> omega)), (fun b_ hb_ => by show (if (c293 b_) < m then (c293 b_) else 0) < m; ((repeat' split) <;> omega)), TR.rc h298 (fun k_ hk_ => by show (if (c293 k_) < m then (c293 k_) else 0) = _; rw [hk_]; ((repeat' split) <;> omega)) (fun k_ hk_ => by show (if (c293 k_) < m then (c293 k_) else 0) = _; rw [hk_]; ((repeat' split) <;> omega))⟩
     ·replace H := (if_neg hb269).symm.trans H
      refine wp_cond_false ((F.ev rfl).trans (congrArg Value.bool (decide_eq_false hb269))) ?_
      refine wp_skip ?_
      refine hK251 _ _ ?_
      refine wp_seq_k fun K300 hK300 => ?_
      refine regD (SB No c264 w265) 16 (.q 0 (.q 1 (.q 2 (.q 3 (.q 4 (.q 5 (.q 6 (.q 7 (.q 8 (.q 9 (.q 10 (.q 11 (.q 12 (.e 13 (.e 14 (.q 15 .nil)))))))))))))))) Try_hm (by decide +kernel) ?_
      intro w301 w1_ w2_ w3_ w4_
      have E302 : Ev No c264 w265 c264 w301 := Ev.same w1_ w2_ w3_ w4_
      replace B := B.same w1_
      have zh3 := h3
      have zh8 := h8
      have zh11 := h11
      have zh17 := h17
      have zh204 := h204
      have zhl209 := hl209
      have zhr210 := hr210
      have zhat208 := hat208
      have zh219 := h219
      have zh235 := h235
      have zhl240 := hl240
      have zhr241 := hr241
      have zhat239 := hat239
      have ER : Ev No c264 w265 c264 w301 := Ev.same w1_ w2_ w3_ w4_
      replace h3 := TR.ev h3 E302 (fun q => q.elim) (fun q => q.elim)
      replace h8 := SL.ev h8 E302 (fun q => q.elim) (fun q => q.elim)
      replace h11 := TR.ev h11 E302 (fun q => q.elim) (fun q => q.elim)
      replace h17 := AT.ev h17 E302 (fun q => q.elim)
      replace h204 := SL.ev h204 E302 (fun q => q.elim) (fun q => q.elim)
      replace hl209 := TR.ev hl209 E302 (fun q => q.elim) (fun q => q.elim)
      replace hr210 := TR.ev hr210 E302 (fun q => q.elim) (fun q => q.elim)
      replace hat208 := AT.ev hat208 E302 (fun q => q.elim)
      replace h219 := TR.ev h219 E302 (fun q => q.elim) (fun q => q.elim)
      replace h235 := SL.ev h235 E302 (fun q => q.elim) (fun q => q.elim)
      replace hl240 := TR.ev hl240 E302 (fun q => q.elim) (fun q => q.elim)
      replace hr241 := TR.ev hr241 E302 (fun q => q.elim) (fun q => q.elim)
      replace hat239 := AT.ev hat239 E302 (fun q => q.elim)
      replace E := E.trans E302 (fun x q => q.elim)
      refine d_q F rfl rfl rfl (by decide) (fun wq hS => r_move F rfl) ER.sb fun a F => ?_
      refine d_q F rfl rfl rfl (by decide) (fun wq hS => r_move F rfl) ER.sb fun a F => ?_
      refine d_q F rfl rfl rfl (by decide) (fun wq hS => r_nil F rfl) ER.sb fun a F => ?_
      refine d_q F rfl rfl rfl (by decide) (fun wq hS => r_fieldAddr F rfl ff_112_2) ER.sb fun a F => ?_
      refine d_q F rfl rfl rfl (by decide) (fun wq hS => r_load F rfl ag_9 (AT.cell (AT.sb zhat208 hS (fun q => q.elim)) rfl)) ER.sb fun a F => ?_
      refine d_q F rfl rfl rfl (by decide) (fun wq hS => r_move F rfl) ER.sb fun a F => ?_
      refine d_q F rfl rfl rfl (by decide) (fun wq hS => r_nil F rfl) ER.sb fun a F => ?_
      refine d_q F rfl rfl rfl (by decide) (fun wq hS => r_fieldAddr F rfl ff_112_3) ER.sb fun a F => ?_
      refine d_q F rfl rfl rfl (by decide) (fun wq hS => r_loads (cs := [.slice A202 tv197.value.length C203, .int .i64 tv197.rev]) F rfl ag_80 sz_80 (AT.sub (AT.sb zhat208 hS (fun q => q.elim)) 3 2 (Nat.le_of_ble_eq_true rfl))) ER.sb fun a F => ?_
      refine d_q F rfl rfl rfl (by decide) (fun wq hS => r_move F rfl) ER.sb fun a F => ?_
      refine d_q F rfl rfl rfl (by decide) (fun wq hS => r_nil F rfl) ER.sb fun a F => ?_
      refine d_q F rfl rfl rfl (by decide) (fun wq hS => r_fieldAddr F rfl ff_112_1) ER.sb fun a F => ?_
      refine d_q F rfl rfl rfl (by decide) (fun wq hS => r_load F rfl ag_77 (AT.cell (AT.sb zhat208 hS (fun q => q.elim)) rfl)) ER.sb fun a F => ?_
      refine d_e ?_
      replace H := bind_some H
      obtain ⟨t282, q283, H⟩ := H
      refine o_call F rfl (wanted_none rfl) rfl (by decide) (r_call F Try.func89 rfl (by kernel_rfl) rfl) (tree_node.calls (m := m + 2) (Nat.add_pos_left hm0 _) B h219 h204 hr210 _ q283) ?_
      rintro e w304 ⟨c303, p307, rfl, E305, B306, h308⟩
      refine ⟨_, rfl, fun a F => ?_⟩
      have B := B306
      replace ER := ER.trans E305 (fun x q => q.elim)
      replace h3 := TR.ev h3 E305 (fun q => q.elim) (fun q => q.elim)
      replace h8 := SL.ev h8 E305 (fun q => q.elim) (fun q => q.elim)
      replace h11 := TR.ev h11 E305 (fun q => q.elim) (fun q => q.elim)
      replace h17 := AT.ev h17 E305 (fun q => q.elim)
      replace h204 := SL.ev h204 E305 (fun q => q.elim) (fun q => q.elim)
      replace hl209 := TR.ev hl209 E305 (fun q => q.elim) (fun q => q.elim)
      replace hr210 := TR.ev hr210 E305 (fun q => q.elim) (fun q => q.elim)
      replace hat208 := AT.ev hat208 E305 (fun q => q.elim)
      replace h219 := TR.ev h219 E305 (fun q => q.elim) (fun q => q.elim)
      replace h235 := SL.ev h235 E305 (fun q => q.elim) (fun q => q.elim)
      replace hl240 := TR.ev hl240 E305 (fun q => q.elim) (fun q => q.elim)
      replace hr241 := TR.ev hr241 E305 (fun q => q.elim) (fun q => q.elim)
      replace hat239 := AT.ev hat239 E305 (fun q => q.elim)
      replace E := E.trans E305 (fun x q => q.elim)
      refine ⟨fun _ => ER.sb, ?_⟩
      refine d_e ?_
      replace H := bind_some H
      obtain ⟨t291, q292, H⟩ := H
      refine o_call F rfl (wanted_none rfl) rfl (by decide) (r_call F Try.func97 rfl (by kernel_rfl) rfl) (tree_turnRight.calls (m := m + 2) (Nat.add_pos_left hm0 _) B h308 _ q292) ?_
      rintro e w311 ⟨c310, p314, rfl, E312, B313, h315⟩
      refine ⟨_, rfl, fun a F => ?_⟩
      have B := B313
      replace ER := ER.trans E312 (fun x q => q.elim)
      replace h3 := TR.ev h3 E312 (fun q => q.elim) (fun q => q.elim)
      replace h8 := SL.ev h8 E312 (fun q => q.elim) (fun q => q.elim)
      replace h11 := TR.ev h11 E312 (fun q => q.elim) (fun q => q.elim)
      replace h17 := AT.ev h17 E312 (fun q => q.elim)
      replace h204 := SL.ev h204 E312 (fun q => q.elim) (fun q => q.elim)
      replace hl209 := TR.ev hl209 E312 (fun q => q.elim) (fun q => q.elim)
      replace hr210 := TR.ev hr210 E312 (fun q => q.elim) (fun q => q.elim)
      replace hat208 := AT.ev hat208 E312 (fun q => q.elim)
      replace h219 := TR.ev h219 E312 (fun q => q.elim) (fun q => q.elim)
      replace h235 := SL.ev h235 E312 (fun q => q.elim) (fun q => q.elim)
      replace hl240 := TR.ev hl240 E312 (fun q => q.elim) (fun q => q.elim)
      replace hr241 := TR.ev hr241 E312 (fun q => q.elim) (fun q => q.elim)
      replace hat239 := AT.ev hat239 E312 (fun q => q.elim)
      replace h308 := TR.ev h308 E312 (fun q => q.elim) (fun q => q.elim)
      replace E := E.trans E312 (fun x q => q.elim)
      refine ⟨fun _ => ER.sb, ?_⟩
      refine d_q F rfl rfl rfl (by decide) (fun wq hS => r_assign F rfl) ER.sb fun a F => ?_
      refine d_nil ?_
      refine hK300 _ _ ?_
      replace F : Fr a 152 [(8, .pointer p314)] := F.sub ⟨rfl, trivial⟩
      refine wp_ret ?_
      refine thenR ?_
      refine inbR ?_
      refine thenR ?_
      replace H := Option.some.inj H
      subst H
      refine out1 F rfl rfl ?_
      exact ⟨fun b_ => (fun x_ => if x_ < m then x_ else 0) (c310 b_), p314, rfl, E.leave B0 (fun x_ => if x_ < m then x_ else 0) (by intro x_ hx_; show (if x_ < m then x_ else 0) = x_; ((repeat' split) <;> omega)), (fun b_ hb_ => by show (if (c310 b_) < m then (c310 b_) else 0) < m; ((repeat' split) <;> omega)), TR.rc h315 (fun k_ hk_ => by show (if (c310 k_) < m then (c310 k_) else 0) = _; rw [hk_]; ((repeat' split) <;> omega)) (fun k_ hk_ => by show (if (c310 k_) < m then (c310 k_) else 0) = _; rw [hk_]; ((repeat' split) <;> omega))⟩
    ·replace H := (if_neg hb250).symm.trans H
     refine wp_cond_false ((F.ev rfl).trans (congrArg Value.bool (decide_eq_false hb250))) ?_
     refine wp_skip ?_
     refine hK221 _ _ ?_
     refine wp_seq_k fun K317 hK317 => ?_
     refine regD (SB No c245 w246) 15 (.q 0 (.q 1 (.q 2 (.q 3 (.q 4 (.q 5 (.q 6 (.q 7 (.q 8 (.q 9 (.q 10 (.q 11 (.q 12 (.e 13 (.q 14 .nil))))))))))))))) Try_hm (by decide +kernel) ?_
     intro w318 w1_ w2_ w3_ w4_
     have E319 : Ev No c245 w246 c245 w318 := Ev.same w1_ w2_ w3_ w4_
     replace B := B.same w1_
     have zh3 := h3
     have zh8 := h8
     have zh11 := h11
     have zh17 := h17
     have zh204 := h204
     have zhl209 := hl209
     have zhr210 := hr210
     have zhat208 := hat208
     have zh219 := h219
     have zh235 := h235
     have zhl240 := hl240
     have zhr241 := hr241
     have zhat239 := hat239
     have ER : Ev No c245 w246 c245 w318 := Ev.same w1_ w2_ w3_ w4_
     replace h3 := TR.ev h3 E319 (fun q => q.elim) (fun q => q.elim)
     replace h8 := SL.ev h8 E319 (fun q => q.elim) (fun q => q.elim)
     replace h11 := TR.ev h11 E319 (fun q => q.elim) (fun q => q.elim)
     replace h17 := AT.ev h17 E319 (fun q => q.elim)
     replace h204 := SL.ev h204 E319 (fun q => q.elim) (fun q => q.elim)
     replace hl209 := TR.ev hl209 E319 (fun q => q.elim) (fun q => q.elim)
     replace hr210 := TR.ev hr210 E319 (fun q => q.elim) (fun q => q.elim)
     replace hat208 := AT.ev hat208 E319 (fun q => q.elim)
     replace h219 := TR.ev h219 E319 (fun q => q.elim) (fun q => q.elim)
     replace h235 := SL.ev h235 E319 (fun q => q.elim) (fun q => q.elim)
     replace hl240 := TR.ev hl240 E319 (fun q => q.elim) (fun q => q.elim)
     replace hr241 := TR.ev hr241 E319 (fun q => q.elim) (fun q => q.elim)
     replace hat239 := AT.ev hat239 E319 (fun q => q.elim)
     replace E := E.trans E319 (fun x q => q.elim)
     refine d_q F rfl rfl rfl (by decide) (fun wq hS => r_move F rfl) ER.sb fun a F => ?_
     refine d_q F rfl rfl rfl (by decide) (fun wq hS => r_move F rfl) ER.sb fun a F => ?_
     refine d_q F rfl rfl rfl (by decide) (fun wq hS => r_nil F rfl) ER.sb fun a F => ?_
     refine d_q F rfl rfl rfl (by decide) (fun wq hS => r_fieldAddr F rfl ff_112_2) ER.sb fun a F => ?_
     refine d_q F rfl rfl rfl (by decide) (fun wq hS => r_load F rfl ag_9 (AT.cell (AT.sb zhat208 hS (fun q => q.elim)) rfl)) ER.sb fun a F => ?_
     refine d_q F rfl rfl rfl (by decide) (fun wq hS => r_move F rfl) ER.sb fun a F => ?_
     refine d_q F rfl rfl rfl (by decide) (fun wq hS => r_nil F rfl) ER.sb fun a F => ?_
     refine d_q F rfl rfl rfl (by decide) (fun wq hS => r_fieldAddr F rfl ff_112_3) ER.sb fun a F => ?_
     refine d_q F rfl rfl rfl (by decide) (fun wq hS => r_loads (cs := [.slice A202 tv197.value.length C203, .int .i64 tv197.rev]) F rfl ag_80 sz_80 (AT.sub (AT.sb zhat208 hS (fun q => q.elim)) 3 2 (Nat.le_of_ble_eq_true rfl))) ER.sb fun a F => ?_
     refine d_q F rfl rfl rfl (by decide) (fun wq hS => r_move F rfl) ER.sb fun a F => ?_
     refine d_q F rfl rfl rfl (by decide) (fun wq hS => r_nil F rfl) ER.sb fun a F => ?_
     refine d_q F rfl rfl rfl (by decide) (fun wq hS => r_fieldAddr F rfl ff_112_1) ER.sb fun a F => ?_
     refine d_q F rfl rfl rfl (by decide) (fun wq hS => r_load F rfl ag_77 (AT.cell (AT.sb zhat208 hS (fun q => q.elim)) rfl)) ER.sb fun a F => ?_
     refine d_e ?_
     replace H := bind_some H
     obtain ⟨t320, q321, H⟩ := H
     refine o_call F rfl (wanted_none rfl) rfl (by decide) (r_call F Try.func89 rfl (by kernel_rfl) rfl) (tree_node.calls (m := m + 2) (Nat.add_pos_left hm0 _) B h219 h204 hr210 _ q321) ?_
     rintro e w323 ⟨c322, p326, rfl, E324, B325, h327⟩
     refine ⟨_, rfl, fun a F => ?_⟩
     have B := B325
     replace ER := ER.trans E324 (fun x q => q.elim)
     replace h3 := TR.ev h3 E324 (fun q => q.elim) (fun q => q.elim)
     replace h8 := SL.ev h8 E324 (fun q => q.elim) (fun q => q.elim)
     replace h11 := TR.ev h11 E324 (fun q => q.elim) (fun q => q.elim)
     replace h17 := AT.ev h17 E324 (fun q => q.elim)
     replace h204 := SL.ev h204 E324 (fun q => q.elim) (fun q => q.elim)
     replace hl209 := TR.ev hl209 E324 (fun q => q.elim) (fun q => q.elim)
     replace hr210 := TR.ev hr210 E324 (fun q => q.elim) (fun q => q.elim)
     replace hat208 := AT.ev hat208 E324 (fun q => q.elim)
     replace h219 := TR.ev h219 E324 (fun q => q.elim) (fun q => q.elim)
     replace h235 := SL.ev h235 E324 (fun q => q.elim) (fun q => q.elim)
     replace hl240 := TR.ev hl240 E324 (fun q => q.elim) (fun q => q.elim)
     replace hr241 := TR.ev hr241 E324 (fun q => q.elim) (fun q => q.elim)
     replace hat239 := AT.ev hat239 E324 (fun q => q.elim)
     replace E := E.trans E324 (fun x q => q.elim)
     refine ⟨fun _ => ER.sb, ?_⟩
     refine d_q F rfl rfl rfl (by decide) (fun wq hS => r_assign F rfl) ER.sb fun a F => ?_
     refine d_nil ?_
     refine hK317 _ _ ?_
     replace F : Fr a 152 [(8, .pointer p326)] := F.sub ⟨rfl, trivial⟩
     refine wp_ret ?_
     refine inbR ?_
     refine thenR ?_
     replace H := Option.some.inj H
     subst H
     refine out1 F rfl rfl ?_
     exact ⟨fun b_ => (fun x_ => if x_ < m then x_ else 0) (c322 b_), p326, rfl, E.leave B0 (fun x_ => if x_ < m then x_ else 0) (by intro x_ hx_; show (if x_ < m then x_ else 0) = x_; ((repeat' split) <;> omega)), (fun b_ hb_ => by show (if (c322 b_) < m then (c322 b_) else 0) < m; ((repeat' split) <;> omega)), TR.rc h327 (fun k_ hk_ => by show (if (c322 k_) < m then (c322 k_) else 0) = _; rw [hk_]; ((repeat' split) <;> omega)) (fun k_ hk_ => by show (if (c322 k_) < m then (c322 k_) else 0) = _; rw [hk_]; ((repeat' split) <;> omega))⟩
   ·replace H := (if_neg hb190).symm.trans H
    refine wp_cond_false ((F.ev rfl).trans (congrArg Value.bool (decide_eq_false hb190))) ?_
    refine wp_skip ?_
    refine hK20 _ _ ?_
    replace F : Fr a 152 [(0, .pointer p2), (1, .string a4), (3, .pointer p10), (6, .pointer (some qa15))] := F.sub ⟨rfl, rfl, rfl, rfl, trivial⟩
    refine wp_seq_k fun K329 hK329 => ?_
    refine reg ?_
    refine q_val F rfl rfl (by decide) (r_move F rfl) fun a F => ?_
    refine q_val F rfl rfl (by decide) (r_move F rfl) fun a F => ?_
    refine q_val F rfl rfl (by decide) (r_loads (cs := [.slice A6 a5.value.length C7, .int .i64 a5.rev]) F rfl ag_80 sz_80 h17) fun a F => ?_
    refine q_val F rfl rfl (by decide) (r_move F rfl) fun a F => ?_
    replace H := bind_some H
    obtain ⟨t330, q331, H⟩ := H
    refine q_call F rfl rfl (by decide) (r_call F Try.func89 rfl (by kernel_rfl) rfl) (tree_node.calls (m := m + 2) (Nat.add_pos_left hm0 _) B h3 h8 h11 _ q331) ?_
    rintro e w333 ⟨c332, p336, rfl, E334, B335, h337⟩
    refine ⟨_, rfl, fun a F => ?_⟩
    have B := B335
    replace h3 := TR.ev h3 E334 (fun q => q.elim) (fun q => q.elim)
    replace h8 := SL.ev h8 E334 (fun q => q.elim) (fun q => q.elim)
    replace h11 := TR.ev h11 E334 (fun q => q.elim) (fun q => q.elim)
    replace h17 := AT.ev h17 E334 (fun q => q.elim)
    replace E := E.trans E334 (fun x q => q.elim)
    refine q_val F rfl rfl (by decide) (r_assign F rfl) fun a F => ?_
    refine nil ?_
    refine hK329 _ _ ?_
    replace F : Fr a 152 [(8, .pointer p336)] := F.sub ⟨rfl, trivial⟩
    refine wp_ret ?_
    replace H := Option.some.inj H
    subst H
    refine out1 F rfl rfl ?_
    exact ⟨fun b_ => (fun x_ => if x_ < m then x_ else 0) (c332 b_), p336, rfl, E.leave B0 (fun x_ => if x_ < m then x_ else 0) (by intro x_ hx_; show (if x_ < m then x_ else 0) = x_; ((repeat' split) <;> omega)), (fun b_ hb_ => by show (if (c332 b_) < m then (c332 b_) else 0) < m; ((repeat' split) <;> omega)), TR.rc h337 (fun k_ hk_ => by show (if (c332 k_) < m then (c332 k_) else 0) = _; rw [hk_]; ((repeat' split) <;> omega)) (fun k_ hk_ => by show (if (c332 k_) < m then (c332 k_) else 0) = _; rw [hk_]; ((repeat' split) <;> omega))⟩
end Go.Proofs.Ythankpjbfpcldaa.G
namespace Go.Proofs.Ythankpjbfpcldaa.G
open Go Go.RowKit
set_option linter.unusedVariables false
set_option linter.unusedSimpArgs false
set_option maxRecDepth 100000 in
set_option maxHeartbeats 4000000 in
theorem tree_last.calls (k : Nat) : ∀ {m : Nat} {c0 : Nat → Nat} {w0 : World} {p2 : Option Addr} {a1 : Tr} (hm0 : 0 < m) (B0 : CB m c0 w0) (h3 : TR 0 c0 w0 p2 a1) (r : Tr × ByteArray × table_cell) (H : tree_last.f k a1 = some r), Calls Try.prog 99 #[.pointer p2] w0 (fun e w_ => ∃ (c_ : Nat → Nat) (P0_ : Option Addr) (A1_ : Option Addr) (C1_ : Nat), e = .returned (.tuple #[.pointer P0_, .string r.2.1, .agg #[.slice A1_ r.2.2.value.length C1_, .int .i64 r.2.2.rev]]) ∧ Ev (fun x => False) c0 w0 c_ w_ ∧ CB m c_ w_ ∧ TR 0 c_ w_ P0_ r.1 ∧ SL false (Kint .u8) 0 0 c_ w_ A1_ C1_ r.2.2.value) := by
 induction k with
 | zero => intro m c0 w0 p2 a1 hm0 B0 h3 r H; exact absurd H (by simp [tree_last.f])
 | succ k ih =>
  intro m c0 w0 p2 a1 hm0 B0 h3 r H
  unfold tree_last.f at H
  have B := B0.mono (show m ≤ m + 3 by omega)
  have E : Ev (fun x => False ∨ m ≤ x) c0 w0 c0 w0 := Ev.refl
  refine enter (N := 50) (l := [.pointer p2]) Try.func99 rfl rfl (Nat.le_of_ble_eq_true rfl) fun a F => ?_
  refine wp_seq_k fun K4 hK4 => ?_
  refine reg ?_
  refine q_val F rfl rfl (by decide) (r_assign F rfl) fun a F => ?_
  refine q_val F rfl rfl (by decide) (r_assign F rfl) fun a F => ?_
  refine q_eff F rfl rfl (by decide) (e_alloc F zv_80 c0 (m + 1)) ?_
  rintro v w6 a ⟨c5, qa7, rfl, E8, h9, B10⟩ F
  replace B := B10 _ B (Nat.add_lt_add_left (by decide) m)
  replace h3 := TR.ev h3 E8 (fun q => q.elim) (fun q => q.elim)
  replace E := E.trans E8 (fun x q => q.elim)
  replace h9 : AT true (m + 1) c5 w6 qa7 [.slice none 0 0, .int .i64 0] := h9
  refine nil ?_
  refine hK4 _ _ ?_
  refine wp_seq_k fun K12 hK12 => ?_
  refine wp_seq_k fun K13 hK13 => ?_
  refine reg ?_
  refine q_val F rfl rfl (by decide) (r_move F rfl) fun a F => ?_
  replace H := cs_some H
  obtain ⟨tl14, tr15, tk16, tv17, ts18, td19, e20, H⟩ := H
  have z21 := h3
  rw [e20] at z21
  obtain ⟨ad25, lp26, rp27, A22, C23, rfl, hat28, h24, hl29, hr30⟩ := TR.node z21
  refine q_val F rfl rfl (by decide) (r_nil F rfl) fun a F => ?_
  refine q_val F rfl rfl (by decide) (r_fieldAddr F rfl ff_112_1) fun a F => ?_
  refine q_val F rfl rfl (by decide) (r_load F rfl ag_77 (AT.cell hat28 rfl)) fun a F => ?_
  refine q_val F rfl rfl (by decide) (r_peqlA F Try.underlying77 rfl rfl (TR.isNil hr30)) fun a F => ?_
  refine nil ?_
  refine hK13 _ _ ?_
  by_cases hb32 : (Tr.isNil tr15) = true
  ·replace H := (if_pos hb32).symm.trans H
   refine wp_cond_true ((F.ev rfl).trans (congrArg Value.bool hb32)) ?_
   refine wp_seq_k fun K33 hK33 => ?_
   refine regD (SB No c5 w6) 14 (.q 0 (.q 1 (.q 2 (.q 3 (.q 4 (.q 5 (.q 6 (.q 7 (.q 8 (.q 9 (.q 10 (.q 11 (.q 12 (.q 13 (.e 14 .nil))))))))))))))) Try_hm (by decide +kernel) ?_
   intro w34 w1_ w2_ w3_ w4_
   have E35 : Ev No c5 w6 c5 w34 := Ev.same w1_ w2_ w3_ w4_
   replace B := B.same w1_
   have zh3 := h3
   have zh9 := h9
   have zh24 := h24
   have zhl29 := hl29
   have zhr30 := hr30
   have zhat28 := hat28
   have ER : Ev No c5 w6 c5 w34 := Ev.same w1_ w2_ w3_ w4_
   replace h3 := TR.ev h3 E35 (fun q => q.elim) (fun q => q.elim)
   replace h9 := AT.ev h9 E35 (fun q => q.elim)
   replace h24 := SL.ev h24 E35 (fun q => q.elim) (fun q => q.elim)
   replace hl29 := TR.ev hl29 E35 (fun q => q.elim) (fun q => q.elim)
   replace hr30 := TR.ev hr30 E35 (fun q => q.elim) (fun q => q.elim)
   replace hat28 := AT.ev hat28 E35 (fun q => q.elim)
   replace E := E.trans E35 (fun x q => q.elim)
   refine d_q F rfl rfl rfl (by decide) (fun wq hS => r_move F rfl) ER.sb fun a F => ?_
   refine d_q F rfl rfl rfl (by decide) (fun wq hS => r_nil F rfl) ER.sb fun a F => ?_
   refine d_q F rfl rfl rfl (by decide) (fun wq hS => r_fieldAddr F rfl ff_112_0) ER.sb fun a F => ?_
   refine d_q F rfl rfl rfl (by decide) (fun wq hS => r_load F rfl ag_77 (AT.cell (AT.sb zhat28 hS (fun q => q.elim)) rfl)) ER.sb fun a F => ?_
   refine d_q F rfl rfl rfl (by decide) (fun wq hS => r_move F rfl) ER.sb fun a F => ?_
   refine d_q F rfl rfl rfl (by decide) (fun wq hS => r_nil F rfl) ER.sb fun a F => ?_
   refine d_q F rfl rfl rfl (by decide) (fun wq hS => r_fieldAddr F rfl ff_112_2) ER.sb fun a F => ?_
   refine d_q F rfl rfl rfl (by decide) (fun wq hS => r_load F rfl ag_9 (AT.cell (AT.sb zhat28 hS (fun q => q.elim)) rfl)) ER.sb fun a F => ?_
   refine d_q F rfl rfl rfl (by decide) (fun wq hS => r_move F rfl) ER.sb fun a F => ?_
   refine d_q F rfl rfl rfl (by decide) (fun wq hS => r_nil F rfl) ER.sb fun a F => ?_
   refine d_q F rfl rfl rfl (by decide) (fun wq hS => r_fieldAddr F rfl ff_112_3) ER.sb fun a F => ?_
   refine d_q F rfl rfl rfl (by decide) (fun wq hS => r_loads (cs := [.slice A22 tv17.value.length C23, .int .i64 tv17.rev]) F rfl ag_80 sz_80 (AT.sub (AT.sb zhat28 hS (fun q => q.elim)) 3 2 (Nat.le_of_ble_eq_true rfl))) ER.sb fun a F => ?_
   refine d_q F rfl rfl rfl (by decide) (fun wq hS => r_assign F rfl) ER.sb fun a F => ?_
   refine d_q F rfl rfl rfl (by decide) (fun wq hS => r_assign F rfl) ER.sb fun a F => ?_
   refine d_e ?_
   refine o_eff0 F rfl rfl rfl (e_storeN0 (us := [.slice A22 tv17.value.length C23, .int .i64 tv17.rev]) F rfl rfl sz_80 h9 (Nat.le_of_ble_eq_true rfl) (one_all rfl)) ?_
   rintro w36 a ⟨E37, h9, Z38⟩ F
   replace B := B.size Z38
   replace h3 := TR.ev h3 E37 ne_zm ne_zm
   replace h24 := SL.ev h24 E37 ne_zm ne_zm
   replace hl29 := TR.ev hl29 E37 ne_zm ne_zm
   replace hr30 := TR.ev hr30 E37 ne_zm ne_zm
   replace hat28 := AT.ev hat28 E37 ne_zm
   replace E := E.trans E37 (fun x (q : x = m + 1) => Or.inr (le_col q))
   replace h9 : AT true (m + 1) c5 w36 qa7 [.slice A22 tv17.value.length C23, .int .i64 tv17.rev] := h9
   refine ⟨fun q => absurd rfl q, ?_⟩
   refine d_nil ?_
   refine hK33 _ _ ?_
   replace F : Fr a 50 [(2, .pointer lp26), (3, .string tk16), (4, .pointer (some qa7))] := F.sub ⟨rfl, rfl, rfl, trivial⟩
   refine wp_ret ?_
   refine thenR ?_
   replace H := Option.some.inj H
   subst H
   refine outR3 F rfl rfl rfl ⟨_, rfl, lv_agg (cs := [.slice A22 tv17.value.length C23, .int .i64 tv17.rev]) ag_80 sz_80 h9⟩ ?_
   exact ⟨fun b_ => (fun x_ => if x_ < m then x_ else 0) (c5 b_), lp26, A22, C23, rfl, E.leave B0 (fun x_ => if x_ < m then x_ else 0) (by intro x_ hx_; show (if x_ < m then x_ else 0) = x_; ((repeat' split) <;> omega)), (fun b_ hb_ => by show (if (c5 b_) < m then (c5 b_) else 0) < m; ((repeat' split) <;> omega)), TR.rc hl29 (fun k_ hk_ => by show (if (c5 k_) < m then (c5 k_) else 0) = _; rw [hk_]; ((repeat' split) <;> omega)) (fun k_ hk_ => by show (if (c5 k_) < m then (c5 k_) else 0) = _; rw [hk_]; ((repeat' split) <;> omega)), SL.rc h24 (fun k_ hk_ => by show (if (c5 k_) < m then (c5 k_) else 0) = _; rw [hk_]; ((repeat' split) <;> omega)) (fun k_ hk_ => by show (if (c5 k_) < m then (c5 k_) else 0) = _; rw [hk_]; ((repeat' split) <;> omega))⟩
  ·replace H := (if_neg hb32).symm.trans H
   refine wp_cond_false ((F.ev rfl).trans (congrArg Value.bool (bfalse hb32))) ?_
   refine wp_skip ?_
   refine hK12 _ _ ?_
   refine wp_seq_k fun K39 hK39 => ?_
   refine reg ?_
   refine q_val F rfl rfl (by decide) (r_move F rfl) fun a F => ?_
   refine q_val F rfl rfl (by decide) (r_nil F rfl) fun a F => ?_
   refine q_val F rfl rfl (by decide) (r_fieldAddr F rfl ff_112_1) fun a F => ?_
   refine q_val F rfl rfl (by decide) (r_load F rfl ag_77 (AT.cell hat28 rfl)) fun a F => ?_
   replace H := bind_some H
   obtain ⟨t40, q41, H⟩ := H
   refine q_call F rfl rfl (by decide) (r_call F Try.func99 rfl (by kernel_rfl) rfl) (ih (m := m + 3) (Nat.add_pos_left hm0 _) B hr30 _ q41) ?_
   rintro e w43 ⟨c42, p46, A48, C49, rfl, E44, B45, h47, h50⟩
   refine ⟨_, rfl, fun a F => ?_⟩
   have B := B45
   replace h3 := TR.ev h3 E44 (fun q => q.elim) (fun q => q.elim)
   replace h9 := AT.ev h9 E44 (fun q => q.elim)
   replace h24 := SL.ev h24 E44 (fun q => q.elim) (fun q => q.elim)
   replace hl29 := TR.ev hl29 E44 (fun q => q.elim) (fun q => q.elim)
   replace hr30 := TR.ev hr30 E44 (fun q => q.elim) (fun q => q.elim)
   replace hat28 := AT.ev hat28 E44 (fun q => q.elim)
   replace E := E.trans E44 (fun x q => q.elim)
   refine q_val F rfl rfl (by decide) (r_move F rfl) fun a F => ?_
   refine q_val F rfl rfl (by decide) (r_extract F rfl rfl) fun a F => ?_
   refine q_val F rfl rfl (by decide) (r_extract F rfl rfl) fun a F => ?_
   refine q_val F rfl rfl (by decide) (r_extract F rfl rfl) fun a F => ?_
   refine q_eff F rfl rfl (by decide) (e_alloc F zv_80 c42 (m + 2)) ?_
   rintro v w53 a ⟨c52, qa54, rfl, E55, h56, B57⟩ F
   replace B := B57 _ B (Nat.add_lt_add_left (by decide) m)
   replace h3 := TR.ev h3 E55 (fun q => q.elim) (fun q => q.elim)
   replace h9 := AT.ev h9 E55 (fun q => q.elim)
   replace h24 := SL.ev h24 E55 (fun q => q.elim) (fun q => q.elim)
   replace hl29 := TR.ev hl29 E55 (fun q => q.elim) (fun q => q.elim)
   replace hr30 := TR.ev hr30 E55 (fun q => q.elim) (fun q => q.elim)
   replace hat28 := AT.ev hat28 E55 (fun q => q.elim)
   replace h47 := TR.ev h47 E55 (fun q => q.elim) (fun q => q.elim)
   replace h50 := SL.ev h50 E55 (fun q => q.elim) (fun q => q.elim)
   replace E := E.trans E55 (fun x q => q.elim)
   replace h56 : AT true (m + 2) c52 w53 qa54 [.slice none 0 0, .int .i64 0] := h56
   refine q_val F rfl rfl (by decide) (r_assign F rfl) fun a F => ?_
   refine q_val F rfl rfl (by decide) (r_assign F rfl) fun a F => ?_
   refine q_eff0 F rfl rfl (e_storeN0 (us := [.slice A48 t40.2.2.value.length C49, .int .i64 t40.2.2.rev]) F rfl rfl sz_80 h56 (Nat.le_of_ble_eq_true rfl) (one_all rfl)) ?_
   rintro w59 a ⟨E60, h56, Z61⟩ F
   replace B := B.size Z61
   replace h3 := TR.ev h3 E60 ne_zm ne_zm
   replace h9 := AT.ev h9 E60 (ne_mm (by decide))
   replace h24 := SL.ev h24 E60 ne_zm ne_zm
   replace hl29 := TR.ev hl29 E60 ne_zm ne_zm
   replace hr30 := TR.ev hr30 E60 ne_zm ne_zm
   replace hat28 := AT.ev hat28 E60 ne_zm
   replace h47 := TR.ev h47 E60 ne_zm ne_zm
   replace h50 := SL.ev h50 E60 ne_zm ne_zm
   replace E := E.trans E60 (fun x (q : x = m + 2) => Or.inr (le_col q))
   replace h56 : AT true (m + 2) c52 w59 qa54 [.slice A48 t40.2.2.value.length C49, .int .i64 t40.2.2.rev] := h56
   refine nil ?_
   refine hK39 _ _ ?_
   replace F : Fr a 50 [(0, .pointer (some ad25)), (4, .pointer (some qa7)), (5, .pointer p46), (6, .string t40.2.1), (7, .pointer (some qa54))] := F.sub ⟨rfl, rfl, rfl, rfl, rfl, trivial⟩
   refine wp_seq_k fun K62 hK62 => ?_
   refine regD (SB No c52 w59) 18 (.q 0 (.q 1 (.q 2 (.q 3 (.q 4 (.q 5 (.q 6 (.q 7 (.q 8 (.q 9 (.q 10 (.q 11 (.q 12 (.q 14 (.q 15 (.e 13 (.q 16 (.q 17 (.e 18 .nil))))))))))))))))))) Try_hm (by decide +kernel) ?_
   intro w63 w1_ w2_ w3_ w4_
   have E64 : Ev No c52 w59 c52 w63 := Ev.same w1_ w2_ w3_ w4_
   replace B := B.same w1_
   have zh3 := h3
   have zh9 := h9
   have zh24 := h24
   have zhl29 := hl29
   have zhr30 := hr30
   have zhat28 := hat28
   have zh47 := h47
   have zh50 := h50
   have zh56 := h56
   have ER : Ev No c52 w59 c52 w63 := Ev.same w1_ w2_ w3_ w4_
   replace h3 := TR.ev h3 E64 (fun q => q.elim) (fun q => q.elim)
   replace h9 := AT.ev h9 E64 (fun q => q.elim)
   replace h24 := SL.ev h24 E64 (fun q => q.elim) (fun q => q.elim)
   replace hl29 := TR.ev hl29 E64 (fun q => q.elim) (fun q => q.elim)
   replace hr30 := TR.ev hr30 E64 (fun q => q.elim) (fun q => q.elim)
   replace hat28 := AT.ev hat28 E64 (fun q => q.elim)
   replace h47 := TR.ev h47 E64 (fun q => q.elim) (fun q => q.elim)
   replace h50 := SL.ev h50 E64 (fun q => q.elim) (fun q => q.elim)
   replace h56 := AT.ev h56 E64 (fun q => q.elim)
   replace E := E.trans E64 (fun x q => q.elim)
   refine d_q F rfl rfl rfl (by decide) (fun wq hS => r_move F rfl) ER.sb fun a F => ?_
   refine d_q F rfl rfl rfl (by decide) (fun wq hS => r_nil F rfl) ER.sb fun a F => ?_
   refine d_q F rfl rfl rfl (by decide) (fun wq hS => r_fieldAddr F rfl ff_112_0) ER.sb fun a F => ?_
   refine d_q F rfl rfl rfl (by decide) (fun wq hS => r_load F rfl ag_77 (AT.cell (AT.sb zhat28 hS (fun q => q.elim)) rfl)) ER.sb fun a F => ?_
   refine d_q F rfl rfl rfl (by decide) (fun wq hS => r_move F rfl) ER.sb fun a F => ?_
   refine d_q F rfl rfl rfl (by decide) (fun wq hS => r_nil F rfl) ER.sb fun a F => ?_
   refine d_q F rfl rfl rfl (by decide) (fun wq hS => r_fieldAddr F rfl ff_112_2) ER.sb fun a F => ?_
   refine d_q F rfl rfl rfl (by decide) (fun wq hS => r_load F rfl ag_9 (AT.cell (AT.sb zhat28 hS (fun q => q.elim)) rfl)) ER.sb fun a F => ?_
   refine d_q F rfl rfl rfl (by decide) (fun wq hS => r_move F rfl) ER.sb fun a F => ?_
   refine d_q F rfl rfl rfl (by decide) (fun wq hS => r_nil F rfl) ER.sb fun a F => ?_
   refine d_q F rfl rfl rfl (by decide) (fun wq hS => r_fieldAddr F rfl ff_112_3) ER.sb fun a F => ?_
   refine d_q F rfl rfl rfl (by decide) (fun wq hS => r_loads (cs := [.slice A22 tv17.value.length C23, .int .i64 tv17.rev]) F rfl ag_80 sz_80 (AT.sub (AT.sb zhat28 hS (fun q => q.elim)) 3 2 (Nat.le_of_ble_eq_true rfl))) ER.sb fun a F => ?_
   refine d_q F rfl rfl rfl (by decide) (fun wq hS => r_move F rfl) ER.sb fun a F => ?_
   refine d_q F rfl rfl rfl (by decide) (fun wq hS => r_move F rfl) ER.sb fun a F => ?_
   refine d_q F rfl rfl rfl (by decide) (fun wq hS => r_loads (cs := [.slice A48 t40.2.2.value.length C49, .int .i64 t40.2.2.rev]) F rfl ag_80 sz_80 (AT.sb zh56 hS (fun q => q.elim))) ER.sb fun a F => ?_
   refine d_e ?_
   replace H := bind_some H
   obtain ⟨t65, q66, H⟩ := H
   refine o_call F rfl (wanted_none rfl) rfl (by decide) (r_call F Try.func87 rfl (by kernel_rfl) rfl) (tree_join.calls k (m := m + 3) (Nat.add_pos_left hm0 _) B hl29 h24 h47 _ q66) ?_
   rintro e w68 ⟨c67, p71, rfl, E69, B70, h72⟩
   refine ⟨_, rfl, fun a F => ?_⟩
   have B := B70
   replace ER := ER.trans E69 (fun x q => q.elim)
   replace h3 := TR.ev h3 E69 (fun q => q.elim) (fun q => q.elim)
   replace h9 := AT.ev h9 E69 (fun q => q.elim)
   replace h24 := SL.ev h24 E69 (fun q => q.elim) (fun q => q.elim)
   replace hl29 := TR.ev hl29 E69 (fun q => q.elim) (fun q => q.elim)
   replace hr30 := TR.ev hr30 E69 (fun q => q.elim) (fun q => q.elim)
   replace hat28 := AT.ev hat28 E69 (fun q => q.elim)
   replace h47 := TR.ev h47 E69 (fun q => q.elim) (fun q => q.elim)
   replace h50 := SL.ev h50 E69 (fun q => q.elim) (fun q => q.elim)
   replace h56 := AT.ev h56 E69 (fun q => q.elim)
   replace E := E.trans E69 (fun x q => q.elim)
   refine ⟨fun _ => ER.sb, ?_⟩
   refine d_q F rfl rfl rfl (by decide) (fun wq hS => r_assign F rfl) ER.sb fun a F => ?_
   refine d_q F rfl rfl rfl (by decide) (fun wq hS => r_assign F rfl) ER.sb fun a F => ?_
   refine d_e ?_
   refine o_eff0 F rfl rfl rfl (e_storeN0 (us := [.slice A48 t40.2.2.value.length C49, .int .i64 t40.2.2.rev]) F rfl rfl sz_80 h9 (Nat.le_of_ble_eq_true rfl) (one_all rfl)) ?_
   rintro w74 a ⟨E75, h9, Z76⟩ F
   replace B := B.size Z76
   replace h3 := TR.ev h3 E75 ne_zm ne_zm
   replace h24 := SL.ev h24 E75 ne_zm ne_zm
   replace hl29 := TR.ev hl29 E75 ne_zm ne_zm
   replace hr30 := TR.ev hr30 E75 ne_zm ne_zm
   replace hat28 := AT.ev hat28 E75 ne_zm
   replace h47 := TR.ev h47 E75 ne_zm ne_zm
   replace h50 := SL.ev h50 E75 ne_zm ne_zm
   replace h56 := AT.ev h56 E75 (ne_mm (by decide))
   replace h72 := TR.ev h72 E75 ne_zm ne_zm
   replace E := E.trans E75 (fun x (q : x = m + 1) => Or.inr (le_col q))
   replace h9 : AT true (m + 1) c67 w74 qa7 [.slice A48 t40.2.2.value.length C49, .int .i64 t40.2.2.rev] := h9
   refine ⟨fun q => absurd rfl q, ?_⟩
   refine d_nil ?_
   refine hK62 _ _ ?_
   replace F : Fr a 50 [(2, .pointer p71), (3, .string t40.2.1), (4, .pointer (some qa7))] := F.sub ⟨rfl, rfl, rfl, trivial⟩
   refine wp_ret ?_
   replace H := Option.some.inj H
   subst H
   refine outR3 F rfl rfl rfl ⟨_, rfl, lv_agg (cs := [.slice A48 t40.2.2.value.length C49, .int .i64 t40.2.2.rev]) ag_80 sz_80 h9⟩ ?_
   exact ⟨fun b_ => (fun x_ => if x_ < m then x_ else 0) (c67 b_), p71, A48, C49, rfl, E.leave B0 (fun x_ => if x_ < m then x_ else 0) (by intro x_ hx_; show (if x_ < m then x_ else 0) = x_; ((repeat' split) <;> omega)), (fun b_ hb_ => by show (if (c67 b_) < m then (c67 b_) else 0) < m; ((repeat' split) <;> omega)), TR.rc h72 (fun k_ hk_ => by show (if (c67 k_) < m then (c67 k_) else 0) = _; rw [hk_]; ((repeat' split) <;> omega)) (fun k_ hk_ => by show (if (c67 k_) < m then (c67 k_) else 0) = _; rw [hk_]; ((repeat' split) <;> omega)), SL.rc h50 (fun k_ hk_ => by show (if (c67 k_) < m then (c67 k_) else 0) = _; rw [hk_]; ((repeat' split) <;> omega)) (fun k_ hk_ => by show (if (c67 k_) < m then (c67 k_) else 0) = _; rw [hk_]; ((repeat' split) <;> omega))⟩
end Go.Proofs.Ythankpjbfpcldaa.G
namespace Go.Proofs.Ythankpjbfpcldaa.G
open Go Go.RowKit
set_option linter.unusedVariables false
set_option linter.unusedSimpArgs false
set_option maxRecDepth 100000 in
set_option maxHeartbeats 4000000 in
theorem tree_both.calls (k : Nat) {m : Nat} {c0 : Nat → Nat} {w0 : World} {p2 : Option Addr} {p5 : Option Addr} {a1 : Tr} {a4 : Tr} (hm0 : 0 < m) (B0 : CB m c0 w0) (h3 : TR 0 c0 w0 p2 a1) (h6 : TR 0 c0 w0 p5 a4) (r : Tr) (H : tree_both.f k a1 a4 = some r) : Calls Try.prog 88 #[.pointer p2, .pointer p5] w0 (fun e w_ => ∃ (c_ : Nat → Nat) (P0_ : Option Addr), e = .returned (.pointer P0_) ∧ Ev (fun x => False) c0 w0 c_ w_ ∧ CB m c_ w_ ∧ TR 0 c_ w_ P0_ r) := by
 unfold tree_both.f at H
 have B := B0.mono (show m ≤ m + 2 by omega)
 have E : Ev (fun x => False ∨ m ≤ x) c0 w0 c0 w0 := Ev.refl
 refine enter (N := 21) (l := [.pointer p2, .pointer p5]) Try.func88 rfl rfl (Nat.le_of_ble_eq_true rfl) fun a F => ?_
 refine wp_seq_k fun K7 hK7 => ?_
 refine reg ?_
 refine q_val F rfl rfl (by decide) (r_assign F rfl) fun a F => ?_
 refine nil ?_
 refine hK7 _ _ ?_
 refine wp_seq_k fun K8 hK8 => ?_
 refine wp_seq_k fun K9 hK9 => ?_
 refine reg ?_
 refine q_val F rfl rfl (by decide) (r_move F rfl) fun a F => ?_
 refine q_val F rfl rfl (by decide) (r_peqlA F Try.underlying77 rfl rfl (TR.isNil h3)) fun a F => ?_
 refine nil ?_
 refine hK9 _ _ ?_
 by_cases hb10 : (Tr.isNil a1) = true
 ·replace H := (if_pos hb10).symm.trans H
  refine wp_cond_true ((F.ev rfl).trans (congrArg Value.bool hb10)) ?_
  refine wp_seq_k fun K11 hK11 => ?_
  refine reg ?_
  refine q_val F rfl rfl (by decide) (r_move F rfl) fun a F => ?_
  refine q_val F rfl rfl (by decide) (r_assign F rfl) fun a F => ?_
  refine nil ?_
  refine hK11 _ _ ?_
  refine wp_ret ?_
  refine thenR ?_
  replace H := Option.some.inj H
  subst H
  refine out1 F rfl rfl ?_
  exact ⟨fun b_ => (fun x_ => if x_ < m then x_ else 0) (c0 b_), p5, rfl, E.leave B0 (fun x_ => if x_ < m then x_ else 0) (by intro x_ hx_; show (if x_ < m then x_ else 0) = x_; ((repeat' split) <;> omega)), (fun b_ hb_ => by show (if (c0 b_) < m then (c0 b_) else 0) < m; ((repeat' split) <;> omega)), TR.rc h6 (fun k_ hk_ => by show (if (c0 k_) < m then (c0 k_) else 0) = _; rw [hk_]; ((repeat' split) <;> omega)) (fun k_ hk_ => by show (if (c0 k_) < m then (c0 k_) else 0) = _; rw [hk_]; ((repeat' split) <;> omega))⟩
 ·replace H := (if_neg hb10).symm.trans H
  refine wp_cond_false ((F.ev rfl).trans (congrArg Value.bool (bfalse hb10))) ?_
  refine wp_skip ?_
  refine hK8 _ _ ?_
  refine wp_seq_k fun K12 hK12 => ?_
  refine reg ?_
  refine q_val F rfl rfl (by decide) (r_move F rfl) fun a F => ?_
  replace H := bind_some H
  obtain ⟨t13, q14, H⟩ := H
  refine q_call F rfl rfl (by decide) (r_call F Try.func99 rfl (by kernel_rfl) rfl) (tree_last.calls k (m := m + 2) (Nat.add_pos_left hm0 _) B h3 _ q14) ?_
  rintro e w16 ⟨c15, p19, A21, C22, rfl, E17, B18, h20, h23⟩
  refine ⟨_, rfl, fun a F => ?_⟩
  have B := B18
  replace h3 := TR.ev h3 E17 (fun q => q.elim) (fun q => q.elim)
  replace h6 := TR.ev h6 E17 (fun q => q.elim) (fun q => q.elim)
  replace E := E.trans E17 (fun x q => q.elim)
  refine q_val F rfl rfl (by decide) (r_move F rfl) fun a F => ?_
  refine q_val F rfl rfl (by decide) (r_extract F rfl rfl) fun a F => ?_
  refine q_val F rfl rfl (by decide) (r_extract F rfl rfl) fun a F => ?_
  refine q_val F rfl rfl (by decide) (r_extract F rfl rfl) fun a F => ?_
  refine q_eff F rfl rfl (by decide) (e_alloc F zv_80 c15 (m + 1)) ?_
  rintro v w26 a ⟨c25, qa27, rfl, E28, h29, B30⟩ F
  replace B := B30 _ B (Nat.add_lt_add_left (by decide) m)
  replace h3 := TR.ev h3 E28 (fun q => q.elim) (fun q => q.elim)
  replace h6 := TR.ev h6 E28 (fun q => q.elim) (fun q => q.elim)
  replace h20 := TR.ev h20 E28 (fun q => q.elim) (fun q => q.elim)
  replace h23 := SL.ev h23 E28 (fun q => q.elim) (fun q => q.elim)
  replace E := E.trans E28 (fun x q => q.elim)
  replace h29 : AT true (m + 1) c25 w26 qa27 [.slice none 0 0, .int .i64 0] := h29
  refine q_val F rfl rfl (by decide) (r_assign F rfl) fun a F => ?_
  refine q_val F rfl rfl (by decide) (r_assign F rfl) fun a F => ?_
  refine q_eff0 F rfl rfl (e_storeN0 (us := [.slice A21 t13.2.2.value.length C22, .int .i64 t13.2.2.rev]) F rfl rfl sz_80 h29 (Nat.le_of_ble_eq_true rfl) (one_all rfl)) ?_
  rintro w32 a ⟨E33, h29, Z34⟩ F
  replace B := B.size Z34
  replace h3 := TR.ev h3 E33 ne_zm ne_zm
  replace h6 := TR.ev h6 E33 ne_zm ne_zm
  replace h20 := TR.ev h20 E33 ne_zm ne_zm
  replace h23 := SL.ev h23 E33 ne_zm ne_zm
  replace E := E.trans E33 (fun x (q : x = m + 1) => Or.inr (le_col q))
  replace h29 : AT true (m + 1) c25 w32 qa27 [.slice A21 t13.2.2.value.length C22, .int .i64 t13.2.2.rev] := h29
  refine nil ?_
  refine hK12 _ _ ?_
  replace F : Fr a 21 [(0, .pointer p19), (1, .pointer p5), (5, .string t13.2.1), (6, .pointer (some qa27))] := F.sub ⟨rfl, rfl, rfl, rfl, trivial⟩
  refine wp_seq_k fun K35 hK35 => ?_
  refine reg ?_
  refine q_val F rfl rfl (by decide) (r_move F rfl) fun a F => ?_
  refine q_val F rfl rfl (by decide) (r_move F rfl) fun a F => ?_
  refine q_val F rfl rfl (by decide) (r_loads (cs := [.slice A21 t13.2.2.value.length C22, .int .i64 t13.2.2.rev]) F rfl ag_80 sz_80 h29) fun a F => ?_
  refine q_val F rfl rfl (by decide) (r_move F rfl) fun a F => ?_
  replace H := bind_some H
  obtain ⟨t36, q37, H⟩ := H
  refine q_call F rfl rfl (by decide) (r_call F Try.func87 rfl (by kernel_rfl) rfl) (tree_join.calls k (m := m + 2) (Nat.add_pos_left hm0 _) B h20 h23 h6 _ q37) ?_
  rintro e w39 ⟨c38, p42, rfl, E40, B41, h43⟩
  refine ⟨_, rfl, fun a F => ?_⟩
  have B := B41
  replace h3 := TR.ev h3 E40 (fun q => q.elim) (fun q => q.elim)
  replace h6 := TR.ev h6 E40 (fun q => q.elim) (fun q => q.elim)
  replace h20 := TR.ev h20 E40 (fun q => q.elim) (fun q => q.elim)
  replace h23 := SL.ev h23 E40 (fun q => q.elim) (fun q => q.elim)
  replace h29 := AT.ev h29 E40 (fun q => q.elim)
  replace E := E.trans E40 (fun x q => q.elim)
  refine q_val F rfl rfl (by decide) (r_assign F rfl) fun a F => ?_
  refine nil ?_
  refine hK35 _ _ ?_
  replace F : Fr a 21 [(4, .pointer p42)] := F.sub ⟨rfl, trivial⟩
  refine wp_ret ?_
  replace H := Option.some.inj H
  subst H
  refine out1 F rfl rfl ?_
  exact ⟨fun b_ => (fun x_ => if x_ < m then x_ else 0) (c38 b_), p42, rfl, E.leave B0 (fun x_ => if x_ < m then x_ else 0) (by intro x_ hx_; show (if x_ < m then x_ else 0) = x_; ((repeat' split) <;> omega)), (fun b_ hb_ => by show (if (c38 b_) < m then (c38 b_) else 0) < m; ((repeat' split) <;> omega)), TR.rc h43 (fun k_ hk_ => by show (if (c38 k_) < m then (c38 k_) else 0) = _; rw [hk_]; ((repeat' split) <;> omega)) (fun k_ hk_ => by show (if (c38 k_) < m then (c38 k_) else 0) = _; rw [hk_]; ((repeat' split) <;> omega))⟩
end Go.Proofs.Ythankpjbfpcldaa.G
namespace Go.Proofs.Ythankpjbfpcldaa.G
open Go Go.RowKit
set_option linter.unusedVariables false
set_option linter.unusedSimpArgs false
set_option maxRecDepth 100000 in
set_option maxHeartbeats 4000000 in
theorem tree_Tree_Delete.calls (k : Nat) : ∀ {m : Nat} {c0 : Nat → Nat} {w0 : World} {p2 : Option Addr} {a1 : Tr} {a4 : ByteArray} (hm0 : 0 < m) (B0 : CB m c0 w0) (h3 : TR 0 c0 w0 p2 a1) (r : Tr × Bool) (H : tree_Tree_Delete.f k a1 a4 = some r), Calls Try.prog 64 #[.pointer p2, .string a4] w0 (fun e w_ => ∃ (c_ : Nat → Nat) (P0_ : Option Addr), e = .returned (.tuple #[.pointer P0_, .bool r.2]) ∧ Ev (fun x => False) c0 w0 c_ w_ ∧ CB m c_ w_ ∧ TR 0 c_ w_ P0_ r.1) := by
 induction k with
 | zero => intro m c0 w0 p2 a1 a4 hm0 B0 h3 r H; exact absurd H (by simp [tree_Tree_Delete.f])
 | succ k ih =>
  intro m c0 w0 p2 a1 a4 hm0 B0 h3 r H
  unfold tree_Tree_Delete.f at H
  have B := B0.mono (show m ≤ m + 1 by omega)
  have E : Ev (fun x => False ∨ m ≤ x) c0 w0 c0 w0 := Ev.refl
  refine enter (N := 86) (l := [.pointer p2, .string a4]) Try.func64 rfl rfl (Nat.le_of_ble_eq_true rfl) fun a F => ?_
  refine wp_seq_k fun K5 hK5 => ?_
  refine reg ?_
  refine q_val F rfl rfl (by decide) (r_assign F rfl) fun a F => ?_
  refine q_val F rfl rfl (by decide) (r_assign F rfl) fun a F => ?_
  refine nil ?_
  refine hK5 _ _ ?_
  refine wp_seq_k fun K6 hK6 => ?_
  refine wp_seq_k fun K7 hK7 => ?_
  refine reg ?_
  refine q_val F rfl rfl (by decide) (r_move F rfl) fun a F => ?_
  refine q_val F rfl rfl (by decide) (r_peqlA F Try.underlying77 rfl rfl (TR.isNil h3)) fun a F => ?_
  refine nil ?_
  refine hK7 _ _ ?_
  by_cases hb8 : (Tr.isNil a1) = true
  ·replace H := (if_pos hb8).symm.trans H
   refine wp_cond_true ((F.ev rfl).trans (congrArg Value.bool hb8)) ?_
   refine wp_seq_k fun K9 hK9 => ?_
   refine reg ?_
   refine q_val F rfl rfl (by decide) (r_assign F rfl) fun a F => ?_
   refine q_val F rfl rfl (by decide) (r_assign F rfl) fun a F => ?_
   refine nil ?_
   refine hK9 _ _ ?_
   refine wp_ret ?_
   refine thenR ?_
   replace H := Option.some.inj H
   subst H
   refine out2 F rfl rfl rfl ?_
   exact ⟨fun b_ => (fun x_ => if x_ < m then x_ else 0) (c0 b_), none, rfl, E.leave B0 (fun x_ => if x_ < m then x_ else 0) (by intro x_ hx_; show (if x_ < m then x_ else 0) = x_; ((repeat' split) <;> omega)), (fun b_ hb_ => by show (if (c0 b_) < m then (c0 b_) else 0) < m; ((repeat' split) <;> omega)), TR.nil⟩
  ·replace H := (if_neg hb8).symm.trans H
   refine wp_cond_false ((F.ev rfl).trans (congrArg Value.bool (bfalse hb8))) ?_
   refine wp_skip ?_
   refine hK6 _ _ ?_
   refine wp_seq_k fun K10 hK10 => ?_
   refine wp_seq_k fun K11 hK11 => ?_
   refine reg ?_
   refine q_val F rfl rfl (by decide) (r_move F rfl) fun a F => ?_
   refine q_val F rfl rfl (by decide) (r_move F rfl) fun a F => ?_
   replace H := cs_some H
   obtain ⟨tl12, tr13, tk14, tv15, ts16, td17, e18, H⟩ := H
   have z19 := h3
   rw [e18] at z19
   obtain ⟨ad23, lp24, rp25, A20, C21, rfl, hat26, h22, hl27, hr28⟩ := TR.node z19
   refine q_val F rfl rfl (by decide) (r_nil F rfl) fun a F => ?_
   refine q_val F rfl rfl (by decide) (r_fieldAddr F rfl ff_112_2) fun a F => ?_
   refine q_val F rfl rfl (by decide) (r_load F rfl ag_9 (AT.cell hat26 rfl)) fun a F => ?_
   replace H := bind_some H
   obtain ⟨t30, q31, H⟩ := H
   refine q_call F rfl rfl (by decide) (r_call F Try.func62 rfl (by kernel_rfl) rfl) (cmp_Compare.calls (m := m + 1) (Nat.add_pos_left hm0 _) B _ q31) ?_
   rintro e w33 ⟨c32, rfl, E34, B35⟩
   refine ⟨_, rfl, fun a F => ?_⟩
   have B := B35
   replace h3 := TR.ev h3 E34 (fun q => q.elim) (fun q => q.elim)
   replace h22 := SL.ev h22 E34 (fun q => q.elim) (fun q => q.elim)
   replace hl27 := TR.ev hl27 E34 (fun q => q.elim) (fun q => q.elim)
   replace hr28 := TR.ev hr28 E34 (fun q => q.elim) (fun q => q.elim)
   replace hat26 := AT.ev hat26 E34 (fun q => q.elim)
   replace E := E.trans E34 (fun x q => q.elim)
   refine q_val F rfl rfl (by decide) (r_assign F rfl) fun a F => ?_
   refine nil ?_
   refine hK11 _ _ ?_
   replace F : Fr a 86 [(0, .pointer (some ad23)), (1, .string a4), (6, .int .i64 t30)] := F.sub ⟨rfl, rfl, rfl, trivial⟩
   refine wp_block ?_
   refine wp_seq_k fun K37 hK37 => ?_
   refine reg ?_
   refine q_val F rfl rfl (by decide) (r_move F rfl) fun a F => ?_
   refine q_val F rfl rfl (by decide) (r_lss F rfl rfl) fun a F => ?_
   refine q_val F rfl rfl (by decide) (r_assign F rfl) fun a F => ?_
   refine nil ?_
   refine hK37 _ _ ?_
   by_cases hb38 : t30 < 0
   ·replace H := (if_pos hb38).symm.trans H
    refine wp_cond_true ((F.ev rfl).trans (congrArg Value.bool (decide_eq_true hb38))) ?_
    refine wp_seq_k fun K39 hK39 => ?_
    refine reg ?_
    refine q_val F rfl rfl (by decide) (r_move F rfl) fun a F => ?_
    refine q_val F rfl rfl (by decide) (r_nil F rfl) fun a F => ?_
    refine q_val F rfl rfl (by decide) (r_fieldAddr F rfl ff_112_0) fun a F => ?_
    refine q_val F rfl rfl (by decide) (r_load F rfl ag_77 (AT.cell hat26 rfl)) fun a F => ?_
    refine q_val F rfl rfl (by decide) (r_move F rfl) fun a F => ?_
    replace H := bind_some H
    obtain ⟨t40, q41, H⟩ := H
    refine q_call F rfl rfl (by decide) (r_call F Try.func64 rfl (by kernel_rfl) rfl) (ih (m := m + 1) (Nat.add_pos_left hm0 _) B hl27 _ q41) ?_
    rintro e w43 ⟨c42, p46, rfl, E44, B45, h47⟩
    refine ⟨_, rfl, fun a F => ?_⟩
    have B := B45
    replace h3 := TR.ev h3 E44 (fun q => q.elim) (fun q => q.elim)
    replace h22 := SL.ev h22 E44 (fun q => q.elim) (fun q => q.elim)
    replace hl27 := TR.ev hl27 E44 (fun q => q.elim) (fun q => q.elim)
    replace hr28 := TR.ev hr28 E44 (fun q => q.elim) (fun q => q.elim)
    replace hat26 := AT.ev hat26 E44 (fun q => q.elim)
    replace E := E.trans E44 (fun x q => q.elim)
    refine q_val F rfl rfl (by decide) (r_move F rfl) fun a F => ?_
    refine q_val F rfl rfl (by decide) (r_extract F rfl rfl) fun a F => ?_
    refine q_val F rfl rfl (by decide) (r_extract F rfl rfl) fun a F => ?_
    refine q_val F rfl rfl (by decide) (r_assign F rfl) fun a F => ?_
    refine q_val F rfl rfl (by decide) (r_assign F rfl) fun a F => ?_
    refine nil ?_
    refine hK39 _ _ ?_
    replace F : Fr a 86 [(0, .pointer (some ad23)), (7, .pointer p46), (8, .bool t40.2)] := F.sub ⟨rfl, rfl, rfl, trivial⟩
    refine wp_seq_k fun K49 hK49 => ?_
    refine wp_seq_k fun K50 hK50 => ?_
    refine reg ?_
    refine q_val F rfl rfl (by decide) (r_move F rfl) fun a F => ?_
    refine q_val F rfl rfl (by decide) (r_not F rfl) fun a F => ?_
    refine nil ?_
    refine hK50 _ _ ?_
    by_cases hb51 : t40.2 = true
    ·replace H := (if_pos hb51).symm.trans H
     refine wp_cond_false ((F.ev rfl).trans (congrArg Value.bool (congrArg not hb51))) ?_
     refine wp_skip ?_
     refine hK49 _ _ ?_
     refine wp_seq_k fun K53 hK53 => ?_
     refine regD (SB No c42 w43) 16 (.q 0 (.q 1 (.q 2 (.q 3 (.q 4 (.q 5 (.q 6 (.q 7 (.q 8 (.q 9 (.q 10 (.q 11 (.q 12 (.e 13 (.q 14 (.q 15 .nil)))))))))))))))) Try_hm (by decide +kernel) ?_
     intro w54 w1_ w2_ w3_ w4_
     have E55 : Ev No c42 w43 c42 w54 := Ev.same w1_ w2_ w3_ w4_
     replace B := B.same w1_
     have zh3 := h3
     have zh22 := h22
     have zhl27 := hl27
     have zhr28 := hr28
     have zhat26 := hat26
     have zh47 := h47
     have ER : Ev No c42 w43 c42 w54 := Ev.same w1_ w2_ w3_ w4_
     replace h3 := TR.ev h3 E55 (fun q => q.elim) (fun q => q.elim)
     replace h22 := SL.ev h22 E55 (fun q => q.elim) (fun q => q.elim)
     replace hl27 := TR.ev hl27 E55 (fun q => q.elim) (fun q => q.elim)
     replace hr28 := TR.ev hr28 E55 (fun q => q.elim) (fun q => q.elim)
     replace hat26 := AT.ev hat26 E55 (fun q => q.elim)
     replace h47 := TR.ev h47 E55 (fun q => q.elim) (fun q => q.elim)
     replace E := E.trans E55 (fun x q => q.elim)
     refine d_q F rfl rfl rfl (by decide) (fun wq hS => r_move F rfl) ER.sb fun a F => ?_
     refine d_q F rfl rfl rfl (by decide) (fun wq hS => r_move F rfl) ER.sb fun a F => ?_
     refine d_q F rfl rfl rfl (by decide) (fun wq hS => r_nil F rfl) ER.sb fun a F => ?_
     refine d_q F rfl rfl rfl (by decide) (fun wq hS => r_fieldAddr F rfl ff_112_2) ER.sb fun a F => ?_
     refine d_q F rfl rfl rfl (by decide) (fun wq hS => r_load F rfl ag_9 (AT.cell (AT.sb zhat26 hS (fun q => q.elim)) rfl)) ER.sb fun a F => ?_
     refine d_q F rfl rfl rfl (by decide) (fun wq hS => r_move F rfl) ER.sb fun a F => ?_
     refine d_q F rfl rfl rfl (by decide) (fun wq hS => r_nil F rfl) ER.sb fun a F => ?_
     refine d_q F rfl rfl rfl (by decide) (fun wq hS => r_fieldAddr F rfl ff_112_3) ER.sb fun a F => ?_
     refine d_q F rfl rfl rfl (by decide) (fun wq hS => r_loads (cs := [.slice A20 tv15.value.length C21, .int .i64 tv15.rev]) F rfl ag_80 sz_80 (AT.sub (AT.sb zhat26 hS (fun q => q.elim)) 3 2 (Nat.le_of_ble_eq_true rfl))) ER.sb fun a F => ?_
     refine d_q F rfl rfl rfl (by decide) (fun wq hS => r_move F rfl) ER.sb fun a F => ?_
     refine d_q F rfl rfl rfl (by decide) (fun wq hS => r_nil F rfl) ER.sb fun a F => ?_
     refine d_q F rfl rfl rfl (by decide) (fun wq hS => r_fieldAddr F rfl ff_112_1) ER.sb fun a F => ?_
     refine d_q F rfl rfl rfl (by decide) (fun wq hS => r_load F rfl ag_77 (AT.cell (AT.sb zhat26 hS (fun q => q.elim)) rfl)) ER.sb fun a F => ?_
     refine d_e ?_
     replace H := bind_some H
     obtain ⟨t56, q57, H⟩ := H
     refine o_call F rfl (wanted_none rfl) rfl (by decide) (r_call F Try.func87 rfl (by kernel_rfl) rfl) (tree_join.calls k (m := m + 1) (Nat.add_pos_left hm0 _) B h47 h22 hr28 _ q57) ?_
     rintro e w59 ⟨c58, p62, rfl, E60, B61, h63⟩
     refine ⟨_, rfl, fun a F => ?_⟩
     have B := B61
     replace ER := ER.trans E60 (fun x q => q.elim)
     replace h3 := TR.ev h3 E60 (fun q => q.elim) (fun q => q.elim)
     replace h22 := SL.ev h22 E60 (fun q => q.elim) (fun q => q.elim)
     replace hl27 := TR.ev hl27 E60 (fun q => q.elim) (fun q => q.elim)
     replace hr28 := TR.ev hr28 E60 (fun q => q.elim) (fun q => q.elim)
     replace hat26 := AT.ev hat26 E60 (fun q => q.elim)
     replace h47 := TR.ev h47 E60 (fun q => q.elim) (fun q => q.elim)
     replace E := E.trans E60 (fun x q => q.elim)
     refine ⟨fun _ => ER.sb, ?_⟩
     refine d_q F rfl rfl rfl (by decide) (fun wq hS => r_assign F rfl) ER.sb fun a F => ?_
     refine d_q F rfl rfl rfl (by decide) (fun wq hS => r_assign F rfl) ER.sb fun a F => ?_
     refine d_nil ?_
     refine hK53 _ _ ?_
     replace F : Fr a 86 [(4, .pointer p62), (5, .bool true)] := F.sub ⟨rfl, rfl, trivial⟩
     refine wp_ret ?_
     refine inbR ?_
     refine thenR ?_
     replace H := Option.some.inj H
     subst H
     refine out2 F rfl rfl rfl ?_
     exact ⟨fun b_ => (fun x_ => if x_ < m then x_ else 0) (c58 b_), p62, rfl, E.leave B0 (fun x_ => if x_ < m then x_ else 0) (by intro x_ hx_; show (if x_ < m then x_ else 0) = x_; ((repeat' split) <;> omega)), (fun b_ hb_ => by show (if (c58 b_) < m then (c58 b_) else 0) < m; ((repeat' split) <;> omega)), TR.rc h63 (fun k_ hk_ => by show (if (c58 k_) < m then (c58 k_) else 0) = _; rw [hk_]; ((repeat' split) <;> omega)) (fun k_ hk_ => by show (if (c58 k_) < m then (c58 k_) else 0) = _; rw [hk_]; ((repeat' split) <;> omega))⟩
    ·replace H := (if_neg hb51).symm.trans H
     refine wp_cond_true ((F.ev rfl).trans (congrArg Value.bool (congrArg not (bfalse hb51)))) ?_
     refine wp_seq_k fun K52 hK52 => ?_
     refine reg ?_
     refine q_val F rfl rfl (by decide) (r_move F rfl) fun a F => ?_
     refine q_val F rfl rfl (by decide) (r_assign F rfl) fun a F => ?_
     refine q_val F rfl rfl (by decide) (r_assign F rfl) fun a F => ?_
     refine nil ?_
     refine hK52 _ _ ?_
     refine wp_ret ?_
     refine thenR ?_
     refine inbR ?_
     refine thenR ?_
     replace H := Option.some.inj H
     subst H
     refine out2 F rfl rfl rfl ?_
     exact ⟨fun b_ => (fun x_ => if x_ < m then x_ else 0) (c42 b_), (some ad23), rfl, E.leave B0 (fun x_ => if x_ < m then x_ else 0) (by intro x_ hx_; show (if x_ < m then x_ else 0) = x_; ((repeat' split) <;> omega)), (fun b_ hb_ => by show (if (c42 b_) < m then (c42 b_) else 0) < m; ((repeat' split) <;> omega)), TR.rc h3 (fun k_ hk_ => by show (if (c42 k_) < m then (c42 k_) else 0) = _; rw [hk_]; ((repeat' split) <;> omega)) (fun k_ hk_ => by show (if (c42 k_) < m then (c42 k_) else 0) = _; rw [hk_]; ((repeat' split) <;> omega))⟩
   ·replace H := (if_neg hb38).symm.trans H
    refine wp_cond_false ((F.ev rfl).trans (congrArg Value.bool (decide_eq_false hb38))) ?_
    refine wp_seq_k fun K65 hK65 => ?_
    refine reg ?_
    refine q_val F rfl rfl (by decide) (r_move F rfl) fun a F => ?_
    refine q_val F rfl rfl (by decide) (r_gtr F rfl rfl) fun a F => ?_
    refine q_val F rfl rfl (by decide) (r_assign F rfl) fun a F => ?_
    refine nil ?_
    refine hK65 _ _ ?_
    by_cases hb66 : 0 < t30
    ·replace H := (if_pos hb66).symm.trans H
     refine wp_cond_true ((F.ev rfl).trans (congrArg Value.bool (decide_eq_true hb66))) ?_
     refine wp_seq_k fun K67 hK67 => ?_
     refine reg ?_
     refine q_val F rfl rfl (by decide) (r_move F rfl) fun a F => ?_
     refine q_val F rfl rfl (by decide) (r_nil F rfl) fun a F => ?_
     refine q_val F rfl rfl (by decide) (r_fieldAddr F rfl ff_112_1) fun a F => ?_
     refine q_val F rfl rfl (by decide) (r_load F rfl ag_77 (AT.cell hat26 rfl)) fun a F => ?_
     refine q_val F rfl rfl (by decide) (r_move F rfl) fun a F => ?_
     replace H := bind_some H
     obtain ⟨t68, q69, H⟩ := H
     refine q_call F rfl rfl (by decide) (r_call F Try.func64 rfl (by kernel_rfl) rfl) (ih (m := m + 1) (Nat.add_pos_left hm0 _) B hr28 _ q69) ?_
     rintro e w71 ⟨c70, p74, rfl, E72, B73, h75⟩
     refine ⟨_, rfl, fun a F => ?_⟩
     have B := B73
     replace h3 := TR.ev h3 E72 (fun q => q.elim) (fun q => q.elim)
     replace h22 := SL.ev h22 E72 (fun q => q.elim) (fun q => q.elim)
     replace hl27 := TR.ev hl27 E72 (fun q => q.elim) (fun q => q.elim)
     replace hr28 := TR.ev hr28 E72 (fun q => q.elim) (fun q => q.elim)
     replace hat26 := AT.ev hat26 E72 (fun q => q.elim)
     replace E := E.trans E72 (fun x q => q.elim)
     refine q_val F rfl rfl (by decide) (r_move F rfl) fun a F => ?_
     refine q_val F rfl rfl (by decide) (r_extract F rfl rfl) fun a F => ?_
     refine q_val F rfl rfl (by decide) (r_extract F rfl rfl) fun a F => ?_
     refine q_val F rfl rfl (by decide) (r_assign F rfl) fun a F => ?_
     refine q_val F rfl rfl (by decide) (r_assign F rfl) fun a F => ?_
     refine nil ?_
     refine hK67 _ _ ?_
     replace F : Fr a 86 [(0, .pointer (some ad23)), (9, .pointer p74), (10, .bool t68.2)] := F.sub ⟨rfl, rfl, rfl, trivial⟩
     refine wp_seq_k fun K77 hK77 => ?_
     refine wp_seq_k fun K78 hK78 => ?_
     refine reg ?_
     refine q_val F rfl rfl (by decide) (r_move F rfl) fun a F => ?_
     refine q_val F rfl rfl (by decide) (r_not F rfl) fun a F => ?_
     refine nil ?_
     refine hK78 _ _ ?_
     by_cases hb79 : t68.2 = true
     ·replace H := (if_pos hb79).symm.trans H
      refine wp_cond_false ((F.ev rfl).trans (congrArg Value.bool (congrArg not hb79))) ?_
      refine wp_skip ?_
      refine hK77 _ _ ?_
      refine wp_seq_k fun K81 hK81 => ?_
      refine regD (SB No c70 w71) 16 (.q 0 (.q 1 (.q 2 (.q 3 (.q 4 (.q 5 (.q 6 (.q 7 (.q 8 (.q 9 (.q 10 (.q 11 (.q 12 (.e 13 (.q 14 (.q 15 .nil)))))))))))))))) Try_hm (by decide +kernel) ?_
      intro w82 w1_ w2_ w3_ w4_
      have E83 : Ev No c70 w71 c70 w82 := Ev.same w1_ w2_ w3_ w4_
      replace B := B.same w1_
      have zh3 := h3
      have zh22 := h22
      have zhl27 := hl27
      have zhr28 := hr28
      have zhat26 := hat26
      have zh75 := h75
      have ER : Ev No c70 w71 c70 w82 := Ev.same w1_ w2_ w3_ w4_
      replace h3 := TR.ev h3 E83 (fun q => q.elim) (fun q => q.elim)
      replace h22 := SL.ev h22 E83 (fun q => q.elim) (fun q => q.elim)
      replace hl27 := TR.ev hl27 E83 (fun q => q.elim) (fun q => q.elim)
      replace hr28 := TR.ev hr28 E83 (fun q => q.elim) (fun q => q.elim)
      replace hat26 := AT.ev hat26 E83 (fun q => q.elim)
      replace h75 := TR.ev h75 E83 (fun q => q.elim) (fun q => q.elim)
      replace E := E.trans E83 (fun x q => q.elim)
      refine d_q F rfl rfl rfl (by decide) (fun wq hS => r_move F rfl) ER.sb fun a F => ?_
      refine d_q F rfl rfl rfl (by decide) (fun wq hS => r_nil F rfl) ER.sb fun a F => ?_
      refine d_q F rfl rfl rfl (by decide) (fun wq hS => r_fieldAddr F rfl ff_112_0) ER.sb fun a F => ?_
      refine d_q F rfl rfl rfl (by decide) (fun wq hS => r_load F rfl ag_77 (AT.cell (AT.sb zhat26 hS (fun q => q.elim)) rfl)) ER.sb fun a F => ?_
      refine d_q F rfl rfl rfl (by decide) (fun wq hS => r_move F rfl) ER.sb fun a F => ?_
      refine d_q F rfl rfl rfl (by decide) (fun wq hS => r_nil F rfl) ER.sb fun a F => ?_
      refine d_q F rfl rfl rfl (by decide) (fun wq hS => r_fieldAddr F rfl ff_112_2) ER.sb fun a F => ?_
      refine d_q F rfl rfl rfl (by decide) (fun wq hS => r_load F rfl ag_9 (AT.cell (AT.sb zhat26 hS (fun q => q.elim)) rfl)) ER.sb fun a F => ?_
      refine d_q F rfl rfl rfl (by decide) (fun wq hS => r_move F rfl) ER.sb fun a F => ?_
      refine d_q F rfl rfl rfl (by decide) (fun wq hS => r_nil F rfl) ER.sb fun a F => ?_
      refine d_q F rfl rfl rfl (by decide) (fun wq hS => r_fieldAddr F rfl ff_112_3) ER.sb fun a F => ?_
      refine d_q F rfl rfl rfl (by decide) (fun wq hS => r_loads (cs := [.slice A20 tv15.value.length C21, .int .i64 tv15.rev]) F rfl ag_80 sz_80 (AT.sub (AT.sb zhat26 hS (fun q => q.elim)) 3 2 (Nat.le_of_ble_eq_true rfl))) ER.sb fun a F => ?_
      refine d_q F rfl rfl rfl (by decide) (fun wq hS => r_move F rfl) ER.sb fun a F => ?_
      refine d_e ?_
      replace H := bind_some H
      obtain ⟨t84, q85, H⟩ := H
      refine o_call F rfl (wanted_none rfl) rfl (by decide) (r_call F Try.func87 rfl (by kernel_rfl) rfl) (tree_join.calls k (m := m + 1) (Nat.add_pos_left hm0 _) B hl27 h22 h75 _ q85) ?_
      rintro e w87 ⟨c86, p90, rfl, E88, B89, h91⟩
      refine ⟨_, rfl, fun a F => ?_⟩
      have B := B89
      replace ER := ER.trans E88 (fun x q => q.elim)
      replace h3 := TR.ev h3 E88 (fun q => q.elim) (fun q => q.elim)
      replace h22 := SL.ev h22 E88 (fun q => q.elim) (fun q => q.elim)
      replace hl27 := TR.ev hl27 E88 (fun q => q.elim) (fun q => q.elim)
      replace hr28 := TR.ev hr28 E88 (fun q => q.elim) (fun q => q.elim)
      replace hat26 := AT.ev hat26 E88 (fun q => q.elim)
      replace h75 := TR.ev h75 E88 (fun q => q.elim) (fun q => q.elim)
      replace E := E.trans E88 (fun x q => q.elim)
      refine ⟨fun _ => ER.sb, ?_⟩
      refine d_q F rfl rfl rfl (by decide) (fun wq hS => r_assign F rfl) ER.sb fun a F => ?_
      refine d_q F rfl rfl rfl (by decide) (fun wq hS => r_assign F rfl) ER.sb fun a F => ?_
      refine d_nil ?_
      refine hK81 _ _ ?_
      replace F : Fr a 86 [(4, .pointer p90), (5, .bool true)] := F.sub ⟨rfl, rfl, trivial⟩
      refine wp_ret ?_
      refine inbR ?_
      refine thenR ?_
      replace H := Option.some.inj H
      subst H
      refine out2 F rfl rfl rfl ?_
      exact ⟨fun b_ => (fun x_ => if x_ < m then x_ else 0) (c86 b_), p90, rfl, E.leave B0 (fun x_ => if x_ < m then x_ else 0) (by intro x_ hx_; show (if x_ < m then x_ else 0) = x_; ((repeat' split) <;> omega)), (fun b_ hb_ => by show (if (c86 b_) < m then (c86 b_) else 0) < m; ((repeat' split) <;> omega)), TR.rc h91 (fun k_ hk_ => by show (if (c86 k_) < m then (c86 k_) else 0) = _; rw [hk_]; ((repeat' split) <;> omega)) (fun k_ hk_ => by show (if (c86 k_) < m then (c86 k_) else 0) = _; rw [hk_]; ((repeat' split) <;> omega))⟩
     ·replace H := (if_neg hb79).symm.trans H
      refine wp_cond_true ((F.ev rfl).trans (congrArg Value.bool (congrArg not (bfalse hb79)))) ?_
      refine wp_seq_k fun K80 hK80 => ?_
      refine reg ?_
      refine q_val F rfl rfl (by decide) (r_move F rfl) fun a F => ?_
      refine q_val F rfl rfl (by decide) (r_assign F rfl) fun a F => ?_
      refine q_val F rfl rfl (by decide) (r_assign F rfl) fun a F => ?_
      refine nil ?_
      refine hK80 _ _ ?_
      refine wp_ret ?_
      refine thenR ?_
      refine inbR ?_
      refine thenR ?_
      replace H := Option.some.inj H
      subst H
      refine out2 F rfl rfl rfl ?_
      exact ⟨fun b_ => (fun x_ => if x_ < m then x_ else 0) (c70 b_), (some ad23), rfl, E.leave B0 (fun x_ => if x_ < m then x_ else 0) (by intro x_ hx_; show (if x_ < m then x_ else 0) = x_; ((repeat' split) <;> omega)), (fun b_ hb_ => by show (if (c70 b_) < m then (c70 b_) else 0) < m; ((repeat' split) <;> omega)), TR.rc h3 (fun k_ hk_ => by show (if (c70 k_) < m then (c70 k_) else 0) = _; rw [hk_]; ((repeat' split) <;> omega)) (fun k_ hk_ => by show (if (c70 k_) < m then (c70 k_) else 0) = _; rw [hk_]; ((repeat' split) <;> omega))⟩
    ·replace H := (if_neg hb66).symm.trans H
     refine wp_cond_false ((F.ev rfl).trans (congrArg Value.bool (decide_eq_false hb66))) ?_
     refine wp_skip ?_
     refine hK10 _ _ ?_
     replace F : Fr a 86 [(0, .pointer (some ad23))] := F.sub ⟨rfl, trivial⟩
     refine wp_seq_k fun K93 hK93 => ?_
     refine regD (SB No c32 w33) 11 (.q 0 (.q 1 (.q 2 (.q 3 (.q 4 (.q 5 (.q 6 (.q 7 (.e 8 (.q 9 (.q 10 .nil))))))))))) Try_hm (by decide +kernel) ?_
     intro w94 w1_ w2_ w3_ w4_
     have E95 : Ev No c32 w33 c32 w94 := Ev.same w1_ w2_ w3_ w4_
     replace B := B.same w1_
     have zh3 := h3
     have zh22 := h22
     have zhl27 := hl27
     have zhr28 := hr28
     have zhat26 := hat26
     have ER : Ev No c32 w33 c32 w94 := Ev.same w1_ w2_ w3_ w4_
     replace h3 := TR.ev h3 E95 (fun q => q.elim) (fun q => q.elim)
     replace h22 := SL.ev h22 E95 (fun q => q.elim) (fun q => q.elim)
     replace hl27 := TR.ev hl27 E95 (fun q => q.elim) (fun q => q.elim)
     replace hr28 := TR.ev hr28 E95 (fun q => q.elim) (fun q => q.elim)
     replace hat26 := AT.ev hat26 E95 (fun q => q.elim)
     replace E := E.trans E95 (fun x q => q.elim)
     refine d_q F rfl rfl rfl (by decide) (fun wq hS => r_move F rfl) ER.sb fun a F => ?_
     refine d_q F rfl rfl rfl (by decide) (fun wq hS => r_nil F rfl) ER.sb fun a F => ?_
     refine d_q F rfl rfl rfl (by decide) (fun wq hS => r_fieldAddr F rfl ff_112_0) ER.sb fun a F => ?_
     refine d_q F rfl rfl rfl (by decide) (fun wq hS => r_load F rfl ag_77 (AT.cell (AT.sb zhat26 hS (fun q => q.elim)) rfl)) ER.sb fun a F => ?_
     refine d_q F rfl rfl rfl (by decide) (fun wq hS => r_move F rfl) ER.sb fun a F => ?_
     refine d_q F rfl rfl rfl (by decide) (fun wq hS => r_nil F rfl) ER.sb fun a F => ?_
     refine d_q F rfl rfl rfl (by decide) (fun wq hS => r_fieldAddr F rfl ff_112_1) ER.sb fun a F => ?_
     refine d_q F rfl rfl rfl (by decide) (fun wq hS => r_load F rfl ag_77 (AT.cell (AT.sb zhat26 hS (fun q => q.elim)) rfl)) ER.sb fun a F => ?_
     refine d_e ?_
     replace H := bind_some H
     obtain ⟨t96, q97, H⟩ := H
     refine o_call F rfl (wanted_none rfl) rfl (by decide) (r_call F Try.func88 rfl (by kernel_rfl) rfl) (tree_both.calls k (m := m + 1) (Nat.add_pos_left hm0 _) B hl27 hr28 _ q97) ?_
     rintro e w99 ⟨c98, p102, rfl, E100, B101, h103⟩
     refine ⟨_, rfl, fun a F => ?_⟩
     have B := B101
     replace ER := ER.trans E100 (fun x q => q.elim)
     replace h3 := TR.ev h3 E100 (fun q => q.elim) (fun q => q.elim)
     replace h22 := SL.ev h22 E100 (fun q => q.elim) (fun q => q.elim)
     replace hl27 := TR.ev hl27 E100 (fun q => q.elim) (fun q => q.elim)
     replace hr28 := TR.ev hr28 E100 (fun q => q.elim) (fun q => q.elim)
     replace hat26 := AT.ev hat26 E100 (fun q => q.elim)
     replace E := E.trans E100 (fun x q => q.elim)
     refine ⟨fun _ => ER.sb, ?_⟩
     refine d_q F rfl rfl rfl (by decide) (fun wq hS => r_assign F rfl) ER.sb fun a F => ?_
     refine d_q F rfl rfl rfl (by decide) (fun wq hS => r_assign F rfl) ER.sb fun a F => ?_
     refine d_nil ?_
     refine hK93 _ _ ?_
     replace F : Fr a 86 [(4, .pointer p102), (5, .bool true)] := F.sub ⟨rfl, rfl, trivial⟩
     refine wp_ret ?_
     replace H := Option.some.inj H
     subst H
     refine out2 F rfl rfl rfl ?_
     exact ⟨fun b_ => (fun x_ => if x_ < m then x_ else 0) (c98 b_), p102, rfl, E.leave B0 (fun x_ => if x_ < m then x_ else 0) (by intro x_ hx_; show (if x_ < m then x_ else 0) = x_; ((repeat' split) <;> omega)), (fun b_ hb_ => by show (if (c98 b_) < m then (c98 b_) else 0) < m; ((repeat' split) <;> omega)), TR.rc h103 (fun k_ hk_ => by show (if (c98 k_) < m then (c98 k_) else 0) = _; rw [hk_]; ((repeat' split) <;> omega)) (fun k_ hk_ => by show (if (c98 k_) < m then (c98 k_) else 0) = _; rw [hk_]; ((repeat' split) <;> omega))⟩
end Go.Proofs.Ythankpjbfpcldaa.G
namespace Go.Proofs.Ythankpjbfpcldaa.G
open Go Go.RowKit
set_option linter.unusedVariables false
set_option linter.unusedSimpArgs false
set_option maxRecDepth 100000 in
set_option maxHeartbeats 4000000 in
theorem tree_Tree_Get.calls (k : Nat) {m : Nat} {c0 : Nat → Nat} {w0 : World} {p2 : Option Addr} {a1 : Tr} {a4 : ByteArray} (hm0 : 0 < m) (B0 : CB m c0 w0) (h3 : TR 0 c0 w0 p2 a1) (r : table_cell × Bool) (H : tree_Tree_Get.f k a1 a4 = some r) : Calls Try.prog 40 #[.pointer p2, .string a4] w0 (fun e w_ => ∃ (c_ : Nat → Nat) (A0_ : Option Addr) (C0_ : Nat), e = .returned (.tuple #[.agg #[.slice A0_ r.1.value.length C0_, .int .i64 r.1.rev], .bool r.2]) ∧ Ev (fun x => False) c0 w0 c_ w_ ∧ CB m c_ w_ ∧ SL false (Kint .u8) 0 0 c_ w_ A0_ C0_ r.1.value) := by
 unfold tree_Tree_Get.f at H
 have B := B0.mono (show m ≤ m + 2 by omega)
 have E : Ev (fun x => False ∨ m ≤ x) c0 w0 c0 w0 := Ev.refl
 refine enter (N := 34) (l := [.pointer p2, .string a4]) Try.func40 rfl rfl (Nat.le_of_ble_eq_true rfl) fun a F => ?_
 refine wp_seq_k fun K5 hK5 => ?_
 refine reg ?_
 refine q_eff F rfl rfl (by decide) (e_alloc F zv_80 c0 (m + 1)) ?_
 rintro v w7 a ⟨c6, qa8, rfl, E9, h10, B11⟩ F
 replace B := B11 _ B (Nat.add_lt_add_left (by decide) m)
 replace h3 := TR.ev h3 E9 (fun q => q.elim) (fun q => q.elim)
 replace E := E.trans E9 (fun x q => q.elim)
 replace h10 : AT true (m + 1) c6 w7 qa8 [.slice none 0 0, .int .i64 0] := h10
 refine q_val F rfl rfl (by decide) (r_assign F rfl) fun a F => ?_
 refine nil ?_
 refine hK5 _ _ ?_
 refine wp_seq_k fun K13 hK13 => ?_
 refine wp_block ?_
 obtain ⟨x26, HL, HR25⟩ := bind_some H
 have J67 : ∀ (c68 : Nat → Nat) (w69 : World) (a : Act), Fr a 34 [(4, .pointer (some qa8))] → Ev (fun x => False ∨ m ≤ x) c0 w0 c68 w69 → CB (m + 2) c68 w69 → AT true (m + 1) c68 w69 qa8 [.slice none 0 0, .int .i64 0] → tree_Tree_Get.j2 = some r → K13 a w69 := by
  intro c68 w69 a  F E B h10 H
  unfold tree_Tree_Get.j2 at H
  refine hK13 _ _ ?_
  refine wp_seq_k fun K70 hK70 => ?_
  refine reg ?_
  refine q_val F rfl rfl (by decide) (r_loads (cs := [.slice none 0 0, .int .i64 0]) F rfl ag_80 sz_80 h10) fun a F => ?_
  refine q_eff0 F rfl rfl (e_storeN0 (us := [.slice none 0 0, .int .i64 0]) F rfl rfl sz_80 h10 (Nat.le_of_ble_eq_true rfl) (one_all rfl)) ?_
  rintro w71 a ⟨E72, h10, Z73⟩ F
  replace B := B.size Z73
  replace E := E.trans E72 (fun x (q : x = m + 1) => Or.inr (le_col q))
  replace h10 : AT true (m + 1) c68 w71 qa8 [.slice none 0 0, .int .i64 0] := h10
  refine q_val F rfl rfl (by decide) (r_assign F rfl) fun a F => ?_
  refine nil ?_
  refine hK70 _ _ ?_
  refine wp_ret ?_
  replace H := Option.some.inj H
  subst H
  refine outR2 F rfl ⟨_, rfl, lv_agg (cs := [.slice none 0 0, .int .i64 0]) ag_80 sz_80 h10⟩ rfl ?_
  exact ⟨fun b_ => (fun x_ => if x_ < m then x_ else 0) (c68 b_), none, 0, rfl, E.leave B0 (fun x_ => if x_ < m then x_ else 0) (by intro x_ hx_; show (if x_ < m then x_ else 0) = x_; ((repeat' split) <;> omega)), (fun b_ hb_ => by show (if (c68 b_) < m then (c68 b_) else 0) < m; ((repeat' split) <;> omega)), SL.nil⟩
 refine loop_fuel (I := fun n a w => ∃ (o14 : Tr) (p15 : Option Addr) (c : Nat → Nat), Fr a 34 [(0, .pointer p15), (1, .string a4), (4, .pointer (some qa8))] ∧ Ev (fun x => False ∨ m ≤ x) c0 w0 c w ∧ CB (m + 2) c w ∧ AT true (m + 1) c w qa8 [.slice none 0 0, .int .i64 0] ∧ TR 0 c w p15 o14 ∧ loop (fun (s_ : Tr) => tree_Tree_Get.b1 a4 s_) n o14 = some x26) (k := k) ⟨a1, p2, c6, F.sub ⟨rfl, rfl, rfl, trivial⟩, E, B, h10, h3, HL⟩ ?_
 clear HL H E F B
 intro n23 X19 hX19 a w18 ⟨o14, p15, c17, F, E, B, h10, h16, HL⟩
 obtain ⟨n24, ctl22, rfl, HB, HN20, HD21⟩ := loop_some HL
 have H : tree_Tree_Get.b1 a4 o14 = some ctl22 := HB
 clear HB HL
 unfold tree_Tree_Get.b1 at H
 refine wp_seq_k fun K27 hK27 => ?_
 refine wp_seq_k fun K28 hK28 => ?_
 refine reg ?_
 refine q_val F rfl rfl (by decide) (r_move F rfl) fun a F => ?_
 refine q_val F rfl rfl (by decide) (r_pneqA F Try.underlying77 rfl rfl (TR.isNil h16)) fun a F => ?_
 refine nil ?_
 refine hK28 _ _ ?_
 by_cases hb29 : (Tr.isNil o14) = true
 ·replace H := (if_pos hb29).symm.trans H
  refine wp_cond_false ((F.ev rfl).trans (congrArg Value.bool (congrArg not hb29))) ?_
  refine wp_exit ?_
  refine thenE ?_
  refine thenE ?_
  refine inbE ?_
  have hx_ := HD21 _ (Option.some.inj H).symm
  have H := HR25
  rw [← hx_] at H
  exact J67 c17 w18 a  (F.sub ⟨rfl, trivial⟩) E B h10 H
 ·replace H := (if_neg hb29).symm.trans H
  refine wp_cond_true ((F.ev rfl).trans (congrArg Value.bool (congrArg not (bfalse hb29)))) ?_
  refine wp_skip ?_
  refine hK27 _ _ ?_
  refine wp_block ?_
  refine wp_seq_k fun K30 hK30 => ?_
  refine reg ?_
  refine q_val F rfl rfl (by decide) (r_move F rfl) fun a F => ?_
  refine q_val F rfl rfl (by decide) (r_move F rfl) fun a F => ?_
  replace H := cs_some H
  obtain ⟨tl31, tr32, tk33, tv34, ts35, td36, e37, H⟩ := H
  have z38 := h16
  rw [e37] at z38
  obtain ⟨ad42, lp43, rp44, A39, C40, rfl, hat45, h41, hl46, hr47⟩ := TR.node z38
  refine q_val F rfl rfl (by decide) (r_nil F rfl) fun a F => ?_
  refine q_val F rfl rfl (by decide) (r_fieldAddr F rfl ff_112_2) fun a F => ?_
  refine q_val F rfl rfl (by decide) (r_load F rfl ag_9 (AT.cell hat45 rfl)) fun a F => ?_
  replace H := bind_some H
  obtain ⟨t49, q50, H⟩ := H
  refine q_call F rfl rfl (by decide) (r_call F Try.func62 rfl (by kernel_rfl) rfl) (cmp_Compare.calls (m := m + 2) (Nat.add_pos_left hm0 _) B _ q50) ?_
  rintro e w52 ⟨c51, rfl, E53, B54⟩
  refine ⟨_, rfl, fun a F => ?_⟩
  have B := B54
  replace h10 := AT.ev h10 E53 (fun q => q.elim)
  replace h16 := TR.ev h16 E53 (fun q => q.elim) (fun q => q.elim)
  replace h41 := SL.ev h41 E53 (fun q => q.elim) (fun q => q.elim)
  replace hl46 := TR.ev hl46 E53 (fun q => q.elim) (fun q => q.elim)
  replace hr47 := TR.ev hr47 E53 (fun q => q.elim) (fun q => q.elim)
  replace hat45 := AT.ev hat45 E53 (fun q => q.elim)
  replace E := E.trans E53 (fun x q => q.elim)
  refine q_val F rfl rfl (by decide) (r_assign F rfl) fun a F => ?_
  refine nil ?_
  refine hK30 _ _ ?_
  replace F : Fr a 34 [(0, .pointer (some ad42)), (1, .string a4), (4, .pointer (some qa8)), (6, .int .i64 t49)] := F.sub ⟨rfl, rfl, rfl, rfl, trivial⟩
  refine wp_block ?_
  refine wp_seq_k fun K56 hK56 => ?_
  refine reg ?_
  refine q_val F rfl rfl (by decide) (r_move F rfl) fun a F => ?_
  refine q_val F rfl rfl (by decide) (r_eql F rfl rfl) fun a F => ?_
  refine q_val F rfl rfl (by decide) (r_assign F rfl) fun a F => ?_
  refine nil ?_
  refine hK56 _ _ ?_
  by_cases hb57 : t49 = 0
  ·replace H := (if_pos hb57).symm.trans H
   refine wp_cond_true ((F.ev rfl).trans (congrArg Value.bool (decide_eq_true hb57))) ?_
   refine wp_seq_k fun K58 hK58 => ?_
   refine reg ?_
   refine q_val F rfl rfl (by decide) (r_move F rfl) fun a F => ?_
   refine q_val F rfl rfl (by decide) (r_nil F rfl) fun a F => ?_
   refine q_val F rfl rfl (by decide) (r_fieldAddr F rfl ff_112_3) fun a F => ?_
   refine q_val F rfl rfl (by decide) (r_loads (cs := [.slice A39 tv34.value.length C40, .int .i64 tv34.rev]) F rfl ag_80 sz_80 (AT.sub hat45 3 2 (Nat.le_of_ble_eq_true rfl))) fun a F => ?_
   refine q_eff0 F rfl rfl (e_storeN0 (us := [.slice A39 tv34.value.length C40, .int .i64 tv34.rev]) F rfl rfl sz_80 h10 (Nat.le_of_ble_eq_true rfl) (one_all rfl)) ?_
   rintro w59 a ⟨E60, h10, Z61⟩ F
   replace B := B.size Z61
   replace h16 := TR.ev h16 E60 ne_zm ne_zm
   replace h41 := SL.ev h41 E60 ne_zm ne_zm
   replace hl46 := TR.ev hl46 E60 ne_zm ne_zm
   replace hr47 := TR.ev hr47 E60 ne_zm ne_zm
   replace hat45 := AT.ev hat45 E60 ne_zm
   replace E := E.trans E60 (fun x (q : x = m + 1) => Or.inr (le_col q))
   replace h10 : AT true (m + 1) c51 w59 qa8 [.slice A39 tv34.value.length C40, .int .i64 tv34.rev] := h10
   refine q_val F rfl rfl (by decide) (r_assign F rfl) fun a F => ?_
   refine nil ?_
   refine hK58 _ _ ?_
   replace F : Fr a 34 [(4, .pointer (some qa8)), (5, .bool true)] := F.sub ⟨rfl, rfl, trivial⟩
   refine wp_ret ?_
   refine inbR ?_
   refine inbR ?_
   refine thenR ?_
   refine inbR ?_
   refine thenR ?_
   have hx_ := HD21 _ (Option.some.inj H).symm
   have H := HR25
   rw [← hx_] at H
   replace H : some (tv34, true) = some r := H
   replace H := Option.some.inj H
   subst H
   refine outR2 F rfl ⟨_, rfl, lv_agg (cs := [.slice A39 tv34.value.length C40, .int .i64 tv34.rev]) ag_80 sz_80 h10⟩ rfl ?_
   exact ⟨fun b_ => (fun x_ => if x_ < m then x_ else 0) (c51 b_), A39, C40, rfl, E.leave B0 (fun x_ => if x_ < m then x_ else 0) (by intro x_ hx_; show (if x_ < m then x_ else 0) = x_; ((repeat' split) <;> omega)), (fun b_ hb_ => by show (if (c51 b_) < m then (c51 b_) else 0) < m; ((repeat' split) <;> omega)), SL.rc h41 (fun k_ hk_ => by show (if (c51 k_) < m then (c51 k_) else 0) = _; rw [hk_]; ((repeat' split) <;> omega)) (fun k_ hk_ => by show (if (c51 k_) < m then (c51 k_) else 0) = _; rw [hk_]; ((repeat' split) <;> omega))⟩
  ·replace H := (if_neg hb57).symm.trans H
   refine wp_cond_false ((F.ev rfl).trans (congrArg Value.bool (decide_eq_false hb57))) ?_
   refine wp_seq_k fun K62 hK62 => ?_
   refine reg ?_
   refine q_val F rfl rfl (by decide) (r_move F rfl) fun a F => ?_
   refine q_val F rfl rfl (by decide) (r_lss F rfl rfl) fun a F => ?_
   refine q_val F rfl rfl (by decide) (r_assign F rfl) fun a F => ?_
   refine nil ?_
   refine hK62 _ _ ?_
   by_cases hb63 : t49 < 0
   ·replace H := (if_pos hb63).symm.trans H
    refine wp_cond_true ((F.ev rfl).trans (congrArg Value.bool (decide_eq_true hb63))) ?_
    refine reg ?_
    refine q_val F rfl rfl (by decide) (r_move F rfl) fun a F => ?_
    refine q_val F rfl rfl (by decide) (r_nil F rfl) fun a F => ?_
    refine q_val F rfl rfl (by decide) (r_fieldAddr F rfl ff_112_0) fun a F => ?_
    refine q_val F rfl rfl (by decide) (r_load F rfl ag_77 (AT.cell hat45 rfl)) fun a F => ?_
    refine q_val F rfl rfl (by decide) (r_assign F rfl) fun a F => ?_
    refine nil ?_
    replace H := HN20 _ (Option.some.inj H).symm
    exact hX19 _ _ _ (Nat.lt_succ_self _) ⟨tl31, lp43, c51, F.sub ⟨rfl, rfl, rfl, trivial⟩, E, B, h10, hl46, H⟩
   ·replace H := (if_neg hb63).symm.trans H
    refine wp_cond_false ((F.ev rfl).trans (congrArg Value.bool (decide_eq_false hb63))) ?_
    refine reg ?_
    refine q_val F rfl rfl (by decide) (r_move F rfl) fun a F => ?_
    refine q_val F rfl rfl (by decide) (r_nil F rfl) fun a F => ?_
    refine q_val F rfl rfl (by decide) (r_fieldAddr F rfl ff_112_1) fun a F => ?_
    refine q_val F rfl rfl (by decide) (r_load F rfl ag_77 (AT.cell hat45 rfl)) fun a F => ?_
    refine q_val F rfl rfl (by decide) (r_assign F rfl) fun a F => ?_
    refine nil ?_
    replace H := HN20 _ (Option.some.inj H).symm
    exact hX19 _ _ _ (Nat.lt_succ_self _) ⟨tr32, rp44, c51, F.sub ⟨rfl, rfl, rfl, trivial⟩, E, B, h10, hr47, H⟩
end Go.Proofs.Ythankpjbfpcldaa.G
namespace Go.Proofs.Ythankpjbfpcldaa.G
open Go Go.RowKit
set_option linter.unusedVariables false
set_option linter.unusedSimpArgs false
set_option maxRecDepth 100000 in
set_option maxHeartbeats 4000000 in
theorem tree_Tree_Put.calls (k : Nat) : ∀ {m : Nat} {c0 : Nat → Nat} {w0 : World} {p2 : Option Addr} {A6 : Option Addr} {C7 : Nat} {a1 : Tr} {a4 : ByteArray} {a5 : table_cell} (hm0 : 0 < m) (B0 : CB m c0 w0) (h3 : TR 0 c0 w0 p2 a1) (h8 : SL false (Kint .u8) 0 0 c0 w0 A6 C7 a5.value) (r : Tr) (H : tree_Tree_Put.f k a1 a4 a5 = some r), Calls Try.prog 65 #[.pointer p2, .string a4, .agg #[.slice A6 a5.value.length C7, .int .i64 a5.rev]] w0 (fun e w_ => ∃ (c_ : Nat → Nat) (P0_ : Option Addr), e = .returned (.pointer P0_) ∧ Ev (fun x => False) c0 w0 c_ w_ ∧ CB m c_ w_ ∧ TR 0 c_ w_ P0_ r) := by
 induction k with
 | zero => intro m c0 w0 p2 A6 C7 a1 a4 a5 hm0 B0 h3 h8 r H; exact absurd H (by simp [tree_Tree_Put.f])
 | succ k ih =>
  intro m c0 w0 p2 A6 C7 a1 a4 a5 hm0 B0 h3 h8 r H
  unfold tree_Tree_Put.f at H
  have B := B0.mono (show m ≤ m + 2 by omega)
  have E : Ev (fun x => False ∨ m ≤ x) c0 w0 c0 w0 := Ev.refl
  refine enter (N := 76) (l := [.pointer p2, .string a4, .agg #[.slice A6 a5.value.length C7, .int .i64 a5.rev]]) Try.func65 rfl rfl (Nat.le_of_ble_eq_true rfl) fun a F => ?_
  refine wp_seq_k fun K9 hK9 => ?_
  refine reg ?_
  refine q_eff F rfl rfl (by decide) (e_box F (v := .agg #[.slice A6 a5.value.length C7, .int .i64 a5.rev]) rfl c0 (m + 1)) ?_
  rintro v w11 a ⟨c10, qa12, rfl, E13, h14, B15⟩ F
  replace B := B15 _ B (Nat.add_lt_add_left (by decide) m)
  replace h3 := TR.ev h3 E13 (fun q => q.elim) (fun q => q.elim)
  replace h8 := SL.ev h8 E13 (fun q => q.elim) (fun q => q.elim)
  replace E := E.trans E13 (fun x q => q.elim)
  replace h14 : AT true (m + 1) c10 w11 qa12 [.slice A6 a5.value.length C7, .int .i64 a5.rev] := h14
  refine q_val F rfl rfl (by decide) (r_assign F rfl) fun a F => ?_
  refine nil ?_
  refine hK9 _ _ ?_
  refine wp_seq_k fun K17 hK17 => ?_
  refine wp_seq_k fun K18 hK18 => ?_
  refine reg ?_
  refine q_val F rfl rfl (by decide) (r_move F rfl) fun a F => ?_
  refine q_val F rfl rfl (by decide) (r_peqlA F Try.underlying77 rfl rfl (TR.isNil h3)) fun a F => ?_
  refine nil ?_
  refine hK18 _ _ ?_
  by_cases hb19 : (Tr.isNil a1) = true
  ·replace H := (if_pos hb19).symm.trans H
   refine wp_cond_true ((F.ev rfl).trans (congrArg Value.bool hb19)) ?_
   refine wp_seq_k fun K20 hK20 => ?_
   refine reg ?_
   refine q_val F rfl rfl (by decide) (r_move F rfl) fun a F => ?_
   refine q_val F rfl rfl (by decide) (r_loads (cs := [.slice A6 a5.value.length C7, .int .i64 a5.rev]) F rfl ag_80 sz_80 h14) fun a F => ?_
   replace H := bind_some H
   obtain ⟨t21, q22, H⟩ := H
   refine q_call F rfl rfl (by decide) (r_call F Try.func89 rfl (by kernel_rfl) rfl) (tree_node.calls (m := m + 2) (Nat.add_pos_left hm0 _) B TR.nil h8 TR.nil _ q22) ?_
   rintro e w24 ⟨c23, p27, rfl, E25, B26, h28⟩
   refine ⟨_, rfl, fun a F => ?_⟩
   have B := B26
   replace h3 := TR.ev h3 E25 (fun q => q.elim) (fun q => q.elim)
   replace h8 := SL.ev h8 E25 (fun q => q.elim) (fun q => q.elim)
   replace h14 := AT.ev h14 E25 (fun q => q.elim)
   replace E := E.trans E25 (fun x q => q.elim)
   refine q_val F rfl rfl (by decide) (r_assign F rfl) fun a F => ?_
   refine nil ?_
   refine hK20 _ _ ?_
   replace F : Fr a 76 [(6, .pointer p27)] := F.sub ⟨rfl, trivial⟩
   refine wp_ret ?_
   refine thenR ?_
   replace H := Option.some.inj H
   subst H
   refine out1 F rfl rfl ?_
   exact ⟨fun b_ => (fun x_ => if x_ < m then x_ else 0) (c23 b_), p27, rfl, E.leave B0 (fun x_ => if x_ < m then x_ else 0) (by intro x_ hx_; show (if x_ < m then x_ else 0) = x_; ((repeat' split) <;> omega)), (fun b_ hb_ => by show (if (c23 b_) < m then (c23 b_) else 0) < m; ((repeat' split) <;> omega)), TR.rc h28 (fun k_ hk_ => by show (if (c23 k_) < m then (c23 k_) else 0) = _; rw [hk_]; ((repeat' split) <;> omega)) (fun k_ hk_ => by show (if (c23 k_) < m then (c23 k_) else 0) = _; rw [hk_]; ((repeat' split) <;> omega))⟩
  ·replace H := (if_neg hb19).symm.trans H
   refine wp_cond_false ((F.ev rfl).trans (congrArg Value.bool (bfalse hb19))) ?_
   refine wp_skip ?_
   refine hK17 _ _ ?_
   refine wp_seq_k fun K30 hK30 => ?_
   refine wp_seq_k fun K31 hK31 => ?_
   refine reg ?_
   refine q_val F rfl rfl (by decide) (r_move F rfl) fun a F => ?_
   refine q_val F rfl rfl (by decide) (r_move F rfl) fun a F => ?_
   replace H := cs_some H
   obtain ⟨tl32, tr33, tk34, tv35, ts36, td37, e38, H⟩ := H
   have z39 := h3
   rw [e38] at z39
   obtain ⟨ad43, lp44, rp45, A40, C41, rfl, hat46, h42, hl47, hr48⟩ := TR.node z39
   refine q_val F rfl rfl (by decide) (r_nil F rfl) fun a F => ?_
   refine q_val F rfl rfl (by decide) (r_fieldAddr F rfl ff_112_2) fun a F => ?_
   refine q_val F rfl rfl (by decide) (r_load F rfl ag_9 (AT.cell hat46 rfl)) fun a F => ?_
   replace H := bind_some H
   obtain ⟨t50, q51, H⟩ := H
   refine q_call F rfl rfl (by decide) (r_call F Try.func62 rfl (by kernel_rfl) rfl) (cmp_Compare.calls (m := m + 2) (Nat.add_pos_left hm0 _) B _ q51) ?_
   rintro e w53 ⟨c52, rfl, E54, B55⟩
   refine ⟨_, rfl, fun a F => ?_⟩
   have B := B55
   replace h3 := TR.ev h3 E54 (fun q => q.elim) (fun q => q.elim)
   replace h8 := SL.ev h8 E54 (fun q => q.elim) (fun q => q.elim)
   replace h14 := AT.ev h14 E54 (fun q => q.elim)
   replace h42 := SL.ev h42 E54 (fun q => q.elim) (fun q => q.elim)
   replace hl47 := TR.ev hl47 E54 (fun q => q.elim) (fun q => q.elim)
   replace hr48 := TR.ev hr48 E54 (fun q => q.elim) (fun q => q.elim)
   replace hat46 := AT.ev hat46 E54 (fun q => q.elim)
   replace E := E.trans E54 (fun x q => q.elim)
   refine q_val F rfl rfl (by decide) (r_assign F rfl) fun a F => ?_
   refine nil ?_
   refine hK31 _ _ ?_
   replace F : Fr a 76 [(0, .pointer (some ad43)), (1, .string a4), (5, .pointer (some qa12)), (7, .int .i64 t50)] := F.sub ⟨rfl, rfl, rfl, rfl, trivial⟩
   refine wp_block ?_
   refine wp_seq_k fun K57 hK57 => ?_
   refine reg ?_
   refine q_val F rfl rfl (by decide) (r_move F rfl) fun a F => ?_
   refine q_val F rfl rfl (by decide) (r_lss F rfl rfl) fun a F => ?_
   refine q_val F rfl rfl (by decide) (r_assign F rfl) fun a F => ?_
   refine nil ?_
   refine hK57 _ _ ?_
   by_cases hb58 : t50 < 0
   ·replace H := (if_pos hb58).symm.trans H
    refine wp_cond_true ((F.ev rfl).trans (congrArg Value.bool (decide_eq_true hb58))) ?_
    refine wp_seq_k fun K59 hK59 => ?_
    refine regD (SB No c52 w53) 21 (.q 0 (.q 1 (.q 2 (.q 3 (.q 4 (.q 5 (.q 7 (.q 8 (.q 9 (.q 10 (.q 11 (.q 12 (.q 13 (.q 14 (.q 15 (.q 16 (.q 17 (.q 18 (.e 6 (.e 19 (.q 20 .nil))))))))))))))))))))) Try_hm (by decide +kernel) ?_
    intro w60 w1_ w2_ w3_ w4_
    have E61 : Ev No c52 w53 c52 w60 := Ev.same w1_ w2_ w3_ w4_
    replace B := B.same w1_
    have zh3 := h3
    have zh8 := h8
    have zh14 := h14
    have zh42 := h42
    have zhl47 := hl47
    have zhr48 := hr48
    have zhat46 := hat46
    have ER : Ev No c52 w53 c52 w60 := Ev.same w1_ w2_ w3_ w4_
    replace h3 := TR.ev h3 E61 (fun q => q.elim) (fun q => q.elim)
    replace h8 := SL.ev h8 E61 (fun q => q.elim) (fun q => q.elim)
    replace h14 := AT.ev h14 E61 (fun q => q.elim)
    replace h42 := SL.ev h42 E61 (fun q => q.elim) (fun q => q.elim)
    replace hl47 := TR.ev hl47 E61 (fun q => q.elim) (fun q => q.elim)
    replace hr48 := TR.ev hr48 E61 (fun q => q.elim) (fun q => q.elim)
    replace hat46 := AT.ev hat46 E61 (fun q => q.elim)
    replace E := E.trans E61 (fun x q => q.elim)
    refine d_q F rfl rfl rfl (by decide) (fun wq hS => r_move F rfl) ER.sb fun a F => ?_
    refine d_q F rfl rfl rfl (by decide) (fun wq hS => r_nil F rfl) ER.sb fun a F => ?_
    refine d_q F rfl rfl rfl (by decide) (fun wq hS => r_fieldAddr F rfl ff_112_0) ER.sb fun a F => ?_
    refine d_q F rfl rfl rfl (by decide) (fun wq hS => r_load F rfl ag_77 (AT.cell (AT.sb zhat46 hS (fun q => q.elim)) rfl)) ER.sb fun a F => ?_
    refine d_q F rfl rfl rfl (by decide) (fun wq hS => r_move F rfl) ER.sb fun a F => ?_
    refine d_q F rfl rfl rfl (by decide) (fun wq hS => r_loads (cs := [.slice A6 a5.value.length C7, .int .i64 a5.rev]) F rfl ag_80 sz_80 (AT.sb zh14 hS (fun q => q.elim))) ER.sb fun a F => ?_
    refine d_q F rfl rfl rfl (by decide) (fun wq hS => r_move F rfl) ER.sb fun a F => ?_
    refine d_q F rfl rfl rfl (by decide) (fun wq hS => r_nil F rfl) ER.sb fun a F => ?_
    refine d_q F rfl rfl rfl (by decide) (fun wq hS => r_fieldAddr F rfl ff_112_2) ER.sb fun a F => ?_
    refine d_q F rfl rfl rfl (by decide) (fun wq hS => r_load F rfl ag_9 (AT.cell (AT.sb zhat46 hS (fun q => q.elim)) rfl)) ER.sb fun a F => ?_
    refine d_q F rfl rfl rfl (by decide) (fun wq hS => r_move F rfl) ER.sb fun a F => ?_
    refine d_q F rfl rfl rfl (by decide) (fun wq hS => r_nil F rfl) ER.sb fun a F => ?_
    refine d_q F rfl rfl rfl (by decide) (fun wq hS => r_fieldAddr F rfl ff_112_3) ER.sb fun a F => ?_
    refine d_q F rfl rfl rfl (by decide) (fun wq hS => r_loads (cs := [.slice A40 tv35.value.length C41, .int .i64 tv35.rev]) F rfl ag_80 sz_80 (AT.sub (AT.sb zhat46 hS (fun q => q.elim)) 3 2 (Nat.le_of_ble_eq_true rfl))) ER.sb fun a F => ?_
    refine d_q F rfl rfl rfl (by decide) (fun wq hS => r_move F rfl) ER.sb fun a F => ?_
    refine d_q F rfl rfl rfl (by decide) (fun wq hS => r_nil F rfl) ER.sb fun a F => ?_
    refine d_q F rfl rfl rfl (by decide) (fun wq hS => r_fieldAddr F rfl ff_112_1) ER.sb fun a F => ?_
    refine d_q F rfl rfl rfl (by decide) (fun wq hS => r_load F rfl ag_77 (AT.cell (AT.sb zhat46 hS (fun q => q.elim)) rfl)) ER.sb fun a F => ?_
    refine d_e ?_
    replace H := bind_some H
    obtain ⟨t62, q63, H⟩ := H
    refine o_call F rfl (wanted_none rfl) rfl (by decide) (r_call F Try.func65 rfl (by kernel_rfl) rfl) (ih (m := m + 2) (Nat.add_pos_left hm0 _) B hl47 h8 _ q63) ?_
    rintro e w65 ⟨c64, p68, rfl, E66, B67, h69⟩
    refine ⟨_, rfl, fun a F => ?_⟩
    have B := B67
    replace ER := ER.trans E66 (fun x q => q.elim)
    replace h3 := TR.ev h3 E66 (fun q => q.elim) (fun q => q.elim)
    replace h8 := SL.ev h8 E66 (fun q => q.elim) (fun q => q.elim)
    replace h14 := AT.ev h14 E66 (fun q => q.elim)
    replace h42 := SL.ev h42 E66 (fun q => q.elim) (fun q => q.elim)
    replace hl47 := TR.ev hl47 E66 (fun q => q.elim) (fun q => q.elim)
    replace hr48 := TR.ev hr48 E66 (fun q => q.elim) (fun q => q.elim)
    replace hat46 := AT.ev hat46 E66 (fun q => q.elim)
    replace E := E.trans E66 (fun x q => q.elim)
    refine ⟨fun _ => ER.sb, ?_⟩
    refine d_e ?_
    replace H := bind_some H
    obtain ⟨t71, q72, H⟩ := H
    refine o_call F rfl (wanted_none rfl) rfl (by decide) (r_call F Try.func87 rfl (by kernel_rfl) rfl) (tree_join.calls k (m := m + 2) (Nat.add_pos_left hm0 _) B h69 h42 hr48 _ q72) ?_
    rintro e w74 ⟨c73, p77, rfl, E75, B76, h78⟩
    refine ⟨_, rfl, fun a F => ?_⟩
    have B := B76
    replace ER := ER.trans E75 (fun x q => q.elim)
    replace h3 := TR.ev h3 E75 (fun q => q.elim) (fun q => q.elim)
    replace h8 := SL.ev h8 E75 (fun q => q.elim) (fun q => q.elim)
    replace h14 := AT.ev h14 E75 (fun q => q.elim)
    replace h42 := SL.ev h42 E75 (fun q => q.elim) (fun q => q.elim)
    replace hl47 := TR.ev hl47 E75 (fun q => q.elim) (fun q => q.elim)
    replace hr48 := TR.ev hr48 E75 (fun q => q.elim) (fun q => q.elim)
    replace hat46 := AT.ev hat46 E75 (fun q => q.elim)
    replace h69 := TR.ev h69 E75 (fun q => q.elim) (fun q => q.elim)
    replace E := E.trans E75 (fun x q => q.elim)
    refine ⟨fun _ => ER.sb, ?_⟩
    refine d_q F rfl rfl rfl (by decide) (fun wq hS => r_assign F rfl) ER.sb fun a F => ?_
    refine d_nil ?_
    refine hK59 _ _ ?_
    replace F : Fr a 76 [(6, .pointer p77)] := F.sub ⟨rfl, trivial⟩
    refine wp_ret ?_
    refine inbR ?_
    refine thenR ?_
    replace H := Option.some.inj H
    subst H
    refine out1 F rfl rfl ?_
    exact ⟨fun b_ => (fun x_ => if x_ < m then x_ else 0) (c73 b_), p77, rfl, E.leave B0 (fun x_ => if x_ < m then x_ else 0) (by intro x_ hx_; show (if x_ < m then x_ else 0) = x_; ((repeat' split) <;> omega)), (fun b_ hb_ => by show (if (c73 b_) < m then (c73 b_) else 0) < m; ((repeat' split) <;> omega)), TR.rc h78 (fun k_ hk_ => by show (if (c73 k_) < m then (c73 k_) else 0) = _; rw [hk_]; ((repeat' split) <;> omega)) (fun k_ hk_ => by show (if (c73 k_) < m then (c73 k_) else 0) = _; rw [hk_]; ((repeat' split) <;> omega))⟩
   ·replace H := (if_neg hb58).symm.trans H
    refine wp_cond_false ((F.ev rfl).trans (congrArg Value.bool (decide_eq_false hb58))) ?_
    refine wp_seq_k fun K80 hK80 => ?_
    refine reg ?_
    refine q_val F rfl rfl (by decide) (r_move F rfl) fun a F => ?_
    refine q_val F rfl rfl (by decide) (r_gtr F rfl rfl) fun a F => ?_
    refine q_val F rfl rfl (by decide) (r_assign F rfl) fun a F => ?_
    refine nil ?_
    refine hK80 _ _ ?_
    by_cases hb81 : 0 < t50
    ·replace H := (if_pos hb81).symm.trans H
     refine wp_cond_true ((F.ev rfl).trans (congrArg Value.bool (decide_eq_true hb81))) ?_
     refine wp_seq_k fun K82 hK82 => ?_
     refine regD (SB No c52 w53) 21 (.q 0 (.q 1 (.q 2 (.q 3 (.q 4 (.q 5 (.q 6 (.q 7 (.q 8 (.q 9 (.q 10 (.q 11 (.q 12 (.q 13 (.q 14 (.q 15 (.q 16 (.q 17 (.e 18 (.e 19 (.q 20 .nil))))))))))))))))))))) Try_hm (by decide +kernel) ?_
     intro w83 w1_ w2_ w3_ w4_
     have E84 : Ev No c52 w53 c52 w83 := Ev.same w1_ w2_ w3_ w4_
     replace B := B.same w1_
     have zh3 := h3
     have zh8 := h8
     have zh14 := h14
     have zh42 := h42
     have zhl47 := hl47
     have zhr48 := hr48
     have zhat46 := hat46
     have ER : Ev No c52 w53 c52 w83 := Ev.same w1_ w2_ w3_ w4_
     replace h3 := TR.ev h3 E84 (fun q => q.elim) (fun q => q.elim)
     replace h8 := SL.ev h8 E84 (fun q => q.elim) (fun q => q.elim)
     replace h14 := AT.ev h14 E84 (fun q => q.elim)
     replace h42 := SL.ev h42 E84 (fun q => q.elim) (fun q => q.elim)
     replace hl47 := TR.ev hl47 E84 (fun q => q.elim) (fun q => q.elim)
     replace hr48 := TR.ev hr48 E84 (fun q => q.elim) (fun q => q.elim)
     replace hat46 := AT.ev hat46 E84 (fun q => q.elim)
     replace E := E.trans E84 (fun x q => q.elim)
     refine d_q F rfl rfl rfl (by decide) (fun wq hS => r_move F rfl) ER.sb fun a F => ?_
     refine d_q F rfl rfl rfl (by decide) (fun wq hS => r_nil F rfl) ER.sb fun a F => ?_
     refine d_q F rfl rfl rfl (by decide) (fun wq hS => r_fieldAddr F rfl ff_112_0) ER.sb fun a F => ?_
     refine d_q F rfl rfl rfl (by decide) (fun wq hS => r_load F rfl ag_77 (AT.cell (AT.sb zhat46 hS (fun q => q.elim)) rfl)) ER.sb fun a F => ?_
     refine d_q F rfl rfl rfl (by decide) (fun wq hS => r_move F rfl) ER.sb fun a F => ?_
     refine d_q F rfl rfl rfl (by decide) (fun wq hS => r_nil F rfl) ER.sb fun a F => ?_
     refine d_q F rfl rfl rfl (by decide) (fun wq hS => r_fieldAddr F rfl ff_112_2) ER.sb fun a F => ?_
     refine d_q F rfl rfl rfl (by decide) (fun wq hS => r_load F rfl ag_9 (AT.cell (AT.sb zhat46 hS (fun q => q.elim)) rfl)) ER.sb fun a F => ?_
     refine d_q F rfl rfl rfl (by decide) (fun wq hS => r_move F rfl) ER.sb fun a F => ?_
     refine d_q F rfl rfl rfl (by decide) (fun wq hS => r_nil F rfl) ER.sb fun a F => ?_
     refine d_q F rfl rfl rfl (by decide) (fun wq hS => r_fieldAddr F rfl ff_112_3) ER.sb fun a F => ?_
     refine d_q F rfl rfl rfl (by decide) (fun wq hS => r_loads (cs := [.slice A40 tv35.value.length C41, .int .i64 tv35.rev]) F rfl ag_80 sz_80 (AT.sub (AT.sb zhat46 hS (fun q => q.elim)) 3 2 (Nat.le_of_ble_eq_true rfl))) ER.sb fun a F => ?_
     refine d_q F rfl rfl rfl (by decide) (fun wq hS => r_move F rfl) ER.sb fun a F => ?_
     refine d_q F rfl rfl rfl (by decide) (fun wq hS => r_nil F rfl) ER.sb fun a F => ?_
     refine d_q F rfl rfl rfl (by decide) (fun wq hS => r_fieldAddr F rfl ff_112_1) ER.sb fun a F => ?_
     refine d_q F rfl rfl rfl (by decide) (fun wq hS => r_load F rfl ag_77 (AT.cell (AT.sb zhat46 hS (fun q => q.elim)) rfl)) ER.sb fun a F => ?_
     refine d_q F rfl rfl rfl (by decide) (fun wq hS => r_move F rfl) ER.sb fun a F => ?_
     refine d_q F rfl rfl rfl (by decide) (fun wq hS => r_loads (cs := [.slice A6 a5.value.length C7, .int .i64 a5.rev]) F rfl ag_80 sz_80 (AT.sb zh14 hS (fun q => q.elim))) ER.sb fun a F => ?_
     refine d_e ?_
     replace H := bind_some H
     obtain ⟨t85, q86, H⟩ := H
     refine o_call F rfl (wanted_none rfl) rfl (by decide) (r_call F Try.func65 rfl (by kernel_rfl) rfl) (ih (m := m + 2) (Nat.add_pos_left hm0 _) B hr48 h8 _ q86) ?_
     rintro e w88 ⟨c87, p91, rfl, E89, B90, h92⟩
     refine ⟨_, rfl, fun a F => ?_⟩
     have B := B90
     replace ER := ER.trans E89 (fun x q => q.elim)
     replace h3 := TR.ev h3 E89 (fun q => q.elim) (fun q => q.elim)
     replace h8 := SL.ev h8 E89 (fun q => q.elim) (fun q => q.elim)
     replace h14 := AT.ev h14 E89 (fun q => q.elim)
     replace h42 := SL.ev h42 E89 (fun q => q.elim) (fun q => q.elim)
     replace hl47 := TR.ev hl47 E89 (fun q => q.elim) (fun q => q.elim)
     replace hr48 := TR.ev hr48 E89 (fun q => q.elim) (fun q => q.elim)
     replace hat46 := AT.ev hat46 E89 (fun q => q.elim)
     replace E := E.trans E89 (fun x q => q.elim)
     refine ⟨fun _ => ER.sb, ?_⟩
     refine d_e ?_
     replace H := bind_some H
     obtain ⟨t94, q95, H⟩ := H
     refine o_call F rfl (wanted_none rfl) rfl (by decide) (r_call F Try.func87 rfl (by kernel_rfl) rfl) (tree_join.calls k (m := m + 2) (Nat.add_pos_left hm0 _) B hl47 h42 h92 _ q95) ?_
     rintro e w97 ⟨c96, p100, rfl, E98, B99, h101⟩
     refine ⟨_, rfl, fun a F => ?_⟩
     have B := B99
     replace ER := ER.trans E98 (fun x q => q.elim)
     replace h3 := TR.ev h3 E98 (fun q => q.elim) (fun q => q.elim)
     replace h8 := SL.ev h8 E98 (fun q => q.elim) (fun q => q.elim)
     replace h14 := AT.ev h14 E98 (fun q => q.elim)
     replace h42 := SL.ev h42 E98 (fun q => q.elim) (fun q => q.elim)
     replace hl47 := TR.ev hl47 E98 (fun q => q.elim) (fun q => q.elim)
     replace hr48 := TR.ev hr48 E98 (fun q => q.elim) (fun q => q.elim)
     replace hat46 := AT.ev hat46 E98 (fun q => q.elim)
     replace h92 := TR.ev h92 E98 (fun q => q.elim) (fun q => q.elim)
     replace E := E.trans E98 (fun x q => q.elim)
     refine ⟨fun _ => ER.sb, ?_⟩
     refine d_q F rfl rfl rfl (by decide) (fun wq hS => r_assign F rfl) ER.sb fun a F => ?_
     refine d_nil ?_
     refine hK82 _ _ ?_
     replace F : Fr a 76 [(6, .pointer p100)] := F.sub ⟨rfl, trivial⟩
     refine wp_ret ?_
     refine inbR ?_
     refine thenR ?_
     replace H := Option.some.inj H
     subst H
     refine out1 F rfl rfl ?_
     exact ⟨fun b_ => (fun x_ => if x_ < m then x_ else 0) (c96 b_), p100, rfl, E.leave B0 (fun x_ => if x_ < m then x_ else 0) (by intro x_ hx_; show (if x_ < m then x_ else 0) = x_; ((repeat' split) <;> omega)), (fun b_ hb_ => by show (if (c96 b_) < m then (c96 b_) else 0) < m; ((repeat' split) <;> omega)), TR.rc h101 (fun k_ hk_ => by show (if (c96 k_) < m then (c96 k_) else 0) = _; rw [hk_]; ((repeat' split) <;> omega)) (fun k_ hk_ => by show (if (c96 k_) < m then (c96 k_) else 0) = _; rw [hk_]; ((repeat' split) <;> omega))⟩
    ·replace H := (if_neg hb81).symm.trans H
     refine wp_cond_false ((F.ev rfl).trans (congrArg Value.bool (decide_eq_false hb81))) ?_
     refine wp_skip ?_
     refine hK30 _ _ ?_
     refine wp_seq_k fun K103 hK103 => ?_
     refine regD (SB No c52 w53) 12 (.q 0 (.q 1 (.q 2 (.q 3 (.q 4 (.q 5 (.q 6 (.q 7 (.q 8 (.q 9 (.e 10 (.q 11 .nil)))))))))))) Try_hm (by decide +kernel) ?_
     intro w104 w1_ w2_ w3_ w4_
     have E105 : Ev No c52 w53 c52 w104 := Ev.same w1_ w2_ w3_ w4_
     replace B := B.same w1_
     have zh3 := h3
     have zh8 := h8
     have zh14 := h14
     have zh42 := h42
     have zhl47 := hl47
     have zhr48 := hr48
     have zhat46 := hat46
     have ER : Ev No c52 w53 c52 w104 := Ev.same w1_ w2_ w3_ w4_
     replace h3 := TR.ev h3 E105 (fun q => q.elim) (fun q => q.elim)
     replace h8 := SL.ev h8 E105 (fun q => q.elim) (fun q => q.elim)
     replace h14 := AT.ev h14 E105 (fun q => q.elim)
     replace h42 := SL.ev h42 E105 (fun q => q.elim) (fun q => q.elim)
     replace hl47 := TR.ev hl47 E105 (fun q => q.elim) (fun q => q.elim)
     replace hr48 := TR.ev hr48 E105 (fun q => q.elim) (fun q => q.elim)
     replace hat46 := AT.ev hat46 E105 (fun q => q.elim)
     replace E := E.trans E105 (fun x q => q.elim)
     refine d_q F rfl rfl rfl (by decide) (fun wq hS => r_move F rfl) ER.sb fun a F => ?_
     refine d_q F rfl rfl rfl (by decide) (fun wq hS => r_nil F rfl) ER.sb fun a F => ?_
     refine d_q F rfl rfl rfl (by decide) (fun wq hS => r_fieldAddr F rfl ff_112_0) ER.sb fun a F => ?_
     refine d_q F rfl rfl rfl (by decide) (fun wq hS => r_load F rfl ag_77 (AT.cell (AT.sb zhat46 hS (fun q => q.elim)) rfl)) ER.sb fun a F => ?_
     refine d_q F rfl rfl rfl (by decide) (fun wq hS => r_move F rfl) ER.sb fun a F => ?_
     refine d_q F rfl rfl rfl (by decide) (fun wq hS => r_loads (cs := [.slice A6 a5.value.length C7, .int .i64 a5.rev]) F rfl ag_80 sz_80 (AT.sb zh14 hS (fun q => q.elim))) ER.sb fun a F => ?_
     refine d_q F rfl rfl rfl (by decide) (fun wq hS => r_move F rfl) ER.sb fun a F => ?_
     refine d_q F rfl rfl rfl (by decide) (fun wq hS => r_nil F rfl) ER.sb fun a F => ?_
     refine d_q F rfl rfl rfl (by decide) (fun wq hS => r_fieldAddr F rfl ff_112_1) ER.sb fun a F => ?_
     refine d_q F rfl rfl rfl (by decide) (fun wq hS => r_load F rfl ag_77 (AT.cell (AT.sb zhat46 hS (fun q => q.elim)) rfl)) ER.sb fun a F => ?_
     refine d_e ?_
     replace H := bind_some H
     obtain ⟨t106, q107, H⟩ := H
     refine o_call F rfl (wanted_none rfl) rfl (by decide) (r_call F Try.func89 rfl (by kernel_rfl) rfl) (tree_node.calls (m := m + 2) (Nat.add_pos_left hm0 _) B hl47 h8 hr48 _ q107) ?_
     rintro e w109 ⟨c108, p112, rfl, E110, B111, h113⟩
     refine ⟨_, rfl, fun a F => ?_⟩
     have B := B111
     replace ER := ER.trans E110 (fun x q => q.elim)
     replace h3 := TR.ev h3 E110 (fun q => q.elim) (fun q => q.elim)
     replace h8 := SL.ev h8 E110 (fun q => q.elim) (fun q => q.elim)
     replace h14 := AT.ev h14 E110 (fun q => q.elim)
     replace h42 := SL.ev h42 E110 (fun q => q.elim) (fun q => q.elim)
     replace hl47 := TR.ev hl47 E110 (fun q => q.elim) (fun q => q.elim)
     replace hr48 := TR.ev hr48 E110 (fun q => q.elim) (fun q => q.elim)
     replace hat46 := AT.ev hat46 E110 (fun q => q.elim)
     replace E := E.trans E110 (fun x q => q.elim)
     refine ⟨fun _ => ER.sb, ?_⟩
     refine d_q F rfl rfl rfl (by decide) (fun wq hS => r_assign F rfl) ER.sb fun a F => ?_
     refine d_nil ?_
     refine hK103 _ _ ?_
     replace F : Fr a 76 [(6, .pointer p112)] := F.sub ⟨rfl, trivial⟩
     refine wp_ret ?_
     replace H := Option.some.inj H
     subst H
     refine out1 F rfl rfl ?_
     exact ⟨fun b_ => (fun x_ => if x_ < m then x_ else 0) (c108 b_), p112, rfl, E.leave B0 (fun x_ => if x_ < m then x_ else 0) (by intro x_ hx_; show (if x_ < m then x_ else 0) = x_; ((repeat' split) <;> omega)), (fun b_ hb_ => by show (if (c108 b_) < m then (c108 b_) else 0) < m; ((repeat' split) <;> omega)), TR.rc h113 (fun k_ hk_ => by show (if (c108 k_) < m then (c108 k_) else 0) = _; rw [hk_]; ((repeat' split) <;> omega)) (fun k_ hk_ => by show (if (c108 k_) < m then (c108 k_) else 0) = _; rw [hk_]; ((repeat' split) <;> omega))⟩
end Go.Proofs.Ythankpjbfpcldaa.G
namespace Go.Proofs.Ythankpjbfpcldaa.G
open Go Go.RowKit
set_option linter.unusedVariables false
set_option linter.unusedSimpArgs false
set_option maxRecDepth 100000 in
set_option maxHeartbeats 4000000 in
theorem table_Table_set.calls (k : Nat) {m : Nat} {c0 : Nat → Nat} {w0 : World} {j4 : Nat} {p2 : Option Addr} {A7 : Option Addr} {C8 : Nat} {a1 : Option Tab} {a5 : ByteArray} {a6 : table_cell} {a10 : Bool} (hm0 : 0 < m) (B0 : CB m c0 w0) (h3 : TB j4 c0 w0 p2 a1) (h9 : SL false (Kint .u8) 0 0 c0 w0 A7 C8 a6.value) (bj4 : 0 < j4 ∧ j4 < m) (r : (Option Tab)) (H : table_Table_set.f k a1 a5 a6 a10 = some r) : Calls Try.prog 43 #[.pointer p2, .string a5, .agg #[.slice A7 a6.value.length C8, .int .i64 a6.rev], .bool a10] w0 (fun e w_ => ∃ (c_ : Nat → Nat), e = .returned (.tuple #[]) ∧ Ev (fun x => (x = j4)) c0 w0 c_ w_ ∧ CB m c_ w_ ∧ TB j4 c_ w_ p2 r) := by
 unfold table_Table_set.f at H
 have B := B0.mono (show m ≤ m + 3 by omega)
 have E : Ev (fun x => (x = j4) ∨ m ≤ x) c0 w0 c0 w0 := Ev.refl
 refine enter (N := 64) (l := [.pointer p2, .string a5, .agg #[.slice A7 a6.value.length C8, .int .i64 a6.rev], .bool a10]) Try.func43 rfl rfl (Nat.le_of_ble_eq_true rfl) fun a F => ?_
 refine wp_seq_k fun K11 hK11 => ?_
 refine reg ?_
 refine q_eff F rfl rfl (by decide) (e_box F (v := .agg #[.slice A7 a6.value.length C8, .int .i64 a6.rev]) rfl c0 (m + 1)) ?_
 rintro v w13 a ⟨c12, qa14, rfl, E15, h16, B17⟩ F
 replace B := B17 _ B (Nat.add_lt_add_left (by decide) m)
 replace h3 := TB.ev h3 E15 (fun q => q.elim) (fun q => q.elim)
 replace h9 := SL.ev h9 E15 (fun q => q.elim) (fun q => q.elim)
 replace E := E.trans E15 (fun x q => q.elim)
 replace h16 : AT true (m + 1) c12 w13 qa14 [.slice A7 a6.value.length C8, .int .i64 a6.rev] := h16
 refine nil ?_
 refine hK11 _ _ ?_
 refine wp_seq_k fun K19 hK19 => ?_
 have J64 : ∀ (c65 : Nat → Nat) (w66 : World) (a : Act) (ad24 : Addr) (p26 : Option Addr) (ob21 : Tab) (i63 : Int), p2 = some ad24 → Fr a 64 [(0, .pointer (some ad24)), (1, .string a5), (3, .bool a10), (6, .pointer (some qa14))] → Ev (fun x => (x = j4) ∨ m ≤ x) c0 w0 c65 w66 → CB (m + 3) c65 w66 → AT true j4 c65 w66 ad24 [.pointer p26, .int .i64 ob21.rev, .int .i64 i63] → AT true (m + 1) c65 w66 qa14 [.slice A7 a6.value.length C8, .int .i64 a6.rev] → TR 0 c65 w66 p26 ob21.rows → SL false (Kint .u8) 0 0 c65 w66 A7 C8 a6.value → table_Table_set.j1 k a5 a6 a10 ob21 i63 = some r → K19 a w66 := by
  intro c65 w66 a ad24 p26 ob21 i63 qe67 F E B hat25 h16 h27 h9 H
  unfold table_Table_set.j1 at H
  refine hK19 _ _ ?_
  refine wp_seq_k fun K68 hK68 => ?_
  refine wp_seq_k fun K69 hK69 => ?_
  refine reg ?_
  refine q_val F rfl rfl (by decide) (r_move F rfl) fun a F => ?_
  refine q_val F rfl rfl (by decide) (r_not F rfl) fun a F => ?_
  refine nil ?_
  refine hK69 _ _ ?_
  by_cases hb70 : a10 = true
  ·replace H := (if_pos hb70).symm.trans H
   refine wp_cond_false ((F.ev rfl).trans (congrArg Value.bool (congrArg not hb70))) ?_
   refine wp_skip ?_
   refine hK68 _ _ ?_
   refine wp_seq_k fun K85 hK85 => ?_
   refine regD (SB No c65 w66) 10 (.q 0 (.q 1 (.q 2 (.q 3 (.q 4 (.q 5 (.q 6 (.e 7 (.e 8 (.q 9 (.e 10 .nil))))))))))) Try_hm (by decide +kernel) ?_
   intro w86 w1_ w2_ w3_ w4_
   have E87 : Ev No c65 w66 c65 w86 := Ev.same w1_ w2_ w3_ w4_
   replace B := B.same w1_
   have zhat25 := hat25
   have zh16 := h16
   have zh27 := h27
   have zh9 := h9
   have ER : Ev No c65 w66 c65 w86 := Ev.same w1_ w2_ w3_ w4_
   replace hat25 := AT.ev hat25 E87 (fun q => q.elim)
   replace h16 := AT.ev h16 E87 (fun q => q.elim)
   replace h27 := TR.ev h27 E87 (fun q => q.elim) (fun q => q.elim)
   replace h9 := SL.ev h9 E87 (fun q => q.elim) (fun q => q.elim)
   replace E := E.trans E87 (fun x q => q.elim)
   refine d_q F rfl rfl rfl (by decide) (fun wq hS => r_move F rfl) ER.sb fun a F => ?_
   refine d_q F rfl rfl rfl (by decide) (fun wq hS => r_move F rfl) ER.sb fun a F => ?_
   refine d_q F rfl rfl rfl (by decide) (fun wq hS => r_nil F rfl) ER.sb fun a F => ?_
   refine d_q F rfl rfl rfl (by decide) (fun wq hS => r_fieldAddr F rfl ff_82_0) ER.sb fun a F => ?_
   refine d_q F rfl rfl rfl (by decide) (fun wq hS => r_load F rfl ag_77 (AT.cell (AT.sb zhat25 hS (fun q => q.elim)) rfl)) ER.sb fun a F => ?_
   refine d_q F rfl rfl rfl (by decide) (fun wq hS => r_move F rfl) ER.sb fun a F => ?_
   refine d_q F rfl rfl rfl (by decide) (fun wq hS => r_loads (cs := [.slice A7 a6.value.length C8, .int .i64 a6.rev]) F rfl ag_80 sz_80 (AT.sb zh16 hS (fun q => q.elim))) ER.sb fun a F => ?_
   refine d_e ?_
   replace H := bind_some H
   obtain ⟨t88, q89, H⟩ := H
   refine o_call F rfl (wanted_none rfl) rfl (by decide) (r_call F Try.func65 rfl (by kernel_rfl) rfl) (tree_Tree_Put.calls k (m := m + 3) (Nat.add_pos_left hm0 _) B h27 h9 _ q89) ?_
   rintro e w91 ⟨c90, p94, rfl, E92, B93, h95⟩
   refine ⟨_, rfl, fun a F => ?_⟩
   have B := B93
   replace ER := ER.trans E92 (fun x q => q.elim)
   replace hat25 := AT.ev hat25 E92 (fun q => q.elim)
   replace h16 := AT.ev h16 E92 (fun q => q.elim)
   replace h27 := TR.ev h27 E92 (fun q => q.elim) (fun q => q.elim)
   replace h9 := SL.ev h9 E92 (fun q => q.elim) (fun q => q.elim)
   replace E := E.trans E92 (fun x q => q.elim)
   refine ⟨fun _ => ER.sb, ?_⟩
   refine d_e ?_
   refine o_val F rfl rfl rfl (by decide) (r_nil F rfl) fun a F => ?_
   refine ⟨fun _ => ER.sb, ?_⟩
   refine d_q F rfl rfl rfl (by decide) (fun wq hS => r_fieldAddr F rfl ff_82_0) ER.sb fun a F => ?_
   refine d_e ?_
   refine o_eff0 F rfl rfl rfl (e_store F rfl rfl sz_77 hat25 (Nat.le_of_ble_eq_true rfl) rfl) ?_
   rintro w97 a ⟨E98, hat25, Z99⟩ F
   replace B := B.size Z99
   replace h16 := AT.ev h16 E98 (ne_mp bj4.2)
   replace h27 := TR.ev h27 E98 (ne_z bj4.1) (ne_z bj4.1)
   replace h9 := SL.ev h9 E98 (ne_z bj4.1) (ne_z bj4.1)
   replace h95 := TR.ev h95 E98 (ne_z bj4.1) (ne_z bj4.1)
   replace E := E.trans E98 (fun x (q : x = j4) => Or.inl (q))
   replace hat25 : AT true j4 c90 w97 ad24 [.pointer p94, .int .i64 ob21.rev, .int .i64 i63] := hat25
   refine ⟨fun q => absurd rfl q, ?_⟩
   refine d_nil ?_
   refine hK85 _ _ ?_
   replace F : Fr a 64 [(0, .pointer (some ad24)), (1, .string a5), (6, .pointer (some qa14))] := F.sub ⟨rfl, rfl, rfl, trivial⟩
   refine regD (SB No c90 w97) 10 (.q 0 (.q 1 (.q 2 (.q 3 (.q 4 (.q 5 (.e 6 (.q 7 (.e 8 (.q 9 (.e 10 .nil))))))))))) Try_hm (by decide +kernel) ?_
   intro w100 w1_ w2_ w3_ w4_
   have E101 : Ev No c90 w97 c90 w100 := Ev.same w1_ w2_ w3_ w4_
   replace B := B.same w1_
   have zhat25 := hat25
   have zh16 := h16
   have zh27 := h27
   have zh9 := h9
   have zh95 := h95
   have ER : Ev No c90 w97 c90 w100 := Ev.same w1_ w2_ w3_ w4_
   replace hat25 := AT.ev hat25 E101 (fun q => q.elim)
   replace h16 := AT.ev h16 E101 (fun q => q.elim)
   replace h27 := TR.ev h27 E101 (fun q => q.elim) (fun q => q.elim)
   replace h9 := SL.ev h9 E101 (fun q => q.elim) (fun q => q.elim)
   replace h95 := TR.ev h95 E101 (fun q => q.elim) (fun q => q.elim)
   replace E := E.trans E101 (fun x q => q.elim)
   refine d_q F rfl rfl rfl (by decide) (fun wq hS => r_move F rfl) ER.sb fun a F => ?_
   refine d_q F rfl rfl rfl (by decide) (fun wq hS => r_nil F rfl) ER.sb fun a F => ?_
   refine d_q F rfl rfl rfl (by decide) (fun wq hS => r_fieldAddr F rfl ff_82_2) ER.sb fun a F => ?_
   refine d_q F rfl rfl rfl (by decide) (fun wq hS => r_load F rfl ag_3 (AT.cell (AT.sb zhat25 hS (fun q => q.elim)) rfl)) ER.sb fun a F => ?_
   refine d_q F rfl rfl rfl (by decide) (fun wq hS => r_move F rfl) ER.sb fun a F => ?_
   refine d_q F rfl rfl rfl (by decide) (fun wq hS => r_loads (cs := [.slice A7 a6.value.length C8, .int .i64 a6.rev]) F rfl ag_80 sz_80 (AT.sb zh16 hS (fun q => q.elim))) ER.sb fun a F => ?_
   refine d_e ?_
   replace H := bind_some H
   obtain ⟨t102, q103, H⟩ := H
   refine o_call F rfl (wanted_none rfl) rfl (by decide) (r_call F Try.func63 rfl (by kernel_rfl) rfl) (table_long.calls k (m := m + 3) (Nat.add_pos_left hm0 _) B h9 _ q103) ?_
   rintro e w105 ⟨c104, rfl, E106, B107⟩
   refine ⟨_, rfl, fun a F => ?_⟩
   have B := B107
   replace ER := ER.trans E106 (fun x q => q.elim)
   replace hat25 := AT.ev hat25 E106 (fun q => q.elim)
   replace h16 := AT.ev h16 E106 (fun q => q.elim)
   replace h27 := TR.ev h27 E106 (fun q => q.elim) (fun q => q.elim)
   replace h9 := SL.ev h9 E106 (fun q => q.elim) (fun q => q.elim)
   replace h95 := TR.ev h95 E106 (fun q => q.elim) (fun q => q.elim)
   replace E := E.trans E106 (fun x q => q.elim)
   refine ⟨fun _ => ER.sb, ?_⟩
   refine d_q F rfl rfl rfl (by decide) (fun wq hS => r_add F rfl rfl) ER.sb fun a F => ?_
   refine d_e ?_
   refine o_val F rfl rfl rfl (by decide) (r_nil F rfl) fun a F => ?_
   refine ⟨fun _ => ER.sb, ?_⟩
   refine d_q F rfl rfl rfl (by decide) (fun wq hS => r_fieldAddr F rfl ff_82_2) ER.sb fun a F => ?_
   refine d_e ?_
   refine o_eff0 F rfl rfl rfl (e_store F rfl rfl sz_3 hat25 (Nat.le_of_ble_eq_true rfl) rfl) ?_
   rintro w109 a ⟨E110, hat25, Z111⟩ F
   replace B := B.size Z111
   replace h16 := AT.ev h16 E110 (ne_mp bj4.2)
   replace h27 := TR.ev h27 E110 (ne_z bj4.1) (ne_z bj4.1)
   replace h9 := SL.ev h9 E110 (ne_z bj4.1) (ne_z bj4.1)
   replace h95 := TR.ev h95 E110 (ne_z bj4.1) (ne_z bj4.1)
   replace E := E.trans E110 (fun x (q : x = j4) => Or.inl (q))
   replace hat25 : AT true j4 c104 w109 ad24 [.pointer p94, .int .i64 ob21.rev, .int .i64 (IntKind.i64.wrap (i63 + t102))] := hat25
   refine ⟨fun q => absurd rfl q, ?_⟩
   refine d_nil ?_
   have h112 : TB j4 c104 w109 (some ad24) (some (Tab.mk t88 ob21.rev (IntKind.i64.wrap (i63 + t102)))) := TB.mk hat25 h95
   replace H := Option.some.inj H
   subst H
   first | refine out0n F rfl ?_ | refine inbN (out0n F rfl ?_) | refine inbN (inbN (out0n F rfl ?_)) | refine inbN (inbN (inbN (out0n F rfl ?_)))
   exact ⟨fun b_ => (fun x_ => if x_ < m then x_ else 0) (c104 b_), rfl, E.leave B0 (fun x_ => if x_ < m then x_ else 0) (by intro x_ hx_; show (if x_ < m then x_ else 0) = x_; ((repeat' split) <;> omega)), (fun b_ hb_ => by show (if (c104 b_) < m then (c104 b_) else 0) < m; ((repeat' split) <;> omega)), (by rw [qe67]; exact TB.rc h112 (fun k_ hk_ => by show (if (c104 k_) < m then (c104 k_) else 0) = _; rw [hk_]; ((repeat' split) <;> omega)) (fun k_ hk_ => by show (if (c104 k_) < m then (c104 k_) else 0) = _; rw [hk_]; ((repeat' split) <;> omega)))⟩
  ·replace H := (if_neg hb70).symm.trans H
   refine wp_cond_true ((F.ev rfl).trans (congrArg Value.bool (congrArg not (bfalse hb70)))) ?_
   refine wp_seq_k fun K71 hK71 => ?_
   refine reg ?_
   refine q_val F rfl rfl (by decide) (r_move F rfl) fun a F => ?_
   refine q_val F rfl rfl (by decide) (r_move F rfl) fun a F => ?_
   refine q_val F rfl rfl (by decide) (r_nil F rfl) fun a F => ?_
   refine q_val F rfl rfl (by decide) (r_fieldAddr F rfl ff_82_0) fun a F => ?_
   refine q_val F rfl rfl (by decide) (r_load F rfl ag_77 (AT.cell hat25 rfl)) fun a F => ?_
   refine q_val F rfl rfl (by decide) (r_move F rfl) fun a F => ?_
   replace H := bind_some H
   obtain ⟨t72, q73, H⟩ := H
   refine q_call F rfl rfl (by decide) (r_call F Try.func64 rfl (by kernel_rfl) rfl) (tree_Tree_Delete.calls k (m := m + 3) (Nat.add_pos_left hm0 _) B h27 _ q73) ?_
   rintro e w75 ⟨c74, p78, rfl, E76, B77, h79⟩
   refine ⟨_, rfl, fun a F => ?_⟩
   have B := B77
   replace hat25 := AT.ev hat25 E76 (fun q => q.elim)
   replace h16 := AT.ev h16 E76 (fun q => q.elim)
   replace h27 := TR.ev h27 E76 (fun q => q.elim) (fun q => q.elim)
   replace h9 := SL.ev h9 E76 (fun q => q.elim) (fun q => q.elim)
   replace E := E.trans E76 (fun x q => q.elim)
   refine q_val F rfl rfl (by decide) (r_move F rfl) fun a F => ?_
   refine q_val F rfl rfl (by decide) (r_extract F rfl rfl) fun a F => ?_
   refine q_val F rfl rfl (by decide) (r_extract F rfl rfl) fun a F => ?_
   refine q_val F rfl rfl (by decide) (r_nil F rfl) fun a F => ?_
   refine q_val F rfl rfl (by decide) (r_fieldAddr F rfl ff_82_0) fun a F => ?_
   refine q_eff0 F rfl rfl (e_store F rfl rfl sz_77 hat25 (Nat.le_of_ble_eq_true rfl) rfl) ?_
   rintro w81 a ⟨E82, hat25, Z83⟩ F
   replace B := B.size Z83
   replace h16 := AT.ev h16 E82 (ne_mp bj4.2)
   replace h27 := TR.ev h27 E82 (ne_z bj4.1) (ne_z bj4.1)
   replace h9 := SL.ev h9 E82 (ne_z bj4.1) (ne_z bj4.1)
   replace h79 := TR.ev h79 E82 (ne_z bj4.1) (ne_z bj4.1)
   replace E := E.trans E82 (fun x (q : x = j4) => Or.inl (q))
   replace hat25 : AT true j4 c74 w81 ad24 [.pointer p78, .int .i64 ob21.rev, .int .i64 i63] := hat25
   refine nil ?_
   refine hK71 _ _ ?_
   replace F : Fr a 64 [] := F.sub trivial
   refine wp_ret ?_
   refine thenR ?_
   have h84 : TB j4 c74 w81 (some ad24) (some (Tab.mk t72.1 ob21.rev i63)) := TB.mk hat25 h79
   replace H := Option.some.inj H
   subst H
   refine out0 F rfl ?_
   exact ⟨fun b_ => (fun x_ => if x_ < m then x_ else 0) (c74 b_), rfl, E.leave B0 (fun x_ => if x_ < m then x_ else 0) (by intro x_ hx_; show (if x_ < m then x_ else 0) = x_; ((repeat' split) <;> omega)), (fun b_ hb_ => by show (if (c74 b_) < m then (c74 b_) else 0) < m; ((repeat' split) <;> omega)), (by rw [qe67]; exact TB.rc h84 (fun k_ hk_ => by show (if (c74 k_) < m then (c74 k_) else 0) = _; rw [hk_]; ((repeat' split) <;> omega)) (fun k_ hk_ => by show (if (c74 k_) < m then (c74 k_) else 0) = _; rw [hk_]; ((repeat' split) <;> omega)))⟩
 refine wp_seq_k fun K20 hK20 => ?_
 refine reg ?_
 refine q_val F rfl rfl (by decide) (r_move F rfl) fun a F => ?_
 replace H := bind_some H
 obtain ⟨ob21, e22, H⟩ := H
 have z23 := h3
 rw [e22] at z23
 obtain ⟨ad24, p26, rfl, hat25, h27⟩ := TB.some z23
 refine q_val F rfl rfl (by decide) (r_nil F rfl) fun a F => ?_
 refine q_val F rfl rfl (by decide) (r_fieldAddr F rfl ff_82_0) fun a F => ?_
 refine q_val F rfl rfl (by decide) (r_load F rfl ag_77 (AT.cell hat25 rfl)) fun a F => ?_
 refine q_val F rfl rfl (by decide) (r_move F rfl) fun a F => ?_
 replace H := bind_some H
 obtain ⟨t29, q30, H⟩ := H
 refine q_call F rfl rfl (by decide) (r_call F Try.func40 rfl (by kernel_rfl) rfl) (tree_Tree_Get.calls k (m := m + 3) (Nat.add_pos_left hm0 _) B h27 _ q30) ?_
 rintro e w32 ⟨c31, A35, C36, rfl, E33, B34, h37⟩
 refine ⟨_, rfl, fun a F => ?_⟩
 have B := B34
 replace h3 := TB.ev h3 E33 (fun q => q.elim) (fun q => q.elim)
 replace h9 := SL.ev h9 E33 (fun q => q.elim) (fun q => q.elim)
 replace h16 := AT.ev h16 E33 (fun q => q.elim)
 replace h27 := TR.ev h27 E33 (fun q => q.elim) (fun q => q.elim)
 replace hat25 := AT.ev hat25 E33 (fun q => q.elim)
 replace E := E.trans E33 (fun x q => q.elim)
 refine q_val F rfl rfl (by decide) (r_move F rfl) fun a F => ?_
 refine q_val F rfl rfl (by decide) (r_extract F rfl rfl) fun a F => ?_
 refine q_val F rfl rfl (by decide) (r_extract F rfl rfl) fun a F => ?_
 refine q_eff F rfl rfl (by decide) (e_alloc F zv_80 c31 (m + 2)) ?_
 rintro v w40 a ⟨c39, qa41, rfl, E42, h43, B44⟩ F
 replace B := B44 _ B (Nat.add_lt_add_left (by decide) m)
 replace h3 := TB.ev h3 E42 (fun q => q.elim) (fun q => q.elim)
 replace h9 := SL.ev h9 E42 (fun q => q.elim) (fun q => q.elim)
 replace h16 := AT.ev h16 E42 (fun q => q.elim)
 replace h27 := TR.ev h27 E42 (fun q => q.elim) (fun q => q.elim)
 replace hat25 := AT.ev hat25 E42 (fun q => q.elim)
 replace h37 := SL.ev h37 E42 (fun q => q.elim) (fun q => q.elim)
 replace E := E.trans E42 (fun x q => q.elim)
 replace h43 : AT true (m + 2) c39 w40 qa41 [.slice none 0 0, .int .i64 0] := h43
 refine q_eff0 F rfl rfl (e_storeN0 (us := [.slice A35 t29.1.value.length C36, .int .i64 t29.1.rev]) F rfl rfl sz_80 h43 (Nat.le_of_ble_eq_true rfl) (one_all rfl)) ?_
 rintro w46 a ⟨E47, h43, Z48⟩ F
 replace B := B.size Z48
 replace h3 := TB.ev h3 E47 (ne_pm bj4.2) ne_zm
 replace h9 := SL.ev h9 E47 ne_zm ne_zm
 replace h16 := AT.ev h16 E47 (ne_mm (by decide))
 replace h27 := TR.ev h27 E47 ne_zm ne_zm
 replace hat25 := AT.ev hat25 E47 (ne_pm bj4.2)
 replace h37 := SL.ev h37 E47 ne_zm ne_zm
 replace E := E.trans E47 (fun x (q : x = m + 2) => Or.inr (le_col q))
 replace h43 : AT true (m + 2) c39 w46 qa41 [.slice A35 t29.1.value.length C36, .int .i64 t29.1.rev] := h43
 refine q_val F rfl rfl (by decide) (r_assign F rfl) fun a F => ?_
 refine nil ?_
 refine hK20 _ _ ?_
 replace F : Fr a 64 [(0, .pointer (some ad24)), (1, .string a5), (3, .bool a10), (6, .pointer (some qa14)), (8, .pointer (some qa41)), (9, .bool t29.2)] := F.sub ⟨rfl, rfl, rfl, rfl, rfl, rfl, trivial⟩
 refine wp_seq_k fun K49 hK49 => ?_
 refine reg ?_
 refine q_val F rfl rfl (by decide) (r_move F rfl) fun a F => ?_
 refine nil ?_
 refine hK49 _ _ ?_
 by_cases hb50 : t29.2 = true
 ·replace H := (if_pos hb50).symm.trans H
  refine wp_cond_true ((F.ev rfl).trans (congrArg Value.bool hb50)) ?_
  refine regD (SB No c39 w46) 10 (.q 0 (.q 1 (.q 2 (.q 3 (.q 4 (.q 5 (.e 6 (.q 7 (.e 8 (.q 9 (.e 10 .nil))))))))))) Try_hm (by decide +kernel) ?_
  intro w51 w1_ w2_ w3_ w4_
  have E52 : Ev No c39 w46 c39 w51 := Ev.same w1_ w2_ w3_ w4_
  replace B := B.same w1_
  have zh3 := h3
  have zh9 := h9
  have zh16 := h16
  have zh27 := h27
  have zhat25 := hat25
  have zh37 := h37
  have zh43 := h43
  have ER : Ev No c39 w46 c39 w51 := Ev.same w1_ w2_ w3_ w4_
  replace h3 := TB.ev h3 E52 (fun q => q.elim) (fun q => q.elim)
  replace h9 := SL.ev h9 E52 (fun q => q.elim) (fun q => q.elim)
  replace h16 := AT.ev h16 E52 (fun q => q.elim)
  replace h27 := TR.ev h27 E52 (fun q => q.elim) (fun q => q.elim)
  replace hat25 := AT.ev hat25 E52 (fun q => q.elim)
  replace h37 := SL.ev h37 E52 (fun q => q.elim) (fun q => q.elim)
  replace h43 := AT.ev h43 E52 (fun q => q.elim)
  replace E := E.trans E52 (fun x q => q.elim)
  refine d_q F rfl rfl rfl (by decide) (fun wq hS => r_move F rfl) ER.sb fun a F => ?_
  refine d_q F rfl rfl rfl (by decide) (fun wq hS => r_nil F rfl) ER.sb fun a F => ?_
  refine d_q F rfl rfl rfl (by decide) (fun wq hS => r_fieldAddr F rfl ff_82_2) ER.sb fun a F => ?_
  refine d_q F rfl rfl rfl (by decide) (fun wq hS => r_load F rfl ag_3 (AT.cell (AT.sb zhat25 hS (fun q => q.elim)) rfl)) ER.sb fun a F => ?_
  refine d_q F rfl rfl rfl (by decide) (fun wq hS => r_move F rfl) ER.sb fun a F => ?_
  refine d_q F rfl rfl rfl (by decide) (fun wq hS => r_loads (cs := [.slice A35 t29.1.value.length C36, .int .i64 t29.1.rev]) F rfl ag_80 sz_80 (AT.sb zh43 hS (fun q => q.elim))) ER.sb fun a F => ?_
  refine d_e ?_
  replace H := bind_some H
  obtain ⟨t53, q54, H⟩ := H
  refine o_call F rfl (wanted_none rfl) rfl (by decide) (r_call F Try.func63 rfl (by kernel_rfl) rfl) (table_long.calls k (m := m + 3) (Nat.add_pos_left hm0 _) B h37 _ q54) ?_
  rintro e w56 ⟨c55, rfl, E57, B58⟩
  refine ⟨_, rfl, fun a F => ?_⟩
  have B := B58
  replace ER := ER.trans E57 (fun x q => q.elim)
  replace h3 := TB.ev h3 E57 (fun q => q.elim) (fun q => q.elim)
  replace h9 := SL.ev h9 E57 (fun q => q.elim) (fun q => q.elim)
  replace h16 := AT.ev h16 E57 (fun q => q.elim)
  replace h27 := TR.ev h27 E57 (fun q => q.elim) (fun q => q.elim)
  replace hat25 := AT.ev hat25 E57 (fun q => q.elim)
  replace h37 := SL.ev h37 E57 (fun q => q.elim) (fun q => q.elim)
  replace h43 := AT.ev h43 E57 (fun q => q.elim)
  replace E := E.trans E57 (fun x q => q.elim)
  refine ⟨fun _ => ER.sb, ?_⟩
  refine d_q F rfl rfl rfl (by decide) (fun wq hS => r_sub F rfl rfl) ER.sb fun a F => ?_
  refine d_e ?_
  refine o_val F rfl rfl rfl (by decide) (r_nil F rfl) fun a F => ?_
  refine ⟨fun _ => ER.sb, ?_⟩
  refine d_q F rfl rfl rfl (by decide) (fun wq hS => r_fieldAddr F rfl ff_82_2) ER.sb fun a F => ?_
  refine d_e ?_
  refine o_eff0 F rfl rfl rfl (e_store F rfl rfl sz_3 hat25 (Nat.le_of_ble_eq_true rfl) rfl) ?_
  rintro w60 a ⟨E61, hat25, Z62⟩ F
  replace B := B.size Z62
  replace h9 := SL.ev h9 E61 (ne_z bj4.1) (ne_z bj4.1)
  replace h16 := AT.ev h16 E61 (ne_mp bj4.2)
  replace h27 := TR.ev h27 E61 (ne_z bj4.1) (ne_z bj4.1)
  replace h37 := SL.ev h37 E61 (ne_z bj4.1) (ne_z bj4.1)
  replace h43 := AT.ev h43 E61 (ne_mp bj4.2)
  replace E := E.trans E61 (fun x (q : x = j4) => Or.inl (q))
  replace hat25 : AT true j4 c55 w60 ad24 [.pointer p26, .int .i64 ob21.rev, .int .i64 (IntKind.i64.wrap (ob21.size - t53))] := hat25
  refine ⟨fun q => absurd rfl q, ?_⟩
  refine d_nil ?_
  exact J64 c55 w60 a ad24 p26 ob21 (IntKind.i64.wrap (ob21.size - t53)) rfl (F.sub ⟨rfl, rfl, rfl, rfl, trivial⟩) E B hat25 h16 h27 h9 H
 ·replace H := (if_neg hb50).symm.trans H
  refine wp_cond_false ((F.ev rfl).trans (congrArg Value.bool (bfalse hb50))) ?_
  refine wp_skip ?_
  exact J64 c39 w46 a ad24 p26 ob21 ob21.size rfl (F.sub ⟨rfl, rfl, rfl, rfl, trivial⟩) E B hat25 h16 h27 h9 H
end Go.Proofs.Ythankpjbfpcldaa.G
