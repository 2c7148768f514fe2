/- The row of 'ShardKnown', its '..UptoSaid': whatever the input of bulk at most 1048576, the law returns true and the input reads as it did; its condition: that bulk. -/
import Derived.Test.YthankpjbfpcldaaGreatHShardKnownA
import Derived.Test.YthankpjbfpcldaaGreatHShardKnownD
import Derived.Test.YthankpjbfpcldaaGreatHShardKnownB
import Derived.Test.YthankpjbfpcldaaGreatHShardKnownC
import Derived.Test.YthankpjbfpcldaaGreatRows
import Derived.Deep.Slices
import Derived.ChangeArms
import Derived.KernelRfl
import Derived.WalkKit
import Derived.ProofKit
import Derived.OpenShut
import Derived.JoinedCond
import Derived.Below
import Derived.ChangeOld
namespace Go.Proofs.YthankpjbfpcldaaGreat.G
open Go Go.RowKit
set_option linter.unusedVariables false
set_option linter.unusedSimpArgs false
set_option maxRecDepth 100000
set_option maxHeartbeats 40000000
theorem shard_Import.calls (k : Nat) {m : Nat} {c0 : Nat → Nat} {w0 : World} {A2 : Option Addr} {C3 : Nat} {a1 : List Int} (hm0 : 0 < m) (B0 : CB m c0 w0) (h4 : SL false (Kint .u8) 0 0 c0 w0 A2 C3 a1) (jr282 : Nat) (bjr282 : jr282 < m) (jr283 : Nat) (bjr283 : jr283 < m) (r : (Option Sha) × Int) (H : shard_Import.f k a1 = some r) : Calls Tryz.prog 17 #[.slice A2 a1.length C3] w0 (fun e w_ => ∃ (c_ : Nat → Nat) (P0_ : Option Addr), e = .returned (.tuple #[.pointer P0_, .int .i64 r.2]) ∧ Ev (fun x => False) c0 w0 c_ w_ ∧ CB m c_ w_ ∧ SH jr282 jr283 c_ w_ P0_ r.1) := by
 unfold shard_Import.f at H
 have B := B0.mono (show m ≤ m + 6 by omega)
 have E : Ev (fun x => False ∨ m ≤ x) c0 w0 c0 w0 := Ev.refl
 refine enter (N := 77) (l := [.slice A2 a1.length C3]) Tryz.func17 rfl rfl (nb rfl) fun a F => ?_
 refine wp_seq_k fun K5 hK5 => reg ?_
 refine qa F fun a F => ?_
 refine qa F fun a F => ?_
 refine nil (hK5 _ _ ?_)
 refine wp_seq_k fun K6 hK6 => ?_
 refine wp_seq_k fun K7 hK7 => reg ?_
 refine qm F fun a F => ?_
 refine qv F (r_lensl F Tryz.underlying27 rfl) fun a F => ?_
 refine qv F (r_gtr F rfl rfl) fun a F => ?_
 refine nil (hK7 _ _ ?_)
 by_cases hb8 : 262144 < (a1.length : Int)
 ·replace H := ip hb8 H
  refine wp_cond_true (fb F (dt hb8)) ?_
  refine wp_seq_k fun K9 hK9 => reg ?_
  refine qa F fun a F => ?_
  refine qa F fun a F => ?_
  refine nil (hK9 _ _ ?_)
  refine wp_ret ?_
  as_aux_lemma =>
  refine thenR ?_
  replace H := si H
  subst H
  refine out2 F rfl rfl rfl ?_
  exact ⟨cf (fun x_ => if x_ = m + 3 then jr282 else if x_ = m + 2 then jr283 else if x_ < m then x_ else 0) c0, none, rfl, E.lv B0, cfb, SH.nil⟩
 replace H := im hb8 H
 refine wp_cond_false (fb F (dz hb8)) (wp_skip (hK6 _ _ ?_))
 refine wp_seq_k fun K10 hK10 => reg ?_
 refine qm F fun a F => ?_
 obtain ⟨t11, q12, H⟩ := bind_some H
 refine qc F Tryz.func64 (parcel_Read.calls (m := m + 6) (pl hm0) B h4 (by omega) (m + 1) lm _ q12) ?_
 rintro e w14 ⟨c13, p17, rfl, E15, B16, h18⟩
 refine ⟨_, rfl, fun a F => ?_⟩
 have B := B16
 replace E := E.trans E15 nx
 refine qa F fun a F => ?_
 refine nil (hK10 _ _ ?_)
 replace F : Fr a 77 [(4, .pointer p17)] := F.sub ⟨rfl, trivial⟩
 refine wp_seq_k fun K20 hK20 => reg ?_
 refine qm F fun a F => ?_
 obtain ⟨t21, q22, H⟩ := bind_some H
 refine qc F Tryz.func66 (parcel_Reader_Text.calls (m := m + 6) (pl hm0) B h18 (by omega) 0 (pl hm0) _ q22) ?_
 rintro e w24 ⟨c23, A27, C28, rfl, E25, B26, h29, h30⟩
 as_aux_lemma =>
 refine ⟨_, rfl, fun a F => ?_⟩
 have B := B26
 replace E := E.trans E25 lc1
 obtain ⟨t32, q33, H⟩ := bind_some H
 refine qc F Tryz.func65 (table_Read.calls k (m := m + 6) (pl hm0) B h29.r (pl hm0) (m + 2) lm _ q33) ?_
 rintro e w35 ⟨c34, p38, rfl, E36, B37, h39⟩
 refine ⟨_, rfl, fun a F => ?_⟩
 have B := B37
 replace h30 := h30.ev E36 nq nq
 replace E := E.trans E36 nx
 refine qm F fun a F => ?_
 refine qv F (r_extract F rfl rfl) fun a F => ?_
 refine qv F (r_extract F rfl rfl) fun a F => ?_
 refine qa F fun a F => ?_
 refine qa F fun a F => ?_
 refine nil (hK20 _ _ ?_)
 refine wp_seq_k fun K41 hK41 => ?_
 refine wp_seq_k fun K42 hK42 => reg ?_
 refine qm F fun a F => ?_
 refine qv F (r_neq F rfl rfl) fun a F => ?_
 refine nil (hK42 _ _ ?_)
 replace F : Fr a 77 [(4, .pointer p17), (5, .pointer p38), (25, .bool (!decide (t32.2 = 0)))] := F.sub ⟨rfl, rfl, rfl, trivial⟩
 by_cases hb43 : t32.2 = 0
 ·replace H := ip hb43 H
  as_aux_lemma =>
  refine wp_cond_false (fb F (congrArg not (dt hb43))) (wp_skip (hK41 _ _ ?_))
  refine wp_seq_k fun K45 hK45 => reg ?_
  refine qm F fun a F => ?_
  have h46 : AR K_api_Seat 0 c34 w35 ((List.replicate 16 ([.int .i64 0, .int .i64 0, .bool false, .slice none 0 0, .slice none 0 0, .int .i64 0, .int .i64 0] : List Value)).flatten) 16 (List.replicate 16 (api_Seat.mk 0 0 (api_Answer.mk false [] [] 0 0) : api_Seat)) := AR.zero (by exact ⟨none, 0, none, 0, rfl, SL.nil, SL.nil⟩) 16
  refine qv F (r_build (v := .agg (([.pointer p38] : List Value) ++ (((List.replicate 16 ([.int .i64 0, .int .i64 0, .bool false, .slice none 0 0, .slice none 0 0, .int .i64 0, .int .i64 0] : List Value)).flatten) ++ (([] : List Value)))).toArray) F [(0, .pointer p38)] (by exact ⟨rfl, rfl, trivial⟩) (fun w => by kernel_rfl)) fun a F => ?_
  refine q_eff F rfl rfl (by decide) (e_box F (v := .agg (([.pointer p38] : List Value) ++ (((List.replicate 16 ([.int .i64 0, .int .i64 0, .bool false, .slice none 0 0, .slice none 0 0, .int .i64 0, .int .i64 0] : List Value)).flatten) ++ (([] : List Value)))).toArray) rfl c34 (m + 3)) ?_
  rintro v w48 a ⟨c47, qa49, rfl, E50, h51, B52⟩ F
  replace B := B52 _ B lm
  replace h30 := h30.ev E50 nq nq
  replace h39 := h39.ev E50 nq nq
  replace h46 := h46.ev E50 nq
  replace E := E.trans E50 nx
  replace h51 : AT true (m + 3) c47 w48 qa49 (([.pointer p38] : List Value) ++ (((List.replicate 16 ([.int .i64 0, .int .i64 0, .bool false, .slice none 0 0, .slice none 0 0, .int .i64 0, .int .i64 0] : List Value)).flatten) ++ (([] : List Value)))) := h51
  refine qa F fun a F => ?_
  refine nil (hK45 _ _ ?_)
  refine wp_seq_k fun K54 hK54 => reg ?_
  refine qm F fun a F => ?_
  obtain ⟨t55, q56, H⟩ := bind_some H
  refine qc F Tryz.func67 (parcel_Reader_Num.calls (m := m + 6) (pl hm0) B h30 (by omega) _ q56) ?_
  rintro e w58 ⟨c57, rfl, E59, B60, h61⟩
  refine ⟨_, rfl, fun a F => ?_⟩
  have B := B60
  as_aux_lemma =>
  replace h39 := h39.ev E59 mm ne_zm
  replace h46 := h46.ev E59 ne_zm
  replace h51 := h51.ev E59 mm
  replace E := E.trans E59 lc1
  refine qa F fun a F => ?_
  refine nil (hK54 _ _ ?_)
  refine wp_seq_k fun K63 hK63 => ?_
  refine wp_seq_k fun K64 hK64 => reg ?_
  refine qm F fun a F => ?_
  refine qv F (r_gtr F rfl rfl) fun a F => ?_
  refine nil (hK64 _ _ ?_)
  by_cases hb65 : 16 < t55.1
  ·replace H := ip hb65 H
   refine wp_cond_true (fb F (dt hb65)) ?_
   refine wp_seq_k fun K66 hK66 => reg ?_
   refine qa F fun a F => ?_
   refine qa F fun a F => ?_
   refine nil (hK66 _ _ ?_)
   replace F : Fr a 77 [(2, .pointer none), (3, .int .i64 140)] := F.sub ⟨rfl, rfl, trivial⟩
   refine wp_ret ?_
   refine thenR ?_
   replace H := si H
   subst H
   as_aux_lemma =>
   refine out2 F rfl rfl rfl ?_
   exact ⟨cf (fun x_ => if x_ = m + 3 then jr282 else if x_ = m + 2 then jr283 else if x_ < m then x_ else 0) c57, none, rfl, E.lv B0, cfb, SH.nil⟩
  replace H := im hb65 H
  refine wp_cond_false (fb F (dz hb65)) (wp_skip (hK63 _ _ ?_))
  replace F : Fr a 77 [(4, .pointer p17), (5, .pointer p38), (7, .pointer (some qa49)), (8, .int .u64 t55.1)] := F.sub ⟨rfl, rfl, rfl, rfl, trivial⟩
  refine wp_seq_k fun K67 hK67 => reg ?_
  refine qa F fun a F => ?_
  refine nil (hK67 _ _ ?_)
  refine wp_seq_k fun K68 hK68 => reg ?_
  refine q_eff F rfl rfl (by decide) (e_makeMap (q := .i64) (K := 3) (emb := Value.bool) F c57 (m + 4) (fun w => by kernel_rfl)) ?_
  rintro v w70 a ⟨c69, qa71, rfl, E72, h73, B74⟩ F
  replace B := B74 _ B lm
  replace h39 := h39.ev E72 nq nq
  replace h46 := h46.ev E72 nq
  replace h51 := h51.ev E72 nq
  replace h61 := h61.ev E72 nq nq
  replace E := E.trans E72 nx
  replace h73 : MU112 (m + 4) c69 w70 (some qa71) (MpV.mk (fun _ => none) 0) := h73
  refine qa F fun a F => ?_
  refine nil (hK68 _ _ ?_)
  refine wp_seq_k fun K75 hK75 => ?_
  refine wp_seq_k fun K76 hK76 => reg ?_
  as_aux_lemma =>
  refine qm F fun a F => ?_
  refine qm F fun a F => ?_
  refine nil (hK76 _ _ ?_)
  refine wp_block ?_
  obtain ⟨x183, HL, HR182⟩ := bind_some H
  have J266 : ∀ (c267 : Nat → Nat) (w268 : World) (a : Act) (o262 : Option Rdr) (l264 : List api_Seat) (cs265 : List Value), Fr a 77 [(4, .pointer p17), (7, .pointer (some qa49))] → Ev (fun x => False ∨ m ≤ x) c0 w0 c267 w268 → CB (m + 6) c267 w268 → AT true (m + 3) c267 w268 qa49 (([.pointer p38] : List Value) ++ (cs265 ++ (([] : List Value)))) → TB (m + 2) c267 w268 p38 t32.1 → RD (m + 1) c267 w268 p17 o262 → AR K_api_Seat 0 c267 w268 cs265 16 l264 → shard_Import.j4 t32 o262 l264 = some r → K75 a w268 := by
   intro c267 w268 a o262 l264 cs265 F E B h51 h39 h261 h263 H
   unfold shard_Import.j4 at H
   refine hK75 _ _ ?_
   refine wp_seq_k fun K269 hK269 => ?_
   refine wp_seq_k fun K270 hK270 => reg ?_
   refine qm F fun a F => ?_
   obtain ⟨t271, q272, H⟩ := bind_some H
   refine qc F Tryz.func70 (parcel_Reader_Done.calls (m := m + 6) (pl hm0) B h261 lm _ q272) ?_
   rintro e w274 ⟨c273, rfl, E275, B276⟩
   refine ⟨_, rfl, fun a F => ?_⟩
   have B := B276
   replace h51 := h51.ev E275 nq
   replace h39 := h39.ev E275 nq nq
   replace h263 := h263.ev E275 nq
   replace E := E.trans E275 nx
   refine qv F (r_neq F rfl rfl) fun a F => ?_
   as_aux_lemma =>
   refine nil (hK270 _ _ ?_)
   by_cases hb278 : t271 = 0
   ·replace H := ip hb278 H
    refine wp_cond_false (fb F (congrArg not (dt hb278))) (wp_skip (hK269 _ _ ?_))
    refine wp_seq_k fun K280 hK280 => reg ?_
    refine qm F fun a F => ?_
    refine qa F fun a F => ?_
    refine qa F fun a F => ?_
    refine nil (hK280 _ _ ?_)
    refine wp_ret ?_
    have h281 : SH (m + 3) (m + 2) c273 w274 (some qa49) (some (Sha.mk t32.1 l264)) := SH.mk h51 h39 h263
    replace H := si H
    subst H
    refine out2 F rfl rfl rfl ?_
    exact ⟨cf (fun x_ => if x_ = m + 3 then jr282 else if x_ = m + 2 then jr283 else if x_ < m then x_ else 0) c273, (some qa49), rfl, E.lv B0, cfb, SH.rc h281 cfk cfk cfk⟩
   replace H := im hb278 H
   refine wp_cond_true (fb F (congrArg not (dz hb278))) ?_
   refine wp_seq_k fun K279 hK279 => reg ?_
   refine qa F fun a F => ?_
   refine qa F fun a F => ?_
   refine nil (hK279 _ _ ?_)
   refine wp_ret ?_
   refine thenR ?_
   as_aux_lemma =>
   replace H := si H
   subst H
   refine out2 F rfl rfl rfl ?_
   exact ⟨cf (fun x_ => if x_ = m + 3 then jr282 else if x_ = m + 2 then jr283 else if x_ < m then x_ else 0) c273, none, rfl, E.lv B0, cfb, SH.nil⟩
  refine loop_fuel (I := fun n a w => ∃ (o165 : Option Rdr) (i166 : Int) (o169 : MpV Bool) (i170 : Int) (l173 : List api_Seat) (cs171 : List Value) (c : Nat → Nat), Fr a 77 [(4, .pointer p17), (5, .pointer p38), (7, .pointer (some qa49)), (9, .int .i64 i166), (10, .map (Option.map Addr.block (some qa71))), (34, .int .u64 t55.1), (35, .int .u64 i170)] ∧ Ev (fun x => False ∨ m ≤ x) c0 w0 c w ∧ CB (m + 6) c w ∧ AT true (m + 3) c w qa49 (([.pointer p38] : List Value) ++ (cs171 ++ (([] : List Value)))) ∧ TB (m + 2) c w p38 t32.1 ∧ RD (m + 1) c w p17 o165 ∧ MU112 (m + 4) c w (some qa71) o169 ∧ AR K_api_Seat 0 c w cs171 16 l173 ∧ loop (fun (s_ : (Option Rdr) × Int × (MpV Bool) × Int × (List api_Seat)) => shard_Import.b3 t32 t55 s_.1 s_.2.1 s_.2.2.1 s_.2.2.2.1 s_.2.2.2.2) n (o165, i166, o169, i170, l173) = some x183) (k := k) ⟨t55.2, (-1), (MpV.mk (fun _ => none) 0), 0, (List.replicate 16 (api_Seat.mk 0 0 (api_Answer.mk false [] [] 0 0) : api_Seat)), ((List.replicate 16 ([.int .i64 0, .int .i64 0, .bool false, .slice none 0 0, .slice none 0 0, .int .i64 0, .int .i64 0] : List Value)).flatten), c69, F.sub ⟨rfl, rfl, rfl, rfl, rfl, rfl, rfl, trivial⟩, E, B, h51, h39, h61, h73, h46, HL⟩ ?_
  clear HL H E F B
  intro n180 X176 hX176 a w175 ⟨o165, i166, o169, i170, l173, cs171, c174, F, E, B, h51, h39, h164, h168, h172, HL⟩
  obtain ⟨n181, ctl179, rfl, HB, HN177, HD178⟩ := loop_some HL
  have H : shard_Import.b3 t32 t55 o165 i166 o169 i170 l173 = some ctl179 := HB
  clear HB HL
  unfold shard_Import.b3 at H
  refine wp_seq_k fun K184 hK184 => reg ?_
  refine qv F (r_lss F rfl rfl) fun a F => ?_
  refine nil (hK184 _ _ ?_)
  refine wp_seq_k fun K185 hK185 => ?_
  by_cases hb186 : i170 < t55.1
  ·replace H := ip hb186 H
   refine wp_cond_true (fb F (dt hb186)) (wp_skip (hK185 _ _ ?_))
   refine wp_seq_k fun K187 hK187 => ?_
   refine wp_block ?_
   refine wp_seq_k fun K188 hK188 => reg ?_
   refine qm F fun a F => ?_
   refine qm F fun a F => ?_
   obtain ⟨t94, q95, H⟩ := bind_some H
   as_aux_lemma =>
   refine qc F Tryz.func69 (table_Table_Rev.calls (m := m + 6) (pl hm0) B h39 lm _ q95) ?_
   rintro e w190 ⟨c189, rfl, E191, B192⟩
   refine ⟨_, rfl, fun a F => ?_⟩
   have B := B192
   replace h51 := h51.ev E191 nq
   replace h39 := h39.ev E191 nq nq
   replace h164 := h164.ev E191 nq nq
   replace h168 := h168.ev E191 nq nq
   replace h172 := h172.ev E191 nq
   replace E := E.trans E191 nx
   obtain ⟨t101, q102, H⟩ := bind_some H
   refine qc F Tryz.func68 (shard_readSeat.calls (m := m + 6) (pl hm0) B h164 ⟨(pl hm0), lm⟩ _ q102) ?_
   rintro e w195 ⟨c194, A198, C199, A201, C202, rfl, E196, B197, h200, h203, h204⟩
   refine ⟨_, rfl, fun a F => ?_⟩
   have B := B197
   replace h51 := h51.ev E196 mm
   replace h39 := h39.ev E196 mm ne_zm
   replace h168 := h168.ev E196 mm ne_zm
   replace h172 := h172.ev E196 ne_zm
   replace E := E.trans E196 lc1
   refine qm F fun a F => ?_
   refine qv F (r_extract F rfl rfl) fun a F => ?_
   as_aux_lemma =>
   refine qv F (r_extract F rfl rfl) fun a F => ?_
   refine q_eff F rfl rfl (by decide) (e_alloc F zv_60 c194 (m + 5)) ?_
   rintro v w207 a ⟨c206, qa117, rfl, E208, h119, B209⟩ F
   replace B := B209 _ B lm
   replace h51 := h51.ev E208 nq
   replace h39 := h39.ev E208 nq nq
   replace h168 := h168.ev E208 nq nq
   replace h172 := h172.ev E208 nq
   replace h200 := h200.ev E208 nq nq
   replace h203 := h203.ev E208 nq nq
   replace h204 := h204.ev E208 nq nq
   replace E := E.trans E208 nx
   replace h119 : AT true (m + 5) c206 w207 qa117 [.int .i64 0, .int .i64 0, .bool false, .slice none 0 0, .slice none 0 0, .int .i64 0, .int .i64 0] := h119
   refine q_eff0 F rfl rfl (e_storeN0 (us := [.int .i64 t101.1.Client, .int .i64 t101.1.Seq, .bool t101.1.Answer.Done, .slice A198 t101.1.Answer.Key.length C199, .slice A201 t101.1.Answer.Value.length C202, .int .i64 t101.1.Answer.Rev, .int .i64 t101.1.Answer.At]) F rfl rfl sz_60 h119 (nb rfl) (one_all rfl)) ?_
   rintro w210 a ⟨E211, h119, Z212⟩ F
   replace B := B.size Z212
   replace h51 := h51.ev E211 mm
   replace h39 := h39.ev E211 mm ne_zm
   replace h168 := h168.ev E211 mm ne_zm
   replace h172 := h172.ev E211 ne_zm
   replace h200 := h200.ev E211 ne_zm ne_zm
   replace h203 := h203.ev E211 ne_zm ne_zm
   as_aux_lemma =>
   replace h204 := h204.ev E211 mm ne_zm
   replace E := E.trans E211 lc1
   replace h119 : AT true (m + 5) c206 w210 qa117 [.int .i64 t101.1.Client, .int .i64 t101.1.Seq, .bool t101.1.Answer.Done, .slice A198 t101.1.Answer.Key.length C199, .slice A201 t101.1.Answer.Value.length C202, .int .i64 t101.1.Answer.Rev, .int .i64 t101.1.Answer.At] := h119
   refine qa F fun a F => ?_
   refine nil (hK188 _ _ ?_)
   replace F : Fr a 77 [(4, .pointer p17), (5, .pointer p38), (7, .pointer (some qa49)), (9, .int .i64 i166), (10, .map (Option.map Addr.block (some qa71))), (11, .pointer (some qa117)), (12, .bool t101.2.1), (34, .int .u64 t55.1), (35, .int .u64 i170)] := F.sub ⟨rfl, rfl, rfl, rfl, rfl, rfl, rfl, rfl, rfl, trivial⟩
   refine wp_seq_k fun K213 hK213 => ?_
   refine wp_seq_k fun K214 hK214 => ?_
   have J219 : ∀ (c220 : Nat → Nat) (w221 : World) (a : Act) (b218 : Bool), Fr a 77 [(4, .pointer p17), (5, .pointer p38), (7, .pointer (some qa49)), (10, .map (Option.map Addr.block (some qa71))), (11, .pointer (some qa117)), (34, .int .u64 t55.1), (35, .int .u64 i170), (58, .bool b218)] → Ev (fun x => False ∨ m ≤ x) c0 w0 c220 w221 → CB (m + 6) c220 w221 → AT true (m + 3) c220 w221 qa49 (([.pointer p38] : List Value) ++ (cs171 ++ (([] : List Value)))) → AT true (m + 5) c220 w221 qa117 [.int .i64 t101.1.Client, .int .i64 t101.1.Seq, .bool t101.1.Answer.Done, .slice A198 t101.1.Answer.Key.length C199, .slice A201 t101.1.Answer.Value.length C202, .int .i64 t101.1.Answer.Rev, .int .i64 t101.1.Answer.At] → RD (m + 1) c220 w221 p17 t101.2.2 → TB (m + 2) c220 w221 p38 t32.1 → AR K_api_Seat 0 c220 w221 cs171 16 l173 → MU112 (m + 4) c220 w221 (some qa71) o169 → SL false (Kint .u8) 0 0 c220 w221 A198 C199 t101.1.Answer.Key → SL false (Kint .u8) 0 0 c220 w221 A201 C202 t101.1.Answer.Value → shard_Import.j2 t101 o169 i170 l173 b218 = some ctl179 → K214 a w221 := by
    intro c220 w221 a b218 F E B h51 h119 h204 h39 h172 h168 h200 h203 H
    unfold shard_Import.j2 at H
    refine hK214 _ _ ?_
    by_cases hb222 : b218 = true
    ·replace H := ip hb222 H
     refine wp_cond_true (fb F hb222) ?_
     refine wp_seq_k fun K223 hK223 => reg ?_
     refine qa F fun a F => ?_
     refine qa F fun a F => ?_
     refine nil (hK223 _ _ ?_)
     replace F : Fr a 77 [(2, .pointer none), (3, .int .i64 140)] := F.sub ⟨rfl, rfl, trivial⟩
     refine wp_ret ?_
     refine thenR ?_
     refine inbR ?_
     as_aux_lemma =>
     refine thenR ?_
     refine thenR ?_
     refine inbR ?_
     refine thenR ?_
     have hx_ := HD178 _ (si H).symm
     have H := HR182
     rw [← hx_] at H
     replace H : some (none, 140) = some r := H
     replace H := si H
     subst H
     refine out2 F rfl rfl rfl ?_
     exact ⟨cf (fun x_ => if x_ = m + 3 then jr282 else if x_ = m + 2 then jr283 else if x_ < m then x_ else 0) c220, none, rfl, E.lv B0, cfb, SH.nil⟩
    replace H := im hb222 H
    refine wp_cond_false (fb F (bfalse hb222)) (wp_skip (hK213 _ _ ?_))
    refine wp_seq_k fun K224 hK224 => ?_
    refine regD (SB No c220 w221) 7 (.q 0 (.q 1 (.q 2 (.q 3 (.q 4 (.q 5 (.q 6 (.e 7 .nil)))))))) Tryz_hm (by decide +kernel) ?_
    intro w225 w1_ w2_ w3_ w4_
    have E226 : Ev No c220 w221 c220 w225 := Ev.same w1_ w2_ w3_ w4_
    replace B := B.same w1_
    have zh51 := h51
    have zh119 := h119
    have zh172 := h172
    have ER : Ev No c220 w221 c220 w225 := Ev.same w1_ w2_ w3_ w4_
    as_aux_lemma =>
    replace h51 := h51.ev E226 nq
    replace h119 := h119.ev E226 nq
    replace h204 := h204.ev E226 nq nq
    replace h39 := h39.ev E226 nq nq
    replace h172 := h172.ev E226 nq
    replace h168 := h168.ev E226 nq nq
    replace h200 := h200.ev E226 nq nq
    replace h203 := h203.ev E226 nq nq
    replace E := E.trans E226 nx
    refine dm F ER.sb fun a F => ?_
    refine df F ff_60_2 ER.sb fun a F => ?_
    refine dq F (fun wq hS => r_fieldAddr2 F h119 rfl ff_32_4) ER.sb fun a F => ?_
    refine dq F (fun wq hS => r_load F rfl ag_3 (AT.cell (AT.sb zh119 hS nq) rfl)) ER.sb fun a F => ?_
    refine df F ff_60_0 ER.sb fun a F => ?_
    refine dq F (fun wq hS => r_load F rfl ag_3 (AT.cell (AT.sb zh119 hS nq) rfl)) ER.sb fun a F => ?_
    refine da F ER.sb fun a F => ?_
    refine d_e ?_
    replace H := ifN H
    obtain ⟨g139, H⟩ := H
    refine o_eff0 F rfl rfl rfl (e_mapUpdate (z := true) F Tryz.underlying3 Tryz.underlying112 rfl rfl rfl h168 g139.1 (n_ok g139.2)) ?_
    rintro w227 a ⟨E228, h229, Z230⟩ F
    replace B := B.size Z230
    as_aux_lemma =>
    replace h51 := h51.ev E228 mm
    replace h119 := h119.ev E228 mm
    replace h204 := h204.ev E228 mm ne_zm
    replace h39 := h39.ev E228 mm ne_zm
    replace h172 := h172.ev E228 ne_zm
    replace h200 := h200.ev E228 ne_zm ne_zm
    replace h203 := h203.ev E228 ne_zm ne_zm
    replace E := E.trans E228 lc1
    replace h229 : MU112 (m + 4) c220 w227 (some qa71) (MpV.mk (fun i_ => if i_ = t101.1.Answer.At then some true else o169.f i_) (o169.n + 1)) := h229
    refine ⟨fun q => absurd rfl q, ?_⟩
    refine d_nil ?_
    refine hK224 _ _ ?_
    refine regD (SB No c220 w227) 7 (.q 0 (.q 1 (.q 2 (.q 3 (.e 4 (.e 5 (.q 6 (.e 7 .nil)))))))) Tryz_hm (by decide +kernel) ?_
    intro w231 w1_ w2_ w3_ w4_
    have E232 : Ev No c220 w227 c220 w231 := Ev.same w1_ w2_ w3_ w4_
    replace B := B.same w1_
    have zh51 := h51
    have zh119 := h119
    have zh172 := h172
    have ER : Ev No c220 w227 c220 w231 := Ev.same w1_ w2_ w3_ w4_
    replace h51 := h51.ev E232 nq
    replace h204 := h204.ev E232 nq nq
    as_aux_lemma =>
    replace h39 := h39.ev E232 nq nq
    replace h172 := h172.ev E232 nq
    replace h200 := h200.ev E232 nq nq
    replace h203 := h203.ev E232 nq nq
    replace h229 := h229.ev E232 nq nq
    replace E := E.trans E232 nx
    refine dm F ER.sb fun a F => ?_
    refine df F ff_60_0 ER.sb fun a F => ?_
    refine dq F (fun wq hS => r_load F rfl ag_3 (AT.cell (AT.sb zh119 hS nq) rfl)) ER.sb fun a F => ?_
    refine dq F (fun wq hS => r_loads (cs := [.int .i64 t101.1.Client, .int .i64 t101.1.Seq, .bool t101.1.Answer.Done, .slice A198 t101.1.Answer.Key.length C199, .slice A201 t101.1.Answer.Value.length C202, .int .i64 t101.1.Answer.Rev, .int .i64 t101.1.Answer.At]) F rfl ag_60 sz_60 (AT.sb zh119 hS nq)) ER.sb fun a F => ?_
    refine d_e ?_
    refine o_val F rfl rfl rfl (by decide) (r_nil F rfl) fun a F => ?_
    refine ⟨fun _ => ER.sb, ?_⟩
    refine d_e ?_
    refine o_val F rfl rfl rfl (by decide) (r_fieldAddr F rfl ff_80_1) fun a F => ?_
    refine ⟨fun _ => ER.sb, ?_⟩
    replace H := ifN H
    obtain ⟨g233, H⟩ := H
    obtain ⟨cs235, h236, r237⟩ := AR.at (off := 1) zh51 rfl zh172 t101.1.Client g233.1 (by have g_ := g233.2; omega)
    obtain ⟨A239, C240, A242, C243, rfl, h241, h244⟩ := r237
    obtain ⟨qa238, qqa238⟩ : ∃ q, q = (qa49.add (1 + t101.1.Client.toNat * 7)) := ⟨_, rfl⟩
    have h236 : AT true (m + 3) c220 w227 qa238 [.int .i64 ((rd l173 t101.1.Client).Client), .int .i64 ((rd l173 t101.1.Client).Seq), .bool (((rd l173 t101.1.Client).Answer).Done), .slice A239 (((rd l173 t101.1.Client).Answer).Key).length C240, .slice A242 (((rd l173 t101.1.Client).Answer).Value).length C243, .int .i64 (((rd l173 t101.1.Client).Answer).Rev), .int .i64 (((rd l173 t101.1.Client).Answer).At)] := by rw [qqa238]; exact h236
    as_aux_lemma =>
    replace h236 := h236.ev ER nq
    refine dq F (fun wq hS => r_indexArr3 F ua_78 sz_60 rfl rfl g233.1 (by have g_ := g233.2; omega) h51 qqa238) ER.sb fun a F => ?_
    refine d_e ?_
    refine o_eff0 F rfl rfl rfl (e_storearN (us := [.int .i64 t101.1.Client, .int .i64 t101.1.Seq, .bool t101.1.Answer.Done, .slice A198 t101.1.Answer.Key.length C199, .slice A201 t101.1.Answer.Value.length C202, .int .i64 t101.1.Answer.Rev, .int .i64 t101.1.Answer.At]) F rfl rfl sz_60 h51 rfl h172 (m := t101.1.Client.toNat) (by have g_ := g233; omega) qqa238 h236 rfl (nb rfl) (one_all rfl) t101.1 ⟨A198, C199, A201, C202, rfl, (SL.fl h200 (fun q => q)), (SL.fl h203 (fun q => q))⟩ ne_zm) ?_
    rintro w246 a ⟨cs249, E247, h51, h172, Z248⟩ F
    replace B := B.size Z248
    replace h204 := h204.ev E247 mm ne_zm
    replace h39 := h39.ev E247 mm ne_zm
    replace h229 := h229.ev E247 mm ne_zm
    replace E := E.trans E247 lc1
    replace h51 : AT true (m + 3) c220 w246 qa49 (([.pointer p38] : List Value) ++ (cs249 ++ (([] : List Value)))) := h51
    refine ⟨fun q => absurd rfl q, ?_⟩
    refine d_nil ?_
    refine hK187 _ _ ?_
    replace F : Fr a 77 [(4, .pointer p17), (5, .pointer p38), (7, .pointer (some qa49)), (9, .int .i64 t101.1.Client), (10, .map (Option.map Addr.block (some qa71))), (34, .int .u64 t55.1), (35, .int .u64 i170)] := F.sub ⟨rfl, rfl, rfl, rfl, rfl, rfl, rfl, trivial⟩
    refine reg ?_
    refine qv F (r_add F rfl rfl) fun a F => ?_
    refine qm F fun a F => ?_
    refine nil ?_
    replace H := HN177 _ (si H).symm
    exact hX176 _ _ _ (Nat.lt_succ_self _) ⟨t101.2.2, t101.1.Client, (MpV.mk (fun i_ => if i_ = t101.1.Answer.At then some true else o169.f i_) (o169.n + 1)), (IntKind.u64.wrap (i170 + 1)), (l173.set t101.1.Client.toNat t101.1), cs249, c220, F.sub ⟨rfl, rfl, rfl, rfl, rfl, rfl, rfl, trivial⟩, E, B, h51, h39, h204, h229, h172, H⟩
   refine reg ?_
   as_aux_lemma =>
   refine qm F fun a F => ?_
   refine qv F (r_not F rfl) fun a F => ?_
   refine qm F fun a F => ?_
   by_cases hb215 : t101.2.1 = true
   ·replace H := ip hb215 H
    refine qy F (congrArg not hb215) ?_
    refine qf F ff_60_0 fun a F => ?_
    refine qy F (congrArg not hb215) ?_
    refine qv F (r_load F rfl ag_3 (AT.cell h119 rfl)) fun a F => ?_
    refine qy F (congrArg not hb215) ?_
    refine qm F fun a F => ?_
    refine qy F (congrArg not hb215) ?_
    refine qv F (r_leq F rfl rfl) fun a F => ?_
    refine qv F (r_pick_f F rfl (congrArg not hb215) rfl) fun a F => ?_
    refine qm F fun a F => ?_
    by_cases hb216 : t101.1.Client ≤ i166
    ·replace H := ip hb216 H
     refine qn F (dt hb216) fun a F => ?_
     refine qn F (dt hb216) fun a F => ?_
     refine qn F (dt hb216) fun a F => ?_
     refine qn F (dt hb216) fun a F => ?_
     refine qn F (dt hb216) fun a F => ?_
     refine qv F (r_pick_t F rfl (dt hb216) rfl) fun a F => ?_
     refine nil ?_
     exact J219 c206 w210 a true (F.sub ⟨rfl, rfl, rfl, rfl, rfl, rfl, rfl, rfl, trivial⟩) E B h51 h119 h204 h39 h172 h168 h200 h203 H
    as_aux_lemma =>
    replace H := im hb216 H
    refine qy F (dz hb216) ?_
    refine qm F fun a F => ?_
    refine qy F (dz hb216) ?_
    refine qf F ff_60_2 fun a F => ?_
    refine qy F (dz hb216) ?_
    refine qv F (r_fieldAddr2 F h119 rfl ff_32_4) fun a F => ?_
    refine qy F (dz hb216) ?_
    refine qv F (r_load F rfl ag_3 (AT.cell h119 rfl)) fun a F => ?_
    replace H := ifN H
    obtain ⟨g217, H⟩ := H
    refine qy F (dz hb216) ?_
    refine qv F (r_lookupm (emb := Value.bool) (z := false) F Tryz.underlying3 Tryz.underlying112 (fun w => by kernel_rfl) rfl rfl h168 g217) fun a F => ?_
    refine qv F (r_pick_f F rfl (dz hb216) rfl) fun a F => ?_
    refine nil ?_
    exact J219 c206 w210 a ((o169.f t101.1.Answer.At).getD false) (F.sub ⟨rfl, rfl, rfl, rfl, rfl, rfl, rfl, rfl, trivial⟩) E B h51 h119 h204 h39 h172 h168 h200 h203 H
   replace H := im hb215 H
   refine qn F (congrArg not (bfalse hb215)) fun a F => ?_
   refine qn F (congrArg not (bfalse hb215)) fun a F => ?_
   refine qn F (congrArg not (bfalse hb215)) fun a F => ?_
   refine qn F (congrArg not (bfalse hb215)) fun a F => ?_
   refine qv F (r_pick_t F rfl (congrArg not (bfalse hb215)) rfl) fun a F => ?_
   as_aux_lemma =>
   refine qm F fun a F => ?_
   refine qn F rfl fun a F => ?_
   refine qn F rfl fun a F => ?_
   refine qn F rfl fun a F => ?_
   refine qn F rfl fun a F => ?_
   refine qn F rfl fun a F => ?_
   refine qv F (r_pick_t F rfl rfl rfl) fun a F => ?_
   refine nil ?_
   exact J219 c206 w210 a true (F.sub ⟨rfl, rfl, rfl, rfl, rfl, rfl, rfl, rfl, trivial⟩) E B h51 h119 h204 h39 h172 h168 h200 h203 H
  replace H := im hb186 H
  refine wp_cond_false (fb F (dz hb186)) ?_
  refine wp_exit ?_
  refine thenE ?_
  refine thenE ?_
  refine inbE ?_
  have hx_ := HD178 _ (si H).symm
  have H := HR182
  rw [← hx_] at H
  exact J266 c174 w175 a o165 l173 cs171 (F.sub ⟨rfl, rfl, trivial⟩) E B h51 h39 h164 h172 H
 replace H := im hb43 H
 refine wp_cond_true (fb F (congrArg not (dz hb43))) ?_
 refine wp_seq_k fun K44 hK44 => reg ?_
 as_aux_lemma =>
 refine qa F fun a F => ?_
 refine qa F fun a F => ?_
 refine nil (hK44 _ _ ?_)
 refine wp_ret ?_
 refine thenR ?_
 replace H := si H
 subst H
 refine out2 F rfl rfl rfl ?_
 exact ⟨cf (fun x_ => if x_ = m + 3 then jr282 else if x_ = m + 2 then jr283 else if x_ < m then x_ else 0) c34, none, rfl, E.lv B0, cfb, SH.nil⟩
theorem shard_Shard_After.calls (k : Nat) {m : Nat} {c0 : Nat → Nat} {w0 : World} {j4 : Nat} {j5 : Nat} {p2 : Option Addr} {A9 : Option Addr} {C10 : Nat} {A12 : Option Addr} {C13 : Nat} {a1 : Option Sha} {a6 : Int} {a7 : Int} {a8 : api_Op} (hm0 : 0 < m) (B0 : CB m c0 w0) (h3 : SH j4 j5 c0 w0 p2 a1) (h11 : SL false (Kint .u8) 0 0 c0 w0 A9 C10 a8.Key) (h14 : SL false (Kint .u8) 0 0 c0 w0 A12 C13 a8.Value) (bj4 : j4 < m) (bj5 : j5 < m ∧ j5 ≠ j4) (r : Int × Int) (H : shard_Shard_After.f k a1 a6 a7 a8 = some r) : Calls Tryz.prog 27 #[.pointer p2, .int .i64 a6, .int .i64 a7, .agg #[.int .i64 a8.Kind, .slice A9 a8.Key.length C10, .slice A12 a8.Value.length C13, .int .i64 a8.Rev]] w0 (fun e w_ => ∃ (c_ : Nat → Nat), e = .returned (.tuple #[.int .i64 r.1, .int .i64 r.2]) ∧ Ev (fun x => False) c0 w0 c_ w_ ∧ CB m c_ w_) := by
 unfold shard_Shard_After.f at H
 have B := B0.mono (show m ≤ m + 5 by omega)
 have E : Ev (fun x => False ∨ m ≤ x) c0 w0 c0 w0 := Ev.refl
 refine enter (N := 27) (l := [.pointer p2, .int .i64 a6, .int .i64 a7, .agg #[.int .i64 a8.Kind, .slice A9 a8.Key.length C10, .slice A12 a8.Value.length C13, .int .i64 a8.Rev]]) Tryz.func27 rfl rfl (nb rfl) fun a F => ?_
 refine wp_seq_k fun K15 hK15 => reg ?_
 refine q_eff F rfl rfl (by decide) (e_box F (v := .agg #[.int .i64 a8.Kind, .slice A9 a8.Key.length C10, .slice A12 a8.Value.length C13, .int .i64 a8.Rev]) rfl c0 (m + 1)) ?_
 rintro v w17 a ⟨c16, qa18, rfl, E19, h20, B21⟩ F
 replace B := B21 _ B lm
 replace h3 := h3.ev E19 nq nq nq
 replace h11 := h11.ev E19 nq nq
 replace h14 := h14.ev E19 nq nq
 replace E := E.trans E19 nx
 replace h20 : AT true (m + 1) c16 w17 qa18 [.int .i64 a8.Kind, .slice A9 a8.Key.length C10, .slice A12 a8.Value.length C13, .int .i64 a8.Rev] := h20
 refine qa F fun a F => ?_
 refine qa F fun a F => ?_
 refine nil (hK15 _ _ ?_)
 refine wp_seq_k fun K23 hK23 => reg ?_
 refine qm F fun a F => ?_
 refine qm F fun a F => ?_
 refine qm F fun a F => ?_
 refine qv F (r_loads (cs := [.int .i64 a8.Kind, .slice A9 a8.Key.length C10, .slice A12 a8.Value.length C13, .int .i64 a8.Rev]) F rfl ag_29 sz_29 h20) fun a F => ?_
 obtain ⟨t24, q25, H⟩ := bind_some H
 refine qc F Tryz.func44 (shard_Shard_next.calls k (m := m + 5) (pl hm0) B h3 h11 h14 (Nat.lt_add_right _ bj4) ⟨(Nat.lt_add_right _ bj5.1), bj5.2⟩ (m + 2) lm (m + 3) lm _ q25) ?_
 rintro e w27 ⟨c26, p30, A32, C33, A35, C36, rfl, E28, B29, h31, h34, h37⟩
 refine ⟨_, rfl, fun a F => ?_⟩
 have B := B29
 replace h3 := h3.ev E28 nq nq nq
 replace E := E.trans E28 nx
 rcases hq39 : t24.1 with _ | o40
 ·replace H := (alc_none hq39).symm.trans H
  replace h31 := Eq.mp (alc_none hq39) h31
  replace h31 : p2 = p30 := Eq.symm h31
  subst h31
  refine qm F fun a F => ?_
  refine qv F (r_extract F rfl rfl) fun a F => ?_
  refine qv F (r_extract F rfl rfl) fun a F => ?_
  refine qv F (r_extract F rfl rfl) fun a F => ?_
  refine qv F (r_extract F rfl rfl) fun a F => ?_
  refine q_eff F rfl rfl (by decide) (e_alloc F zv_32 c26 (m + 4)) ?_
  rintro v w42 a ⟨c41, qa43, rfl, E44, h45, B46⟩ F
  replace B := B46 _ B lm
  replace h3 := h3.ev E44 nq nq nq
  replace E := E.trans E44 nx
  replace h45 : AT true (m + 4) c41 w42 qa43 [.bool false, .slice none 0 0, .slice none 0 0, .int .i64 0, .int .i64 0] := h45
  refine qa F fun a F => ?_
  refine q_eff0 F rfl rfl (e_storeN0 (us := [.bool t24.2.1.Done, .slice A32 t24.2.1.Key.length C33, .slice A35 t24.2.1.Value.length C36, .int .i64 t24.2.1.Rev, .int .i64 t24.2.1.At]) F rfl rfl sz_32 h45 (nb rfl) (one_all rfl)) ?_
  rintro w48 a ⟨E49, h45, Z50⟩ F
  replace B := B.size Z50
  replace h3 := h3.ev E49 (ne_pm bj4) (ne_pm bj5.1) ne_zm
  replace E := E.trans E49 lc1
  refine qa F fun a F => ?_
  refine qa F fun a F => ?_
  refine nil (hK23 _ _ ?_)
  replace F : Fr a 27 [(10, .pointer p2), (13, .int .i64 t24.2.2.2)] := F.sub ⟨rfl, rfl, trivial⟩
  refine wp_seq_k fun K58 hK58 => reg ?_
  refine qm F fun a F => ?_
  obtain ⟨t59, q60, H⟩ := bind_some H
  refine qc F Tryz.func25 (shard_Shard_Size.calls k (m := m + 5) (pl hm0) B h3 (Nat.lt_add_right _ bj4) ⟨(Nat.lt_add_right _ bj5.1), bj5.2⟩ _ q60) ?_
  rintro e w62 ⟨c61, rfl, E63, B64⟩
  refine ⟨_, rfl, fun a F => ?_⟩
  have B := B64
  replace E := E.trans E63 nx
  refine qm F fun a F => ?_
  refine qa F fun a F => ?_
  refine qa F fun a F => ?_
  refine nil (hK58 _ _ ?_)
  refine wp_ret ?_
  replace H := si H
  subst H
  refine out2 F rfl rfl rfl ?_
  exact ⟨cf (fun x_ => if x_ < m then x_ else 0) c61, rfl, E.lv B0, cfb⟩
 replace H := (alc_some hq39).symm.trans H
 replace h31 := Eq.mp (alc_some hq39) h31
 refine qm F fun a F => ?_
 refine qv F (r_extract F rfl rfl) fun a F => ?_
 refine qv F (r_extract F rfl rfl) fun a F => ?_
 refine qv F (r_extract F rfl rfl) fun a F => ?_
 refine qv F (r_extract F rfl rfl) fun a F => ?_
 refine q_eff F rfl rfl (by decide) (e_alloc F zv_32 c26 (m + 4)) ?_
 rintro v w52 a ⟨c51, qa43, rfl, E53, h45, B54⟩ F
 replace B := B54 _ B lm
 replace h31 := h31.ev E53 nq nq nq
 replace E := E.trans E53 nx
 replace h45 : AT true (m + 4) c51 w52 qa43 [.bool false, .slice none 0 0, .slice none 0 0, .int .i64 0, .int .i64 0] := h45
 refine qa F fun a F => ?_
 refine q_eff0 F rfl rfl (e_storeN0 (us := [.bool t24.2.1.Done, .slice A32 t24.2.1.Key.length C33, .slice A35 t24.2.1.Value.length C36, .int .i64 t24.2.1.Rev, .int .i64 t24.2.1.At]) F rfl rfl sz_32 h45 (nb rfl) (one_all rfl)) ?_
 rintro w55 a ⟨E56, h45, Z57⟩ F
 replace B := B.size Z57
 replace h31 := h31.ev E56 mm mm ne_zm
 replace E := E.trans E56 lc1
 refine qa F fun a F => ?_
 refine qa F fun a F => ?_
 refine nil (hK23 _ _ ?_)
 replace F : Fr a 27 [(10, .pointer p30), (13, .int .i64 t24.2.2.2)] := F.sub ⟨rfl, rfl, trivial⟩
 refine wp_seq_k fun K66 hK66 => reg ?_
 refine qm F fun a F => ?_
 obtain ⟨t59, q60, H⟩ := bind_some H
 refine qc F Tryz.func25 (shard_Shard_Size.calls k (m := m + 5) (pl hm0) B h31 lm ⟨lm, mm⟩ _ q60) ?_
 rintro e w68 ⟨c67, rfl, E69, B70⟩
 refine ⟨_, rfl, fun a F => ?_⟩
 have B := B70
 replace E := E.trans E69 nx
 refine qm F fun a F => ?_
 refine qa F fun a F => ?_
 refine qa F fun a F => ?_
 refine nil (hK66 _ _ ?_)
 refine wp_ret ?_
 replace H := si H
 subst H
 refine out2 F rfl rfl rfl ?_
 exact ⟨cf (fun x_ => if x_ < m then x_ else 0) c67, rfl, E.lv B0, cfb⟩
theorem table_Table_Rows.calls {m : Nat} {c0 : Nat → Nat} {w0 : World} {j4 : Nat} {p2 : Option Addr} {a1 : Option Tab} (hm0 : 0 < m) (B0 : CB m c0 w0) (h3 : TB j4 c0 w0 p2 a1) (bj4 : j4 < m) (jr246 : Nat) (bjr246 : jr246 < m) (r : (List api_Row)) (H : table_Table_Rows.f a1 = some r) : Calls Tryz.prog 93 #[.pointer p2] w0 (fun e w_ => ∃ (c_ : Nat → Nat) (A0_ : Option Addr) (C0_ : Nat), e = .returned (.slice A0_ r.length C0_) ∧ Ev (fun x => False) c0 w0 c_ w_ ∧ CB m c_ w_ ∧ SL true K_api_Row jr246 0 c_ w_ A0_ C0_ r) := by
 unfold table_Table_Rows.f at H
 have B := B0.mono (show m ≤ m + 7 by omega)
 have E : Ev (fun x => False ∨ m ≤ x) c0 w0 c0 w0 := Ev.refl
 refine enterM (N := 27) (l := [.pointer p2]) Tryz.func93 rfl rfl (nb rfl) fun a F => ?_
 refine wp_seq_k fun K5 hK5 => reg ?_
 refine qa F fun a F => ?_
 refine nil (hK5 _ _ ?_)
 refine wp_seq_k fun K6 hK6 => ?_
 refine wp_seq_k fun K7 hK7 => reg ?_
 refine qm F fun a F => ?_
 refine qv F (r_peqlA F Tryz.underlying75 rfl rfl (TB.isNone h3)) fun a F => ?_
 refine nil (hK7 _ _ ?_)
 by_cases hb8 : (Option.isNone a1) = true
 ·replace H := ip hb8 H
  refine wp_cond_true (fb F hb8) ?_
  refine wp_seq_k fun K9 hK9 => reg ?_
  refine qa F fun a F => ?_
  refine nil (hK9 _ _ ?_)
  refine wp_ret ?_
  refine thenR ?_
  refine outM ?_
  refine endM0 F ?_
  replace H := si H
  subst H
  refine out1 F rfl rfl ?_
  exact ⟨cf (fun x_ => if x_ = m + 6 then jr246 else if x_ < m then x_ else 0) c0, none, 0, rfl, E.lv B0, cfb, SL.nil⟩
 replace H := im hb8 H
 refine wp_cond_false (fb F (bfalse hb8)) (wp_skip (hK6 _ _ ?_))
 refine wp_seq_k fun K10 hK10 => reg ?_
 refine q_eff F rfl rfl (by decide) (e_alloc F zv_73 c0 (m + 1)) ?_
 rintro v w12 a ⟨c11, qa13, rfl, E14, h15, B16⟩ F
 replace B := B16 _ B lm
 replace h3 := h3.ev E14 nq nq
 replace E := E.trans E14 nx
 replace h15 : AT true (m + 1) c11 w12 qa13 [.slice none 0 0] := h15
 refine nil (hK10 _ _ ?_)
 refine wp_seq_k fun K18 hK18 => ?_
 refine wp_seq_k fun K19 hK19 => reg ?_
 refine qm F fun a F => ?_
 obtain ⟨ob20, e21, H⟩ := bind_some H
 have z22 := h3
 rw [e21] at z22
 obtain ⟨ad23, p25, rfl, hat24, h26⟩ := TB.some z22
 refine qv F (r_nil F rfl) fun a F => ?_
 refine qf F ff_135_0 fun a F => ?_
 refine qv F (r_load F rfl ag_130 (AT.cell hat24 rfl)) fun a F => ?_
 obtain ⟨t28, q29, H⟩ := bind_some H
 refine qc F Tryz.func128 (tree_Tree_All.calls (m := m + 7) (pl hm0) B h26 (m + 2) lm _ q29) ?_
 rintro e w31 ⟨c30, vi34, rfl, E32, B33, h35⟩
 refine ⟨_, rfl, fun a F => ?_⟩
 have B := B33
 replace h15 := h15.ev E32 nq
 replace E := E.trans E32 nx
 refine nil (hK19 _ _ ?_)
 replace F : Fr a 27 [(3, .pointer (some qa13)), (12, vi34)] := F.sub ⟨rfl, rfl, trivial⟩
 refine wp_block ?_
 obtain ⟨x147, HL, HR148⟩ := bind_some H
 refine ITR.range h35 (m := m + 7) (y := m + 3) (z := m + 4) (M := fun x => False ∨ m ≤ x) (g := (fun (s_ : (List api_Row)) (k_ : ByteArray) (v_ : table_cell) => table_Table_Rows.b1 s_ k_ v_)) (fun (s_ : (List api_Row)) (c_ : Nat → Nat) (w_ : World) => Ev (fun x => False ∨ m ≤ x) c30 w31 c_ w_ ∧ ∃ (l139 : List api_Row), ∃ (A136 : Option Addr), ∃ (C137 : Nat), l139 = s_ ∧ AT true (m + 1) c_ w_ qa13 [.slice A136 l139.length C137] ∧ SL true K_api_Row (m + 6) 0 c_ w_ A136 C137 l139) (fun (_ : Unit) _ _ => False) F rfl (by decide) (by decide) (by omega) (by omega) (by omega) (by omega) (by intro q; rcases q with q | q <;> first | exact q.elim | (replace q : False := q; omega) | (replace q : m ≤ 0 := q; omega)) B (fun _ _ _ h_ => h_.1) (fun _ _ _ h_ => h_.elim) (fun s_ c1_ w1_ c2_ w2_ ⟨E_, l139, A136, C137, e_, h15, h138⟩ E2_ => ⟨E_.trans E2_ (fun x q => by show False ∨ m ≤ x; replace q : x = m + 3 := q; omega), l139, A136, C137, e_, AT.ev h15 E2_ mm, SL.ev h138 E2_ mm ne_zm⟩) (fun _ _ _ _ _ h_ _ => h_.elim) [] ⟨Ev.refl, [], none, 0, rfl, h15, SL.nil⟩ x147 HL ?_ ?_ ?_
 ·intro bd142 lo143 rec144 s_ s150 v151 c140 w141 A152 C153 rr149 ⟨E, l139, A136, C137, e_, h15, h138⟩ B hb145 hl146 h154 Hg a F
  clear HL H
  subst e_
  have H : table_Table_Rows.b1 l139 s150 v151 = some rr149 := Hg
  clear Hg
  unfold table_Table_Rows.b1 at H
  refine wpIn_seq_k fun K155 hK155 => ?_
  refine regR ?_
  refine qa F fun a F => ?_
  refine nil (hK155 _ _ ?_)
  refine regR ?_
  refine q_eff F rfl rfl (by decide) (e_alloc F zv_133 c140 (m + 5)) ?_
  rintro v w157 a ⟨c156, qa55, rfl, E158, h57, B159⟩ F
  replace B := B159 _ B lm
  replace h15 := h15.ev E158 nq
  replace h138 := h138.ev E158 nq nq
  replace h154 := h154.ev E158 nq nq
  replace hb145 := hb145.ev E158 nq
  replace hl146 := hl146.ev E158 nq
  replace E := E.trans E158 nx
  replace h57 : AT true (m + 5) c156 w157 qa55 [.slice none 0 0, .int .i64 0] := h57
  refine q_eff0 F rfl rfl (e_storeN0 (us := [.slice A152 v151.value.length C153, .int .i64 v151.rev]) F rfl rfl sz_133 h57 (nb rfl) (one_all rfl)) ?_
  rintro w160 a ⟨E161, h57, Z162⟩ F
  replace B := B.size Z162
  replace h15 := h15.ev E161 mm
  replace h138 := h138.ev E161 mm ne_zm
  replace h154 := h154.ev E161 ne_zm ne_zm
  replace hb145 := hb145.ev E161 mm
  replace hl146 := hl146.ev E161 mm
  replace E := E.trans E161 lc1
  replace h57 : AT true (m + 5) c156 w160 qa55 [.slice A152 v151.value.length C153, .int .i64 v151.rev] := h57
  refine nil ?_
  refine thenN ?_
  refine ⟨c156, hl146, fun w163 E164 hl146 Z165 => ?_⟩
  replace B := B.size Z165
  replace h15 := h15.ev E164 mm
  replace h138 := h138.ev E164 mm ne_zm
  replace h154 := h154.ev E164 ne_zm ne_zm
  replace hb145 := hb145.ev E164 mm
  replace h57 := h57.ev E164 mm
  replace E := E.trans E164 lc1
  refine wpIn_block ?_
  refine regDR (SB (fun x => x = m + 6) c156 w163) 11 (.q 0 (.q 1 (.q 3 (.q 4 (.q 6 (.q 7 (.f 2 (.e 5 (.q 8 (.e 9 (.e 10 (.e 11 .nil))))) 5 (.e 2 (.q 8 (.e 9 (.e 10 (.e 11 .nil)))))))))))) Tryz_hm (by decide +kernel) ?_
  intro w166 w1_ w2_ w3_ w4_
  have E167 : Ev No c156 w163 c156 w166 := Ev.same w1_ w2_ w3_ w4_
  replace B := B.same w1_
  have zh15 := h15
  have zh57 := h57
  have ER : Ev (fun x => x = m + 6) c156 w163 c156 w166 := Ev.same w1_ w2_ w3_ w4_
  replace h15 := h15.ev E167 nq
  replace h138 := h138.ev E167 nq nq
  replace h154 := h154.ev E167 nq nq
  replace hb145 := hb145.ev E167 nq
  replace hl146 := hl146.ev E167 nq
  replace E := E.trans E167 nx
  refine dq F (fun wq hS => r_load F rfl ag_73 (AT.cell0 (AT.sb zh15 hS mm) rfl)) ER.sb fun a F => ?_
  refine dm F ER.sb fun a F => ?_
  refine df F ff_133_0 ER.sb fun a F => ?_
  refine dq F (fun wq hS => r_load F rfl ag_27 (AT.cell (AT.sb zh57 hS mm) rfl)) ER.sb fun a F => ?_
  refine df F ff_133_1 ER.sb fun a F => ?_
  refine dq F (fun wq hS => r_load F rfl ag_3 (AT.cell (AT.sb zh57 hS mm) rfl)) ER.sb fun a F => ?_
  refine d_f ?_ ?_
  ·replace H := ifN H
   obtain ⟨g68, H⟩ := H
   refine o_eff F rfl rfl rfl (by decide) (e_strBytes F Tryz.underlying9 Tryz.underlying27 Tryz.underlying5 rfl (by unfold maxLen; omega) c156 0 0) ?_
   rintro v w169 a ⟨c168, A170, C171, rfl, E172, h173, B174⟩ F
   replace B := B174 _ B (pl hm0)
   replace ER := ER.trans E172 nx
   replace h15 := h15.ev E172 nq
   replace h138 := h138.ev E172 nq nq
   replace h154 := h154.ev E172 nq nq
   replace hb145 := hb145.ev E172 nq
   replace hl146 := hl146.ev E172 nq
   replace E := E.trans E172 nx
   refine ⟨fun _ => ER.sb, ?_⟩
   refine d_e ?_
   obtain ⟨t76, q77, H⟩ := bind_some H
   refine oc F Tryz.func147 (bytes_Clone.calls (m := m + 7) (pl hm0) B h154 (by omega) 0 (pl hm0) _ q77) ?_
   rintro e w176 ⟨c175, A179, C180, rfl, E177, B178, h181⟩
   refine ⟨_, rfl, fun a F => ?_⟩
   have B := B178
   replace ER := ER.trans E177 nx
   replace h15 := h15.ev E177 nq
   replace h138 := h138.ev E177 nq nq
   replace hb145 := hb145.ev E177 nq
   replace hl146 := hl146.ev E177 nq
   replace h173 := h173.ev E177 nq nq
   replace E := E.trans E177 nx
   refine ⟨fun _ => ER.sb, ?_⟩
   refine d_q F rfl rfl rfl (by decide) (fun wq hS => r_build (v := .agg #[.slice A170 (sb s150).length C171, .slice A179 t76.length C180, .int .i64 v151.rev]) F [(0, .slice A170 (sb s150).length C171), (1, .slice A179 t76.length C180), (2, .int .i64 v151.rev)] (by exact ⟨rfl, rfl, rfl, rfl, rfl, rfl, trivial⟩) (fun w => by kernel_rfl)) ER.sb fun a F => ?_
   refine d_e ?_
   refine o_eff F rfl rfl rfl (by decide) (e_buildSlice (n := 1) (e := 88) (c := c175) (k := K_api_Row) (i := 0) F [(0, .agg #[.slice A170 (sb s150).length C171, .slice A179 t76.length C180, .int .i64 v151.rev])] [.slice A170 (sb s150).length C171, .slice A179 t76.length C180, .int .i64 v151.rev] ([api_Row.mk (sb s150) t76 v151.rev] : List api_Row) (by exact ⟨rfl, rfl, trivial⟩) (fun w => by kernel_rfl) rfl (by decide) rfl ⟨⟨A170, C171, A179, C180, rfl, (SL.fl h173.r (fun q => q)), (SL.fl h181.r (fun q => q))⟩, trivial⟩ (fun q => q) 0) ?_
   rintro v w184 a ⟨c183, A185, C186, rfl, E187, h188, B189⟩ F
   replace B := B189 _ B (pl hm0)
   replace ER := ER.trans E187 nx
   replace h15 := h15.ev E187 nq
   replace h138 := h138.ev E187 nq nq
   replace hb145 := hb145.ev E187 nq
   replace hl146 := hl146.ev E187 nq
   replace E := E.trans E187 nx
   refine ⟨fun _ => ER.sb, ?_⟩
   refine d_e ?_
   replace H := ifN H
   obtain ⟨g93, H⟩ := H
   refine o_eff F rfl rfl rfl (by decide) (e_append (k := K_api_Row) (xs := l139) (ys := [api_Row.mk (sb s150) t76 v151.rev]) (c := c183) (j := (m + 6)) (i := 0) F et_73 rfl rfl h138 h188 g93 (len_ok g93) ne_zm) ?_
   rintro v w191 a ⟨c190, A192, C193, rfl, E194, h195, B196⟩ F
   replace B := B196 _ B lm
   replace ER := ER.trans E194 (fun x q => by replace q : x = m + 6 := q; show x = m + 6; omega)
   replace h15 := h15.ev E194 mm
   replace hb145 := hb145.ev E194 mm
   replace hl146 := hl146.ev E194 mm
   replace E := E.trans E194 lc1
   refine ⟨fun _ => ER.sb, ?_⟩
   refine d_e ?_
   refine o_eff0 F rfl rfl rfl (e_store0 F rfl rfl sz_73 h15 (nb rfl) rfl) ?_
   rintro w197 a ⟨E198, h15, Z199⟩ F
   replace B := B.size Z199
   replace hb145 := hb145.ev E198 mm
   replace hl146 := hl146.ev E198 mm
   replace h195 := h195.ev E198 mm ne_zm
   replace E := E.trans E198 lc1
   replace h15 : AT true (m + 1) c190 w197 qa13 [.slice A192 (l139 ++ [api_Row.mk (sb s150) t76 v151.rev]).length C193] := h15
   refine ⟨fun q => absurd rfl q, ?_⟩
   refine d_nil ?_
   have hr_ := si H
   subst hr_
   first | refine REn c190 hl146 ?_ | refine inbN (REn c190 hl146 ?_) | refine inbN (inbN (REn c190 hl146 ?_))
   exact ⟨⟨E, (l139 ++ [api_Row.mk (sb s150) t76 v151.rev]), A192, C193, rfl, h15, h195⟩, B, hb145⟩
  replace H := ifN H
  obtain ⟨g68, H⟩ := H
  obtain ⟨t76, q77, H⟩ := bind_some H
  refine oc F Tryz.func147 (bytes_Clone.calls (m := m + 7) (pl hm0) B h154 (by omega) 0 (pl hm0) _ q77) ?_
  rintro e w201 ⟨c200, A204, C205, rfl, E202, B203, h206⟩
  refine ⟨_, rfl, fun a F => ?_⟩
  have B := B203
  replace ER := ER.trans E202 nx
  replace h15 := h15.ev E202 nq
  replace h138 := h138.ev E202 nq nq
  replace hb145 := hb145.ev E202 nq
  replace hl146 := hl146.ev E202 nq
  replace E := E.trans E202 nx
  refine ⟨fun _ => ER.sb, ?_⟩
  refine d_e ?_
  refine o_eff F rfl rfl rfl (by decide) (e_strBytes F Tryz.underlying9 Tryz.underlying27 Tryz.underlying5 rfl (by unfold maxLen; omega) c200 0 0) ?_
  rintro v w209 a ⟨c208, A210, C211, rfl, E212, h213, B214⟩ F
  replace B := B214 _ B (pl hm0)
  replace ER := ER.trans E212 nx
  replace h15 := h15.ev E212 nq
  replace h138 := h138.ev E212 nq nq
  replace hb145 := hb145.ev E212 nq
  replace hl146 := hl146.ev E212 nq
  replace h206 := h206.ev E212 nq nq
  replace E := E.trans E212 nx
  refine ⟨fun _ => ER.sb, ?_⟩
  refine d_q F rfl rfl rfl (by decide) (fun wq hS => r_build (v := .agg #[.slice A210 (sb s150).length C211, .slice A204 t76.length C205, .int .i64 v151.rev]) F [(0, .slice A210 (sb s150).length C211), (1, .slice A204 t76.length C205), (2, .int .i64 v151.rev)] (by exact ⟨rfl, rfl, rfl, rfl, rfl, rfl, trivial⟩) (fun w => by kernel_rfl)) ER.sb fun a F => ?_
  refine d_e ?_
  refine o_eff F rfl rfl rfl (by decide) (e_buildSlice (n := 1) (e := 88) (c := c208) (k := K_api_Row) (i := 0) F [(0, .agg #[.slice A210 (sb s150).length C211, .slice A204 t76.length C205, .int .i64 v151.rev])] [.slice A210 (sb s150).length C211, .slice A204 t76.length C205, .int .i64 v151.rev] ([api_Row.mk (sb s150) t76 v151.rev] : List api_Row) (by exact ⟨rfl, rfl, trivial⟩) (fun w => by kernel_rfl) rfl (by decide) rfl ⟨⟨A210, C211, A204, C205, rfl, (SL.fl h213.r (fun q => q)), (SL.fl h206.r (fun q => q))⟩, trivial⟩ (fun q => q) 0) ?_
  rintro v w216 a ⟨c215, A217, C218, rfl, E219, h220, B221⟩ F
  replace B := B221 _ B (pl hm0)
  replace ER := ER.trans E219 nx
  replace h15 := h15.ev E219 nq
  replace h138 := h138.ev E219 nq nq
  replace hb145 := hb145.ev E219 nq
  replace hl146 := hl146.ev E219 nq
  replace E := E.trans E219 nx
  refine ⟨fun _ => ER.sb, ?_⟩
  refine d_e ?_
  replace H := ifN H
  obtain ⟨g93, H⟩ := H
  refine o_eff F rfl rfl rfl (by decide) (e_append (k := K_api_Row) (xs := l139) (ys := [api_Row.mk (sb s150) t76 v151.rev]) (c := c215) (j := (m + 6)) (i := 0) F et_73 rfl rfl h138 h220 g93 (len_ok g93) ne_zm) ?_
  rintro v w223 a ⟨c222, A224, C225, rfl, E226, h227, B228⟩ F
  replace B := B228 _ B lm
  replace ER := ER.trans E226 (fun x q => by replace q : x = m + 6 := q; show x = m + 6; omega)
  replace h15 := h15.ev E226 mm
  replace hb145 := hb145.ev E226 mm
  replace hl146 := hl146.ev E226 mm
  replace E := E.trans E226 lc1
  refine ⟨fun _ => ER.sb, ?_⟩
  refine d_e ?_
  refine o_eff0 F rfl rfl rfl (e_store0 F rfl rfl sz_73 h15 (nb rfl) rfl) ?_
  rintro w229 a ⟨E230, h15, Z231⟩ F
  replace B := B.size Z231
  replace hb145 := hb145.ev E230 mm
  replace hl146 := hl146.ev E230 mm
  replace h227 := h227.ev E230 mm ne_zm
  replace E := E.trans E230 lc1
  replace h15 : AT true (m + 1) c222 w229 qa13 [.slice A224 (l139 ++ [api_Row.mk (sb s150) t76 v151.rev]).length C225] := h15
  refine ⟨fun q => absurd rfl q, ?_⟩
  refine d_nil ?_
  have hr_ := si H
  subst hr_
  first | refine REn c222 hl146 ?_ | refine inbN (REn c222 hl146 ?_) | refine inbN (inbN (REn c222 hl146 ?_))
  exact ⟨⟨E, (l139 ++ [api_Row.mk (sb s150) t76 v151.rev]), A224, C225, rfl, h15, h227⟩, B, hb145⟩
 ·intro s_ hx240 c236 w237 bd238 ⟨E241, l139, A136, C137, e_, h15, h138⟩ B hb239 a F
  subst e_
  rw [hx240] at HR148
  have H : table_Table_Rows.j2 l139 = some r := HR148
  unfold table_Table_Rows.j2 at H
  replace E := E.trans E241 (fun _ q => q)
  refine hK18 _ _ ?_
  refine wp_seq_k fun K242 hK242 => reg ?_
  refine qv F (r_load F rfl ag_73 (AT.cell0 h15 rfl)) fun a F => ?_
  refine qa F fun a F => ?_
  refine nil (hK242 _ _ ?_)
  refine wp_ret ?_
  refine outM ?_
  refine endM F hb239 fun w243 E244 Z245 a F => ?_
  replace B := B.size Z245
  replace h138 := h138.ev E244 mm ne_zm
  replace E := E.trans E244 lc1
  refine endM0 F ?_
  replace H := si H
  subst H
  refine out1 F rfl rfl ?_
  exact ⟨cf (fun x_ => if x_ = m + 6 then jr246 else if x_ < m then x_ else 0) c236, A136, C137, rfl, E.lv B0, cfb, SL.rc h138 cfk cfk⟩
 intro s_ hx_ c_ w_ bd_ h_
 exact h_.elim
theorem shard_Shard_Rows.calls {m : Nat} {c0 : Nat → Nat} {w0 : World} {j4 : Nat} {j5 : Nat} {p2 : Option Addr} {a1 : Option Sha} (hm0 : 0 < m) (B0 : CB m c0 w0) (h3 : SH j4 j5 c0 w0 p2 a1) (bj4 : j4 < m) (bj5 : j5 < m ∧ j5 ≠ j4) (r : (List api_Row)) (H : shard_Shard_Rows.f a1 = some r) : Calls Tryz.prog 39 #[.pointer p2] w0 (fun e w_ => ∃ (c_ : Nat → Nat) (A0_ : Option Addr) (C0_ : Nat), e = .returned (.slice A0_ r.length C0_) ∧ Ev (fun x => False) c0 w0 c_ w_ ∧ CB m c_ w_ ∧ SL false K_api_Row 0 0 c_ w_ A0_ C0_ r) := by
 unfold shard_Shard_Rows.f at H
 have B := B0.mono (show m ≤ m + 1 by omega)
 have E : Ev (fun x => False ∨ m ≤ x) c0 w0 c0 w0 := Ev.refl
 refine enter (N := 10) (l := [.pointer p2]) Tryz.func39 rfl rfl (nb rfl) fun a F => ?_
 refine wp_seq_k fun K6 hK6 => reg ?_
 refine qa F fun a F => ?_
 refine nil (hK6 _ _ ?_)
 refine wp_seq_k fun K7 hK7 => ?_
 refine wp_seq_k fun K8 hK8 => reg ?_
 refine qm F fun a F => ?_
 refine qv F (r_peqlA F Tryz.underlying23 rfl rfl (SH.isNone h3)) fun a F => ?_
 refine nil (hK8 _ _ ?_)
 by_cases hb9 : (Option.isNone a1) = true
 ·replace H := ip hb9 H
  refine wp_cond_true (fb F hb9) ?_
  refine wp_seq_k fun K10 hK10 => reg ?_
  refine qa F fun a F => ?_
  refine nil (hK10 _ _ ?_)
  refine wp_ret ?_
  refine thenR ?_
  replace H := si H
  subst H
  refine out1 F rfl rfl ?_
  exact ⟨cf (fun x_ => if x_ < m then x_ else 0) c0, none, 0, rfl, E.lv B0, cfb, SL.nil⟩
 replace H := im hb9 H
 refine wp_cond_false (fb F (bfalse hb9)) (wp_skip (hK7 _ _ ?_))
 refine wp_seq_k fun K11 hK11 => reg ?_
 refine qm F fun a F => ?_
 obtain ⟨ob12, e13, H⟩ := bind_some H
 have z14 := h3
 rw [e13] at z14
 obtain ⟨ad15, p17, cs19, rfl, hat16, h18, h20⟩ := SH.some z14
 refine qv F (r_nil F rfl) fun a F => ?_
 refine qf F ff_80_0 fun a F => ?_
 refine qv F (r_load F rfl ag_75 (AT.cell hat16 rfl)) fun a F => ?_
 obtain ⟨t22, q23, H⟩ := bind_some H
 refine qc F Tryz.func93 (table_Table_Rows.calls (m := m + 1) (pl hm0) B h18 (Nat.lt_add_right _ bj5.1) 0 (pl hm0) _ q23) ?_
 rintro e w25 ⟨c24, A28, C29, rfl, E26, B27, h30⟩
 refine ⟨_, rfl, fun a F => ?_⟩
 have B := B27
 replace E := E.trans E26 nx
 refine qa F fun a F => ?_
 refine nil (hK11 _ _ ?_)
 replace F : Fr a 10 [(2, .slice A28 t22.length C29)] := F.sub ⟨rfl, trivial⟩
 refine wp_ret ?_
 replace H := si H
 subst H
 refine out1 F rfl rfl ?_
 exact ⟨cf (fun x_ => if x_ < m then x_ else 0) c24, A28, C29, rfl, E.lv B0, cfb, SL.rc h30.r cfk cfk⟩
theorem shard_Shard_Seat.calls {m : Nat} {c0 : Nat → Nat} {w0 : World} {j4 : Nat} {j5 : Nat} {p2 : Option Addr} {a1 : Option Sha} {a6 : Int} (hm0 : 0 < m) (B0 : CB m c0 w0) (h3 : SH j4 j5 c0 w0 p2 a1) (bj4 : j4 < m) (bj5 : j5 < m ∧ j5 ≠ j4) (r : api_Seat × Bool) (H : shard_Shard_Seat.f a1 a6 = some r) : Calls Tryz.prog 29 #[.pointer p2, .int .i64 a6] w0 (fun e w_ => ∃ (c_ : Nat → Nat) (A0_ : Option Addr) (C0_ : Nat) (A2_ : Option Addr) (C2_ : Nat), e = .returned (.tuple #[.agg #[.int .i64 r.1.Client, .int .i64 r.1.Seq, .bool r.1.Answer.Done, .slice A0_ r.1.Answer.Key.length C0_, .slice A2_ r.1.Answer.Value.length C2_, .int .i64 r.1.Answer.Rev, .int .i64 r.1.Answer.At], .bool r.2]) ∧ Ev (fun x => False) c0 w0 c_ w_ ∧ CB m c_ w_ ∧ SL false (Kint .u8) 0 0 c_ w_ A0_ C0_ r.1.Answer.Key ∧ SL false (Kint .u8) 0 0 c_ w_ A2_ C2_ r.1.Answer.Value) := by
 unfold shard_Shard_Seat.f at H
 have B := B0.mono (show m ≤ m + 2 by omega)
 have E : Ev (fun x => False ∨ m ≤ x) c0 w0 c0 w0 := Ev.refl
 refine enter (N := 34) (l := [.pointer p2, .int .i64 a6]) Tryz.func29 rfl rfl (nb rfl) fun a F => ?_
 refine wp_seq_k fun K7 hK7 => reg ?_
 refine q_eff F rfl rfl (by decide) (e_alloc F zv_60 c0 (m + 1)) ?_
 rintro v w9 a ⟨c8, qa10, rfl, E11, h12, B13⟩ F
 replace B := B13 _ B lm
 replace h3 := h3.ev E11 nq nq nq
 replace E := E.trans E11 nx
 replace h12 : AT true (m + 1) c8 w9 qa10 [.int .i64 0, .int .i64 0, .bool false, .slice none 0 0, .slice none 0 0, .int .i64 0, .int .i64 0] := h12
 refine qa F fun a F => ?_
 refine nil (hK7 _ _ ?_)
 refine wp_seq_k fun K15 hK15 => ?_
 refine wp_seq_k fun K16 hK16 => ?_
 have J44 : ∀ (c45 : Nat → Nat) (w46 : World) (a : Act) (b43 : Bool), Fr a 34 [(0, .pointer p2), (1, .int .i64 a6), (4, .pointer (some qa10)), (25, .bool b43)] → Ev (fun x => False ∨ m ≤ x) c0 w0 c45 w46 → CB (m + 2) c45 w46 → AT true (m + 1) c45 w46 qa10 [.int .i64 0, .int .i64 0, .bool false, .slice none 0 0, .slice none 0 0, .int .i64 0, .int .i64 0] → SH j4 j5 c45 w46 p2 a1 → shard_Shard_Seat.j1 a1 a6 b43 = some r → K16 a w46 := by
  intro c45 w46 a b43 F E B h12 h3 H
  unfold shard_Shard_Seat.j1 at H
  refine hK16 _ _ ?_
  by_cases hb47 : b43 = true
  ·replace H := ip hb47 H
   refine wp_cond_true (fb F hb47) ?_
   refine wp_seq_k fun K48 hK48 => reg ?_
   refine qv F (r_build (v := .agg #[.int .i64 0, .int .i64 0, .bool false, .slice none 0 0, .slice none 0 0, .int .i64 0, .int .i64 0]) F [] (by exact trivial) (bd_60_)) fun a F => ?_
   refine q_eff0 F rfl rfl (e_storeN0 (us := [.int .i64 0, .int .i64 0, .bool false, .slice none 0 0, .slice none 0 0, .int .i64 0, .int .i64 0]) F rfl rfl sz_60 h12 (nb rfl) (one_all rfl)) ?_
   rintro w49 a ⟨E50, h12, Z51⟩ F
   replace B := B.size Z51
   replace E := E.trans E50 lc1
   replace h12 : AT true (m + 1) c45 w49 qa10 [.int .i64 0, .int .i64 0, .bool false, .slice none 0 0, .slice none 0 0, .int .i64 0, .int .i64 0] := h12
   refine qa F fun a F => ?_
   refine nil (hK48 _ _ ?_)
   refine wp_ret ?_
   refine thenR ?_
   replace H := si H
   subst H
   refine outR2 F rfl ⟨_, rfl, lv_agg (cs := [.int .i64 0, .int .i64 0, .bool false, .slice none 0 0, .slice none 0 0, .int .i64 0, .int .i64 0]) ag_60 sz_60 h12⟩ rfl ?_
   exact ⟨cf (fun x_ => if x_ < m then x_ else 0) c45, none, 0, none, 0, rfl, E.lv B0, cfb, SL.nil, SL.nil⟩
  replace H := im hb47 H
  refine wp_cond_false (fb F (bfalse hb47)) (wp_skip (hK15 _ _ ?_))
  refine wp_seq_k fun K52 hK52 => reg ?_
  refine qm F fun a F => ?_
  refine qm F fun a F => ?_
  obtain ⟨ob53, e54, H⟩ := bind_some H
  have z55 := h3
  rw [e54] at z55
  obtain ⟨ad56, p58, cs60, rfl, hat57, h59, h61⟩ := SH.some z55
  refine qv F (r_nil F rfl) fun a F => ?_
  refine qf F ff_80_1 fun a F => ?_
  replace H := ifN H
  obtain ⟨g63, H⟩ := H
  obtain ⟨cs65, h66, r67⟩ := AR.at (off := 1) hat57 rfl h61 a6 g63.1 (by have g_ := g63.2; omega)
  obtain ⟨A69, C70, A72, C73, rfl, h71, h74⟩ := r67
  replace h71 := SL.fl (i' := 0) h71 (fun q => q)
  replace h74 := SL.fl (i' := 0) h74 (fun q => q)
  obtain ⟨qa68, qqa68⟩ : ∃ q, q = (ad56.add (1 + a6.toNat * 7)) := ⟨_, rfl⟩
  have h66 : AT true j4 c45 w46 qa68 [.int .i64 ((rd ob53.seats a6).Client), .int .i64 ((rd ob53.seats a6).Seq), .bool (((rd ob53.seats a6).Answer).Done), .slice A69 (((rd ob53.seats a6).Answer).Key).length C70, .slice A72 (((rd ob53.seats a6).Answer).Value).length C73, .int .i64 (((rd ob53.seats a6).Answer).Rev), .int .i64 (((rd ob53.seats a6).Answer).At)] := by rw [qqa68]; exact h66
  refine qv F (r_indexArr3 F ua_78 sz_60 rfl rfl g63.1 (by have g_ := g63.2; omega) hat57 qqa68) fun a F => ?_
  refine qv F (r_loads (cs := [.int .i64 ((rd ob53.seats a6).Client), .int .i64 ((rd ob53.seats a6).Seq), .bool (((rd ob53.seats a6).Answer).Done), .slice A69 (((rd ob53.seats a6).Answer).Key).length C70, .slice A72 (((rd ob53.seats a6).Answer).Value).length C73, .int .i64 (((rd ob53.seats a6).Answer).Rev), .int .i64 (((rd ob53.seats a6).Answer).At)]) F rfl ag_60 sz_60 h66) fun a F => ?_
  obtain ⟨t76, q77, H⟩ := bind_some H
  refine qc F Tryz.func85 (shard_own.calls (m := m + 2) (a1 := api_Seat.mk ((rd ob53.seats a6).Client) ((rd ob53.seats a6).Seq) ((rd ob53.seats a6).Answer)) (pl hm0) B h71 h74 _ q77) ?_
  rintro e w79 ⟨c78, A82, C83, A85, C86, rfl, E80, B81, h84, h87⟩
  refine ⟨_, rfl, fun a F => ?_⟩
  have B := B81
  replace h12 := h12.ev E80 nq
  replace E := E.trans E80 nx
  refine q_eff0 F rfl rfl (e_storeN0 (us := [.int .i64 t76.Client, .int .i64 t76.Seq, .bool t76.Answer.Done, .slice A82 t76.Answer.Key.length C83, .slice A85 t76.Answer.Value.length C86, .int .i64 t76.Answer.Rev, .int .i64 t76.Answer.At]) F rfl rfl sz_60 h12 (nb rfl) (one_all rfl)) ?_
  rintro w89 a ⟨E90, h12, Z91⟩ F
  replace B := B.size Z91
  replace h84 := h84.ev E90 ne_zm ne_zm
  replace h87 := h87.ev E90 ne_zm ne_zm
  replace E := E.trans E90 lc1
  replace h12 : AT true (m + 1) c78 w89 qa10 [.int .i64 t76.Client, .int .i64 t76.Seq, .bool t76.Answer.Done, .slice A82 t76.Answer.Key.length C83, .slice A85 t76.Answer.Value.length C86, .int .i64 t76.Answer.Rev, .int .i64 t76.Answer.At] := h12
  refine qa F fun a F => ?_
  refine nil (hK52 _ _ ?_)
  replace F : Fr a 34 [(4, .pointer (some qa10)), (5, .bool true)] := F.sub ⟨rfl, rfl, trivial⟩
  refine wp_ret ?_
  replace H := si H
  subst H
  refine outR2 F rfl ⟨_, rfl, lv_agg (cs := [.int .i64 t76.Client, .int .i64 t76.Seq, .bool t76.Answer.Done, .slice A82 t76.Answer.Key.length C83, .slice A85 t76.Answer.Value.length C86, .int .i64 t76.Answer.Rev, .int .i64 t76.Answer.At]) ag_60 sz_60 h12⟩ rfl ?_
  exact ⟨cf (fun x_ => if x_ < m then x_ else 0) c78, A82, C83, A85, C86, rfl, E.lv B0, cfb, SL.rc h84 cfk cfk, SL.rc h87 cfk cfk⟩
 refine reg ?_
 refine qm F fun a F => ?_
 refine qv F (r_peqlA F Tryz.underlying23 rfl rfl (SH.isNone h3)) fun a F => ?_
 refine qm F fun a F => ?_
 by_cases hb17 : (Option.isNone a1) = true
 ·replace H := ip hb17 H
  refine qn F hb17 fun a F => ?_
  refine qn F hb17 fun a F => ?_
  refine qv F (r_pick_t F rfl hb17 rfl) fun a F => ?_
  refine qm F fun a F => ?_
  refine qn F rfl fun a F => ?_
  refine qn F rfl fun a F => ?_
  refine qv F (r_pick_t F rfl rfl rfl) fun a F => ?_
  refine qm F fun a F => ?_
  refine qn F rfl fun a F => ?_
  refine qn F rfl fun a F => ?_
  refine qn F rfl fun a F => ?_
  refine qn F rfl fun a F => ?_
  refine qn F rfl fun a F => ?_
  refine qn F rfl fun a F => ?_
  refine qn F rfl fun a F => ?_
  refine qn F rfl fun a F => ?_
  refine qv F (r_pick_t F rfl rfl rfl) fun a F => ?_
  refine nil ?_
  exact J44 c8 w9 a true (F.sub ⟨rfl, rfl, rfl, rfl, trivial⟩) E B h12 h3 H
 replace H := im hb17 H
 refine qy F (bfalse hb17) ?_
 refine qm F fun a F => ?_
 refine qy F (bfalse hb17) ?_
 refine qv F (r_lss F rfl rfl) fun a F => ?_
 refine qv F (r_pick_f F rfl (bfalse hb17) rfl) fun a F => ?_
 refine qm F fun a F => ?_
 by_cases hb18 : a6 < 0
 ·replace H := ip hb18 H
  refine qn F (dt hb18) fun a F => ?_
  refine qn F (dt hb18) fun a F => ?_
  refine qv F (r_pick_t F rfl (dt hb18) rfl) fun a F => ?_
  refine qm F fun a F => ?_
  refine qn F rfl fun a F => ?_
  refine qn F rfl fun a F => ?_
  refine qn F rfl fun a F => ?_
  refine qn F rfl fun a F => ?_
  refine qn F rfl fun a F => ?_
  refine qn F rfl fun a F => ?_
  refine qn F rfl fun a F => ?_
  refine qn F rfl fun a F => ?_
  refine qv F (r_pick_t F rfl rfl rfl) fun a F => ?_
  refine nil ?_
  exact J44 c8 w9 a true (F.sub ⟨rfl, rfl, rfl, rfl, trivial⟩) E B h12 h3 H
 replace H := im hb18 H
 refine qy F (dz hb18) ?_
 refine qm F fun a F => ?_
 refine qy F (dz hb18) ?_
 refine qv F (r_geq F rfl rfl) fun a F => ?_
 refine qv F (r_pick_f F rfl (dz hb18) rfl) fun a F => ?_
 refine qm F fun a F => ?_
 by_cases hb19 : 16 ≤ a6
 ·replace H := ip hb19 H
  refine qn F (dt hb19) fun a F => ?_
  refine qn F (dt hb19) fun a F => ?_
  refine qn F (dt hb19) fun a F => ?_
  refine qn F (dt hb19) fun a F => ?_
  refine qn F (dt hb19) fun a F => ?_
  refine qn F (dt hb19) fun a F => ?_
  refine qn F (dt hb19) fun a F => ?_
  refine qn F (dt hb19) fun a F => ?_
  refine qv F (r_pick_t F rfl (dt hb19) rfl) fun a F => ?_
  refine nil ?_
  exact J44 c8 w9 a true (F.sub ⟨rfl, rfl, rfl, rfl, trivial⟩) E B h12 h3 H
 replace H := im hb19 H
 refine qy F (dz hb19) ?_
 refine qm F fun a F => ?_
 refine qy F (dz hb19) ?_
 refine qm F fun a F => ?_
 obtain ⟨ob20, e21, H⟩ := bind_some H
 have z22 := h3
 rw [e21] at z22
 obtain ⟨ad23, p25, cs27, rfl, hat24, h26, h28⟩ := SH.some z22
 refine qy F (dz hb19) ?_
 refine qv F (r_nil F rfl) fun a F => ?_
 refine qy F (dz hb19) ?_
 refine qf F ff_80_1 fun a F => ?_
 replace H := ifN H
 obtain ⟨g30, H⟩ := H
 obtain ⟨cs32, h33, r34⟩ := AR.at (off := 1) hat24 rfl h28 a6 g30.1 (by have g_ := g30.2; omega)
 obtain ⟨A36, C37, A39, C40, rfl, h38, h41⟩ := r34
 obtain ⟨qa35, qqa35⟩ : ∃ q, q = (ad23.add (1 + a6.toNat * 7)) := ⟨_, rfl⟩
 have h33 : AT true j4 c8 w9 qa35 [.int .i64 ((rd ob20.seats a6).Client), .int .i64 ((rd ob20.seats a6).Seq), .bool (((rd ob20.seats a6).Answer).Done), .slice A36 (((rd ob20.seats a6).Answer).Key).length C37, .slice A39 (((rd ob20.seats a6).Answer).Value).length C40, .int .i64 (((rd ob20.seats a6).Answer).Rev), .int .i64 (((rd ob20.seats a6).Answer).At)] := by rw [qqa35]; exact h33
 refine qy F (dz hb19) ?_
 refine qv F (r_indexArr3 F ua_78 sz_60 rfl rfl g30.1 (by have g_ := g30.2; omega) hat24 qqa35) fun a F => ?_
 refine qy F (dz hb19) ?_
 refine qf F ff_60_1 fun a F => ?_
 refine qy F (dz hb19) ?_
 refine qv F (r_load F rfl ag_3 (AT.cell h33 rfl)) fun a F => ?_
 refine qy F (dz hb19) ?_
 refine qv F (r_eql F rfl rfl) fun a F => ?_
 refine qv F (r_pick_f F rfl (dz hb19) rfl) fun a F => ?_
 refine nil ?_
 exact J44 c8 w9 a (decide (((rd ob20.seats a6).Seq) = 0)) (F.sub ⟨rfl, rfl, rfl, rfl, trivial⟩) E B h12 h3 H
theorem shard_Shard_Seats.calls (k : Nat) {m : Nat} {c0 : Nat → Nat} {w0 : World} {j4 : Nat} {j5 : Nat} {p2 : Option Addr} {a1 : Option Sha} (hm0 : 0 < m) (B0 : CB m c0 w0) (h3 : SH j4 j5 c0 w0 p2 a1) (bj4 : j4 < m) (bj5 : j5 < m ∧ j5 ≠ j4) (jr135 : Nat) (bjr135 : jr135 < m) (r : (List api_Seat)) (H : shard_Shard_Seats.f k a1 = some r) : Calls Tryz.prog 36 #[.pointer p2] w0 (fun e w_ => ∃ (c_ : Nat → Nat) (A0_ : Option Addr) (C0_ : Nat), e = .returned (.slice A0_ r.length C0_) ∧ Ev (fun x => False) c0 w0 c_ w_ ∧ CB m c_ w_ ∧ SL true K_api_Seat jr135 0 c_ w_ A0_ C0_ r) := by
 unfold shard_Shard_Seats.f at H
 have B := B0.mono (show m ≤ m + 3 by omega)
 have E : Ev (fun x => False ∨ m ≤ x) c0 w0 c0 w0 := Ev.refl
 refine enter (N := 23) (l := [.pointer p2]) Tryz.func36 rfl rfl (nb rfl) fun a F => ?_
 refine wp_seq_k fun K6 hK6 => reg ?_
 refine qa F fun a F => ?_
 refine nil (hK6 _ _ ?_)
 refine wp_seq_k fun K7 hK7 => reg ?_
 refine qa F fun a F => ?_
 refine nil (hK7 _ _ ?_)
 refine wp_seq_k fun K8 hK8 => ?_
 refine wp_seq_k fun K9 hK9 => reg ?_
 refine qm F fun a F => ?_
 refine nil (hK9 _ _ ?_)
 refine wp_block ?_
 obtain ⟨x81, HL, HR80⟩ := bind_some H
 have J131 : ∀ (c132 : Nat → Nat) (w133 : World) (a : Act) (l128 : List api_Seat) (A129 : Option Addr) (C130 : Nat), Fr a 23 [(3, .slice A129 l128.length C130)] → Ev (fun x => False ∨ m ≤ x) c0 w0 c132 w133 → CB (m + 3) c132 w133 → SL true K_api_Seat (m + 2) 0 c132 w133 A129 C130 l128 → shard_Shard_Seats.j2 l128 = some r → K8 a w133 := by
  intro c132 w133 a l128 A129 C130 F E B h127 H
  unfold shard_Shard_Seats.j2 at H
  refine hK8 _ _ ?_
  refine wp_seq_k fun K134 hK134 => reg ?_
  refine qm F fun a F => ?_
  refine qa F fun a F => ?_
  refine nil (hK134 _ _ ?_)
  refine wp_ret ?_
  replace H := si H
  subst H
  refine out1 F rfl rfl ?_
  exact ⟨cf (fun x_ => if x_ = m + 2 then jr135 else if x_ < m then x_ else 0) c132, A129, C130, rfl, E.lv B0, cfb, SL.rc h127 cfk cfk⟩
 refine loop_fuel (I := fun n a w => ∃ (l67 : List api_Seat) (A68 : Option Addr) (C69 : Nat) (i71 : Int) (c : Nat → Nat), Fr a 23 [(0, .pointer p2), (3, .slice A68 l67.length C69), (7, .int .i64 i71)] ∧ Ev (fun x => False ∨ m ≤ x) c0 w0 c w ∧ CB (m + 3) c w ∧ SH j4 j5 c w p2 a1 ∧ SL true K_api_Seat (m + 2) 0 c w A68 C69 l67 ∧ loop (fun (s_ : (List api_Seat) × Int) => shard_Shard_Seats.b1 a1 s_.1 s_.2) n (l67, i71) = some x81) (k := k) ⟨[], none, 0, 0, c0, F.sub ⟨rfl, rfl, rfl, trivial⟩, E, B, h3, SL.nil, HL⟩ ?_
 clear HL H E F B
 intro n78 X74 hX74 a w73 ⟨l67, A68, C69, i71, c72, F, E, B, h3, h70, HL⟩
 obtain ⟨n79, ctl77, rfl, HB, HN75, HD76⟩ := loop_some HL
 have H : shard_Shard_Seats.b1 a1 l67 i71 = some ctl77 := HB
 clear HB HL
 unfold shard_Shard_Seats.b1 at H
 refine wp_seq_k fun K82 hK82 => reg ?_
 refine qv F (r_lss F rfl rfl) fun a F => ?_
 refine nil (hK82 _ _ ?_)
 refine wp_seq_k fun K83 hK83 => ?_
 by_cases hb84 : i71 < 16
 ·replace H := ip hb84 H
  refine wp_cond_true (fb F (dt hb84)) (wp_skip (hK83 _ _ ?_))
  refine wp_seq_k fun K85 hK85 => ?_
  refine wp_block ?_
  refine wp_seq_k fun K86 hK86 => reg ?_
  refine qm F fun a F => ?_
  refine qa F fun a F => ?_
  refine nil (hK86 _ _ ?_)
  refine wp_seq_k fun K87 hK87 => reg ?_
  refine qm F fun a F => ?_
  refine qm F fun a F => ?_
  obtain ⟨t27, q28, H⟩ := bind_some H
  refine qc F Tryz.func29 (shard_Shard_Seat.calls (m := m + 3) (pl hm0) B h3 (Nat.lt_add_right _ bj4) ⟨(Nat.lt_add_right _ bj5.1), bj5.2⟩ _ q28) ?_
  rintro e w89 ⟨c88, A92, C93, A95, C96, rfl, E90, B91, h94, h97⟩
  refine ⟨_, rfl, fun a F => ?_⟩
  have B := B91
  replace h3 := h3.ev E90 nq nq nq
  replace h70 := h70.ev E90 nq nq
  replace E := E.trans E90 nx
  refine qm F fun a F => ?_
  refine qv F (r_extract F rfl rfl) fun a F => ?_
  refine qv F (r_extract F rfl rfl) fun a F => ?_
  refine q_eff F rfl rfl (by decide) (e_alloc F zv_60 c88 (m + 1)) ?_
  rintro v w100 a ⟨c99, qa42, rfl, E101, h44, B102⟩ F
  replace B := B102 _ B lm
  replace h3 := h3.ev E101 nq nq nq
  replace h70 := h70.ev E101 nq nq
  replace h94 := h94.ev E101 nq nq
  replace h97 := h97.ev E101 nq nq
  replace E := E.trans E101 nx
  replace h44 : AT true (m + 1) c99 w100 qa42 [.int .i64 0, .int .i64 0, .bool false, .slice none 0 0, .slice none 0 0, .int .i64 0, .int .i64 0] := h44
  refine q_eff0 F rfl rfl (e_storeN0 (us := [.int .i64 t27.1.Client, .int .i64 t27.1.Seq, .bool t27.1.Answer.Done, .slice A92 t27.1.Answer.Key.length C93, .slice A95 t27.1.Answer.Value.length C96, .int .i64 t27.1.Answer.Rev, .int .i64 t27.1.Answer.At]) F rfl rfl sz_60 h44 (nb rfl) (one_all rfl)) ?_
  rintro w103 a ⟨E104, h44, Z105⟩ F
  replace B := B.size Z105
  replace h3 := h3.ev E104 (ne_pm bj4) (ne_pm bj5.1) ne_zm
  replace h70 := h70.ev E104 mm ne_zm
  replace h94 := h94.ev E104 ne_zm ne_zm
  replace h97 := h97.ev E104 ne_zm ne_zm
  replace E := E.trans E104 lc1
  replace h44 : AT true (m + 1) c99 w103 qa42 [.int .i64 t27.1.Client, .int .i64 t27.1.Seq, .bool t27.1.Answer.Done, .slice A92 t27.1.Answer.Key.length C93, .slice A95 t27.1.Answer.Value.length C96, .int .i64 t27.1.Answer.Rev, .int .i64 t27.1.Answer.At] := h44
  refine qa F fun a F => ?_
  refine nil (hK87 _ _ ?_)
  replace F : Fr a 23 [(0, .pointer p2), (3, .slice A68 l67.length C69), (5, .pointer (some qa42)), (6, .bool t27.2), (7, .int .i64 i71)] := F.sub ⟨rfl, rfl, rfl, rfl, rfl, trivial⟩
  refine wp_seq_k fun K106 hK106 => reg ?_
  refine qm F fun a F => ?_
  refine nil (hK106 _ _ ?_)
  by_cases hb107 : t27.2 = true
  ·replace H := ip hb107 H
   refine wp_cond_true (fb F hb107) ?_
   refine reg ?_
   refine qm F fun a F => ?_
   refine qv F (r_loads (cs := [.int .i64 t27.1.Client, .int .i64 t27.1.Seq, .bool t27.1.Answer.Done, .slice A92 t27.1.Answer.Key.length C93, .slice A95 t27.1.Answer.Value.length C96, .int .i64 t27.1.Answer.Rev, .int .i64 t27.1.Answer.At]) F rfl ag_60 sz_60 h44) fun a F => ?_
   refine q_eff F rfl rfl (by decide) (e_buildSlice (n := 1) (e := 60) (c := c99) (k := K_api_Seat) (i := 0) F [(0, .agg #[.int .i64 t27.1.Client, .int .i64 t27.1.Seq, .bool t27.1.Answer.Done, .slice A92 t27.1.Answer.Key.length C93, .slice A95 t27.1.Answer.Value.length C96, .int .i64 t27.1.Answer.Rev, .int .i64 t27.1.Answer.At])] [.int .i64 t27.1.Client, .int .i64 t27.1.Seq, .bool t27.1.Answer.Done, .slice A92 t27.1.Answer.Key.length C93, .slice A95 t27.1.Answer.Value.length C96, .int .i64 t27.1.Answer.Rev, .int .i64 t27.1.Answer.At] ([t27.1] : List api_Seat) (by exact ⟨rfl, rfl, trivial⟩) (fun w => by kernel_rfl) rfl (by decide) rfl ⟨⟨A92, C93, A95, C96, rfl, (SL.fl h94 (fun q => q)), (SL.fl h97 (fun q => q))⟩, trivial⟩ (fun q => q) 0) ?_
   rintro v w109 a ⟨c108, A110, C111, rfl, E112, h113, B114⟩ F
   replace B := B114 _ B (pl hm0)
   replace h3 := h3.ev E112 nq nq nq
   replace h70 := h70.ev E112 nq nq
   replace E := E.trans E112 nx
   replace H := ifN H
   obtain ⟨g59, H⟩ := H
   refine q_eff F rfl rfl (by decide) (e_append (k := K_api_Seat) (xs := l67) (ys := [t27.1]) (c := c108) (j := (m + 2)) (i := 0) F et_71 rfl rfl h70 h113 g59 (len_ok g59) ne_zm) ?_
   rintro v w116 a ⟨c115, A117, C118, rfl, E119, h120, B121⟩ F
   replace B := B121 _ B lm
   replace h3 := h3.ev E119 (ne_pm bj4) (ne_pm bj5.1) ne_zm
   replace E := E.trans E119 lc1
   refine qa F fun a F => ?_
   refine nil (hK85 _ _ ?_)
   refine reg ?_
   refine qv F (r_add F rfl rfl) fun a F => ?_
   refine qm F fun a F => ?_
   refine nil ?_
   replace H := HN75 _ (si H).symm
   exact hX74 _ _ _ (Nat.lt_succ_self _) ⟨(l67 ++ [t27.1]), A117, C118, (IntKind.i64.wrap (i71 + 1)), c115, F.sub ⟨rfl, rfl, rfl, trivial⟩, E, B, h3, h120, H⟩
  replace H := im hb107 H
  refine wp_cond_false (fb F (bfalse hb107)) (wp_skip (hK85 _ _ ?_))
  refine reg ?_
  refine qv F (r_add F rfl rfl) fun a F => ?_
  refine qm F fun a F => ?_
  refine nil ?_
  replace H := HN75 _ (si H).symm
  exact hX74 _ _ _ (Nat.lt_succ_self _) ⟨l67, A68, C69, (IntKind.i64.wrap (i71 + 1)), c99, F.sub ⟨rfl, rfl, rfl, trivial⟩, E, B, h3, h70, H⟩
 replace H := im hb84 H
 refine wp_cond_false (fb F (dz hb84)) ?_
 refine wp_exit ?_
 refine thenE ?_
 refine thenE ?_
 refine inbE ?_
 have hx_ := HD76 _ (si H).symm
 have H := HR80
 rw [← hx_] at H
 exact J131 c72 w73 a l67 A68 C69 (F.sub ⟨rfl, trivial⟩) E B h70 H
theorem haulagelaw14_ShardKnown.calls (k : Nat) {m : Nat} {c0 : Nat → Nat} {w0 : World} (hm0 : 0 < m) (B0 : CB m c0 w0) (r : Bool) (H : haulagelaw14_ShardKnown.f k = some r) : Calls Tryz.prog 7 #[] w0 (fun e w_ => ∃ (c_ : Nat → Nat), e = .returned (.bool r) ∧ Ev (fun x => False) c0 w0 c_ w_ ∧ CB m c_ w_) := by
 unfold haulagelaw14_ShardKnown.f at H
 have B := B0.mono (show m ≤ m + 20 by omega)
 have E : Ev (fun x => False ∨ m ≤ x) c0 w0 c0 w0 := Ev.refl
 refine enter (N := 335) (l := []) Tryz.func7 rfl rfl (nb rfl) fun a F => ?_
 refine wp_seq_k fun K1 hK1 => reg ?_
 refine qa F fun a F => ?_
 refine nil (hK1 _ _ ?_)
 refine wp_seq_k fun K2 hK2 => ?_
 refine wp_seq_k fun K3 hK3 => reg ?_
 obtain ⟨t4, q5, H⟩ := bind_some H
 refine qc F Tryz.func21 (haulagelaw14_known.calls k (m := m + 20) (pl hm0) B _ q5) ?_
 rintro e w7 ⟨c6, rfl, E8, B9⟩
 refine ⟨_, rfl, fun a F => ?_⟩
 have B := B9
 as_aux_lemma =>
 replace E := E.trans E8 nx
 refine qv F (r_not F rfl) fun a F => ?_
 refine nil (hK3 _ _ ?_)
 by_cases hb11 : t4 = true
 ·replace H := ip hb11 H
  refine wp_cond_false (fb F (congrArg not hb11)) (wp_skip (hK2 _ _ ?_))
  refine wp_seq_k fun K13 hK13 => reg ?_
  obtain ⟨t14, q15, H⟩ := bind_some H
  refine qc F Tryz.func8 (shard_New.calls (m := m + 20) (pl hm0) B (m + 1) lm (m + 2) lm _ q15) ?_
  rintro e w17 ⟨c16, p20, rfl, E18, B19, h21⟩
  refine ⟨_, rfl, fun a F => ?_⟩
  have B := B19
  replace E := E.trans E18 nx
  refine qa F fun a F => ?_
  refine nil (hK13 _ _ ?_)
  as_aux_lemma =>
  refine wp_seq_k fun K23 hK23 => reg ?_
  refine qm F fun a F => ?_
  obtain ⟨t24, q25, H⟩ := bind_some H
  refine qc F Tryz.func34 (haulagelaw14_put.calls (m := m + 20) (pl hm0) B _ q25) ?_
  rintro e w27 ⟨c26, A30, C31, A33, C34, rfl, E28, B29, h32, h35⟩
  refine ⟨_, rfl, fun a F => ?_⟩
  have B := B29
  replace h21 := h21.ev E28 nq nq nq
  replace E := E.trans E28 nx
  obtain ⟨t37, q38, H⟩ := bind_some H
  refine qc F Tryz.func11 (shard_Shard_Do.calls k (m := m + 20) (pl hm0) B h21 h32 h35 ⟨(pl hm0), lm⟩ ⟨(pl hm0), lm, mm⟩ _ q38) ?_
  rintro e w40 ⟨c39, A43, C44, A46, C47, rfl, E41, B42, h45, h48, h49⟩
  refine ⟨_, rfl, fun a F => ?_⟩
  have B := B42
  as_aux_lemma =>
  replace E := E.trans E41 lc2
  refine nil (hK23 _ _ ?_)
  refine wp_seq_k fun K51 hK51 => reg ?_
  refine qm F fun a F => ?_
  obtain ⟨t52, q53, H⟩ := bind_some H
  refine qc F Tryz.func35 (haulagelaw14_get.calls (m := m + 20) (pl hm0) B 0 (pl hm0) _ q53) ?_
  rintro e w55 ⟨c54, A58, C59, A61, C62, rfl, E56, B57, h60, h63⟩
  refine ⟨_, rfl, fun a F => ?_⟩
  have B := B57
  replace h49 := h49.ev E56 nq nq nq
  replace E := E.trans E56 nx
  obtain ⟨t65, q66, H⟩ := bind_some H
  refine qc F Tryz.func11 (shard_Shard_Do.calls k (m := m + 20) (pl hm0) B h49 h60 h63.r ⟨(pl hm0), lm⟩ ⟨(pl hm0), lm, mm⟩ _ q66) ?_
  rintro e w68 ⟨c67, A71, C72, A74, C75, rfl, E69, B70, h73, h76, h77⟩
  as_aux_lemma =>
  refine ⟨_, rfl, fun a F => ?_⟩
  have B := B70
  replace E := E.trans E69 lc2
  refine qm F fun a F => ?_
  refine qv F (r_extract F rfl rfl) fun a F => ?_
  refine qv F (r_extract F rfl rfl) fun a F => ?_
  refine qv F (r_extract F rfl rfl) fun a F => ?_
  refine q_eff F rfl rfl (by decide) (e_alloc F zv_32 c67 (m + 3)) ?_
  rintro v w80 a ⟨c79, qa81, rfl, E82, h83, B84⟩ F
  replace B := B84 _ B lm
  replace h77 := h77.ev E82 nq nq nq
  replace E := E.trans E82 nx
  replace h83 : AT true (m + 3) c79 w80 qa81 [.bool false, .slice none 0 0, .slice none 0 0, .int .i64 0, .int .i64 0] := h83
  refine q_eff0 F rfl rfl (e_storeN0 (us := [.bool t65.1.Done, .slice A71 t65.1.Key.length C72, .slice A74 t65.1.Value.length C75, .int .i64 t65.1.Rev, .int .i64 t65.1.At]) F rfl rfl sz_32 h83 (nb rfl) (one_all rfl)) ?_
  rintro w86 a ⟨E87, h83, Z88⟩ F
  as_aux_lemma =>
  replace B := B.size Z88
  replace h77 := h77.ev E87 mm mm ne_zm
  replace E := E.trans E87 lc1
  replace h83 : AT true (m + 3) c79 w86 qa81 [.bool t65.1.Done, .slice A71 t65.1.Key.length C72, .slice A74 t65.1.Value.length C75, .int .i64 t65.1.Rev, .int .i64 t65.1.At] := h83
  refine qa F fun a F => ?_
  refine qa F fun a F => ?_
  refine nil (hK51 _ _ ?_)
  replace F : Fr a 335 [(1, .pointer p20), (2, .pointer (some qa81)), (3, .bool t65.2.1)] := F.sub ⟨rfl, rfl, rfl, trivial⟩
  refine wp_seq_k fun K89 hK89 => reg ?_
  refine qm F fun a F => ?_
  refine q_eff F rfl rfl (by decide) (e_buildSliceF (n := 1) (e := 5) (c := c79) (k := (Kint .u8)) (i := 0) F [(0, .int .u8 97)] [.int .u8 97] ([97] : List Int) (by exact ⟨rfl, rfl, trivial⟩) (fun w => by kernel_rfl) rfl (by decide) rfl ⟨rfl, trivial⟩ (fun q => q) (m + 4)) ?_
  rintro v w92 a ⟨c91, A93, C94, rfl, E95, h96, B97, hf90⟩ F
  replace B := B97 _ B lm
  replace h77 := h77.ev E95 nq nq nq
  as_aux_lemma =>
  replace h83 := h83.ev E95 nq
  replace E := E.trans E95 nx
  refine q_eff F rfl rfl (by decide) (e_convb F Tryz.underlying27 Tryz.underlying5 rfl h96 hf90) ?_
  rintro v w98 a ⟨rfl, E99, h96, Z100⟩ F
  replace B := B.size Z100
  replace h77 := h77.ev E99 mm mm ne_zm
  replace h83 := h83.ev E99 mm
  replace E := E.trans E99 lc1
  obtain ⟨c101, hc101⟩ : ∃ c', c' = fun k => if c91 k = m + 4 then 0 else c91 k := ⟨_, rfl⟩
  replace h77 := SH.rc (c' := c101) (j' := m + 1) (i' := m + 2) h77 (fun k_ hk_ => by rw [hc101]; show (if c91 k_ = m + 4 then 0 else c91 k_) = _; rw [hk_]; ((repeat' split) <;> omega)) (fun k_ hk_ => by rw [hc101]; show (if c91 k_ = m + 4 then 0 else c91 k_) = _; rw [hk_]; ((repeat' split) <;> omega)) (fun k_ hk_ => by rw [hc101]; show (if c91 k_ = m + 4 then 0 else c91 k_) = _; rw [hk_]; ((repeat' split) <;> omega))
  replace h83 := AT.rc (c' := c101) (j' := m + 3) h83 (fun k_ hk_ => by rw [hc101]; show (if c91 k_ = m + 4 then 0 else c91 k_) = _; rw [hk_]; ((repeat' split) <;> omega))
  replace h96 := SL.rc (c' := c101) (j' := 0) (i' := 0) h96.r (fun k_ hk_ => by rw [hc101]; show (if c91 k_ = m + 4 then 0 else c91 k_) = _; rw [hk_]; ((repeat' split) <;> omega)) (fun k_ hk_ => by rw [hc101]; show (if c91 k_ = m + 4 then 0 else c91 k_) = _; rw [hk_]; ((repeat' split) <;> omega))
  have E : Ev (fun x => False ∨ m ≤ x) c0 w0 c101 w98 := by rw [hc101]; exact E.freeze B0 (by omega)
  have B : CB (m + 20) c101 w98 := by rw [hc101]; exact B.freeze (by omega)
  as_aux_lemma =>
  refine qv F (r_build (v := .agg #[.int .i64 3, .slice A93 [97].length C94, .slice none 0 0, .int .i64 0]) F [(0, .int .i64 3), (1, .slice A93 [97].length C94)] (by exact ⟨rfl, rfl, rfl, rfl, trivial⟩) (fun w => by kernel_rfl)) fun a F => ?_
  obtain ⟨t102, q103, H⟩ := bind_some H
  refine qc F Tryz.func11 (shard_Shard_Do.calls k (m := m + 20) (a8 := api_Op.mk 3 [97] [] 0) (pl hm0) B h77 h96 SL.nil ⟨(pl hm0), lm⟩ ⟨(pl hm0), lm, mm⟩ _ q103) ?_
  rintro e w105 ⟨c104, A108, C109, A111, C112, rfl, E106, B107, h110, h113, h114⟩
  refine ⟨_, rfl, fun a F => ?_⟩
  have B := B107
  replace h83 := h83.ev E106 (nor mm mm)
  replace E := E.trans E106 lc2
  refine qm F fun a F => ?_
  refine qv F (r_extract F rfl rfl) fun a F => ?_
  refine qv F (r_extract F rfl rfl) fun a F => ?_
  refine qv F (r_extract F rfl rfl) fun a F => ?_
  refine q_eff F rfl rfl (by decide) (e_alloc F zv_32 c104 (m + 5)) ?_
  rintro v w117 a ⟨c116, qa118, rfl, E119, h120, B121⟩ F
  as_aux_lemma =>
  replace B := B121 _ B lm
  replace h83 := h83.ev E119 nq
  replace h114 := h114.ev E119 nq nq nq
  replace E := E.trans E119 nx
  replace h120 : AT true (m + 5) c116 w117 qa118 [.bool false, .slice none 0 0, .slice none 0 0, .int .i64 0, .int .i64 0] := h120
  refine q_eff0 F rfl rfl (e_storeN0 (us := [.bool t102.1.Done, .slice A108 t102.1.Key.length C109, .slice A111 t102.1.Value.length C112, .int .i64 t102.1.Rev, .int .i64 t102.1.At]) F rfl rfl sz_32 h120 (nb rfl) (one_all rfl)) ?_
  rintro w123 a ⟨E124, h120, Z125⟩ F
  replace B := B.size Z125
  replace h83 := h83.ev E124 mm
  replace h114 := h114.ev E124 mm mm ne_zm
  replace E := E.trans E124 lc1
  replace h120 : AT true (m + 5) c116 w123 qa118 [.bool t102.1.Done, .slice A108 t102.1.Key.length C109, .slice A111 t102.1.Value.length C112, .int .i64 t102.1.Rev, .int .i64 t102.1.At] := h120
  refine qa F fun a F => ?_
  refine qa F fun a F => ?_
  as_aux_lemma =>
  refine nil (hK89 _ _ ?_)
  replace F : Fr a 335 [(1, .pointer p20), (2, .pointer (some qa81)), (3, .bool t65.2.1), (5, .pointer (some qa118)), (6, .bool t102.2.1), (7, .int .i64 t102.2.2.1)] := F.sub ⟨rfl, rfl, rfl, rfl, rfl, rfl, trivial⟩
  refine wp_seq_k fun K126 hK126 => reg ?_
  refine qm F fun a F => ?_
  obtain ⟨t127, q128, H⟩ := bind_some H
  refine qc F Tryz.func34 (haulagelaw14_put.calls (m := m + 20) (pl hm0) B _ q128) ?_
  rintro e w130 ⟨c129, A133, C134, A136, C137, rfl, E131, B132, h135, h138⟩
  refine ⟨_, rfl, fun a F => ?_⟩
  have B := B132
  replace h83 := h83.ev E131 nq
  replace h114 := h114.ev E131 nq nq nq
  replace h120 := h120.ev E131 nq
  replace E := E.trans E131 nx
  obtain ⟨t140, q141, H⟩ := bind_some H
  as_aux_lemma =>
  refine qc F Tryz.func11 (shard_Shard_Do.calls k (m := m + 20) (pl hm0) B h114 h135 h138 ⟨(pl hm0), lm⟩ ⟨(pl hm0), lm, mm⟩ _ q141) ?_
  rintro e w143 ⟨c142, A146, C147, A149, C150, rfl, E144, B145, h148, h151, h152⟩
  refine ⟨_, rfl, fun a F => ?_⟩
  have B := B145
  replace h83 := h83.ev E144 (nor mm mm)
  replace h120 := h120.ev E144 (nor mm mm)
  replace E := E.trans E144 lc2
  refine qm F fun a F => ?_
  refine qv F (r_extract F rfl rfl) fun a F => ?_
  refine qv F (r_extract F rfl rfl) fun a F => ?_
  refine qv F (r_extract F rfl rfl) fun a F => ?_
  refine q_eff F rfl rfl (by decide) (e_alloc F zv_32 c142 (m + 6)) ?_
  rintro v w155 a ⟨c154, qa156, rfl, E157, h158, B159⟩ F
  replace B := B159 _ B lm
  as_aux_lemma =>
  replace h83 := h83.ev E157 nq
  replace h120 := h120.ev E157 nq
  replace h152 := h152.ev E157 nq nq nq
  replace E := E.trans E157 nx
  replace h158 : AT true (m + 6) c154 w155 qa156 [.bool false, .slice none 0 0, .slice none 0 0, .int .i64 0, .int .i64 0] := h158
  refine q_eff0 F rfl rfl (e_storeN0 (us := [.bool t140.1.Done, .slice A146 t140.1.Key.length C147, .slice A149 t140.1.Value.length C150, .int .i64 t140.1.Rev, .int .i64 t140.1.At]) F rfl rfl sz_32 h158 (nb rfl) (one_all rfl)) ?_
  rintro w161 a ⟨E162, h158, Z163⟩ F
  replace B := B.size Z163
  replace h83 := h83.ev E162 mm
  replace h120 := h120.ev E162 mm
  replace h152 := h152.ev E162 mm mm ne_zm
  replace E := E.trans E162 lc1
  refine qa F fun a F => ?_
  refine qa F fun a F => ?_
  as_aux_lemma =>
  refine nil (hK126 _ _ ?_)
  replace F : Fr a 335 [(1, .pointer p20), (2, .pointer (some qa81)), (3, .bool t65.2.1), (5, .pointer (some qa118)), (6, .bool t102.2.1), (7, .int .i64 t102.2.2.1), (10, .int .i64 t140.2.2.1)] := F.sub ⟨rfl, rfl, rfl, rfl, rfl, rfl, rfl, trivial⟩
  refine wp_seq_k fun K164 hK164 => reg ?_
  refine qm F fun a F => ?_
  refine q_eff F rfl rfl (by decide) (e_buildSliceF (n := 1) (e := 5) (c := c154) (k := (Kint .u8)) (i := 0) F [(0, .int .u8 97)] [.int .u8 97] ([97] : List Int) (by exact ⟨rfl, rfl, trivial⟩) (fun w => by kernel_rfl) rfl (by decide) rfl ⟨rfl, trivial⟩ (fun q => q) (m + 7)) ?_
  rintro v w167 a ⟨c166, A168, C169, rfl, E170, h171, B172, hf165⟩ F
  replace B := B172 _ B lm
  replace h83 := h83.ev E170 nq
  replace h120 := h120.ev E170 nq
  replace h152 := h152.ev E170 nq nq nq
  replace E := E.trans E170 nx
  refine q_eff F rfl rfl (by decide) (e_convb F Tryz.underlying27 Tryz.underlying5 rfl h171 hf165) ?_
  rintro v w173 a ⟨rfl, E174, h171, Z175⟩ F
  replace B := B.size Z175
  as_aux_lemma =>
  replace h83 := h83.ev E174 mm
  replace h120 := h120.ev E174 mm
  replace h152 := h152.ev E174 mm mm ne_zm
  replace E := E.trans E174 lc1
  obtain ⟨c176, hc176⟩ : ∃ c', c' = fun k => if c166 k = m + 7 then 0 else c166 k := ⟨_, rfl⟩
  replace h83 := AT.rc (c' := c176) (j' := m + 3) h83 (fun k_ hk_ => by rw [hc176]; show (if c166 k_ = m + 7 then 0 else c166 k_) = _; rw [hk_]; ((repeat' split) <;> omega))
  replace h120 := AT.rc (c' := c176) (j' := m + 5) h120 (fun k_ hk_ => by rw [hc176]; show (if c166 k_ = m + 7 then 0 else c166 k_) = _; rw [hk_]; ((repeat' split) <;> omega))
  replace h152 := SH.rc (c' := c176) (j' := m + 1) (i' := m + 2) h152 (fun k_ hk_ => by rw [hc176]; show (if c166 k_ = m + 7 then 0 else c166 k_) = _; rw [hk_]; ((repeat' split) <;> omega)) (fun k_ hk_ => by rw [hc176]; show (if c166 k_ = m + 7 then 0 else c166 k_) = _; rw [hk_]; ((repeat' split) <;> omega)) (fun k_ hk_ => by rw [hc176]; show (if c166 k_ = m + 7 then 0 else c166 k_) = _; rw [hk_]; ((repeat' split) <;> omega))
  replace h171 := SL.rc (c' := c176) (j' := 0) (i' := 0) h171.r (fun k_ hk_ => by rw [hc176]; show (if c166 k_ = m + 7 then 0 else c166 k_) = _; rw [hk_]; ((repeat' split) <;> omega)) (fun k_ hk_ => by rw [hc176]; show (if c166 k_ = m + 7 then 0 else c166 k_) = _; rw [hk_]; ((repeat' split) <;> omega))
  have E : Ev (fun x => False ∨ m ≤ x) c0 w0 c176 w173 := by rw [hc176]; exact E.freeze B0 (by omega)
  have B : CB (m + 20) c176 w173 := by rw [hc176]; exact B.freeze (by omega)
  refine q_eff F rfl rfl (by decide) (e_buildSliceF (n := 1) (e := 5) (c := c176) (k := (Kint .u8)) (i := 0) F [(0, .int .u8 53)] [.int .u8 53] ([53] : List Int) (by exact ⟨rfl, rfl, trivial⟩) (fun w => by kernel_rfl) rfl (by decide) rfl ⟨rfl, trivial⟩ (fun q => q) (m + 8)) ?_
  rintro v w179 a ⟨c178, A180, C181, rfl, E182, h183, B184, hf177⟩ F
  replace B := B184 _ B lm
  as_aux_lemma =>
  replace h83 := h83.ev E182 nq
  replace h120 := h120.ev E182 nq
  replace h152 := h152.ev E182 nq nq nq
  replace h171 := h171.ev E182 nq nq
  replace E := E.trans E182 nx
  refine q_eff F rfl rfl (by decide) (e_convb F Tryz.underlying27 Tryz.underlying5 rfl h183 hf177) ?_
  rintro v w185 a ⟨rfl, E186, h183, Z187⟩ F
  replace B := B.size Z187
  replace h83 := h83.ev E186 mm
  replace h120 := h120.ev E186 mm
  replace h152 := h152.ev E186 mm mm ne_zm
  replace h171 := h171.ev E186 ne_zm ne_zm
  replace E := E.trans E186 lc1
  obtain ⟨c188, hc188⟩ : ∃ c', c' = fun k => if c178 k = m + 8 then 0 else c178 k := ⟨_, rfl⟩
  as_aux_lemma =>
  replace h83 := AT.rc (c' := c188) (j' := m + 3) h83 (fun k_ hk_ => by rw [hc188]; show (if c178 k_ = m + 8 then 0 else c178 k_) = _; rw [hk_]; ((repeat' split) <;> omega))
  replace h120 := AT.rc (c' := c188) (j' := m + 5) h120 (fun k_ hk_ => by rw [hc188]; show (if c178 k_ = m + 8 then 0 else c178 k_) = _; rw [hk_]; ((repeat' split) <;> omega))
  replace h152 := SH.rc (c' := c188) (j' := m + 1) (i' := m + 2) h152 (fun k_ hk_ => by rw [hc188]; show (if c178 k_ = m + 8 then 0 else c178 k_) = _; rw [hk_]; ((repeat' split) <;> omega)) (fun k_ hk_ => by rw [hc188]; show (if c178 k_ = m + 8 then 0 else c178 k_) = _; rw [hk_]; ((repeat' split) <;> omega)) (fun k_ hk_ => by rw [hc188]; show (if c178 k_ = m + 8 then 0 else c178 k_) = _; rw [hk_]; ((repeat' split) <;> omega))
  replace h171 := SL.rc (c' := c188) (j' := 0) (i' := 0) h171 (fun k_ hk_ => by rw [hc188]; show (if c178 k_ = m + 8 then 0 else c178 k_) = _; rw [hk_]; ((repeat' split) <;> omega)) (fun k_ hk_ => by rw [hc188]; show (if c178 k_ = m + 8 then 0 else c178 k_) = _; rw [hk_]; ((repeat' split) <;> omega))
  replace h183 := SL.rc (c' := c188) (j' := 0) (i' := 0) h183.r (fun k_ hk_ => by rw [hc188]; show (if c178 k_ = m + 8 then 0 else c178 k_) = _; rw [hk_]; ((repeat' split) <;> omega)) (fun k_ hk_ => by rw [hc188]; show (if c178 k_ = m + 8 then 0 else c178 k_) = _; rw [hk_]; ((repeat' split) <;> omega))
  have E : Ev (fun x => False ∨ m ≤ x) c0 w0 c188 w185 := by rw [hc188]; exact E.freeze B0 (by omega)
  have B : CB (m + 20) c188 w185 := by rw [hc188]; exact B.freeze (by omega)
  refine qv F (r_build (v := .agg #[.int .i64 4, .slice A168 [97].length C169, .slice A180 [53].length C181, .int .i64 1]) F [(0, .int .i64 4), (1, .slice A168 [97].length C169), (2, .slice A180 [53].length C181), (3, .int .i64 1)] (by exact ⟨rfl, rfl, rfl, rfl, rfl, rfl, rfl, rfl, trivial⟩) (fun w => by kernel_rfl)) fun a F => ?_
  obtain ⟨t189, q190, H⟩ := bind_some H
  refine qc F Tryz.func11 (shard_Shard_Do.calls k (m := m + 20) (a8 := api_Op.mk 4 [97] [53] 1) (pl hm0) B h152 h171 h183 ⟨(pl hm0), lm⟩ ⟨(pl hm0), lm, mm⟩ _ q190) ?_
  rintro e w192 ⟨c191, A195, C196, A198, C199, rfl, E193, B194, h197, h200, h201⟩
  refine ⟨_, rfl, fun a F => ?_⟩
  have B := B194
  replace h83 := h83.ev E193 (nor mm mm)
  as_aux_lemma =>
  replace h120 := h120.ev E193 (nor mm mm)
  replace E := E.trans E193 lc2
  refine qm F fun a F => ?_
  refine qv F (r_extract F rfl rfl) fun a F => ?_
  refine qv F (r_extract F rfl rfl) fun a F => ?_
  refine qv F (r_extract F rfl rfl) fun a F => ?_
  refine q_eff F rfl rfl (by decide) (e_alloc F zv_32 c191 (m + 9)) ?_
  rintro v w204 a ⟨c203, qa205, rfl, E206, h207, B208⟩ F
  replace B := B208 _ B lm
  replace h83 := h83.ev E206 nq
  replace h120 := h120.ev E206 nq
  replace h201 := h201.ev E206 nq nq nq
  replace E := E.trans E206 nx
  replace h207 : AT true (m + 9) c203 w204 qa205 [.bool false, .slice none 0 0, .slice none 0 0, .int .i64 0, .int .i64 0] := h207
  as_aux_lemma =>
  refine q_eff0 F rfl rfl (e_storeN0 (us := [.bool t189.1.Done, .slice A195 t189.1.Key.length C196, .slice A198 t189.1.Value.length C199, .int .i64 t189.1.Rev, .int .i64 t189.1.At]) F rfl rfl sz_32 h207 (nb rfl) (one_all rfl)) ?_
  rintro w210 a ⟨E211, h207, Z212⟩ F
  replace B := B.size Z212
  replace h83 := h83.ev E211 mm
  replace h120 := h120.ev E211 mm
  replace h201 := h201.ev E211 mm mm ne_zm
  replace E := E.trans E211 lc1
  replace h207 : AT true (m + 9) c203 w210 qa205 [.bool t189.1.Done, .slice A195 t189.1.Key.length C196, .slice A198 t189.1.Value.length C199, .int .i64 t189.1.Rev, .int .i64 t189.1.At] := h207
  refine qa F fun a F => ?_
  refine qa F fun a F => ?_
  refine nil (hK164 _ _ ?_)
  replace F : Fr a 335 [(1, .pointer p20), (2, .pointer (some qa81)), (3, .bool t65.2.1), (5, .pointer (some qa118)), (6, .bool t102.2.1), (7, .int .i64 t102.2.2.1), (10, .int .i64 t140.2.2.1), (11, .pointer (some qa205)), (12, .bool t189.2.1), (13, .int .i64 t189.2.2.1)] := F.sub ⟨rfl, rfl, rfl, rfl, rfl, rfl, rfl, rfl, rfl, rfl, trivial⟩
  refine wp_seq_k fun K213 hK213 => ?_
  refine wp_seq_k fun K214 hK214 => ?_
  have J250 : ∀ (c251 : Nat → Nat) (w252 : World) (a : Act) (b249 : Bool), Fr a 335 [(1, .pointer p20), (142, .bool b249)] → Ev (fun x => False ∨ m ≤ x) c0 w0 c251 w252 → CB (m + 20) c251 w252 → SH (m + 1) (m + 2) c251 w252 p20 t189.2.2.2 → haulagelaw14_ShardKnown.j1 k t189 b249 = some r → K214 a w252 := by
   intro c251 w252 a b249 F E B h201 H
   unfold haulagelaw14_ShardKnown.j1 at H
   as_aux_lemma =>
   refine hK214 _ _ ?_
   by_cases hb253 : b249 = true
   ·replace H := ip hb253 H
    refine wp_cond_true (fb F hb253) ?_
    refine wp_seq_k fun K254 hK254 => reg ?_
    refine qa F fun a F => ?_
    refine nil (hK254 _ _ ?_)
    refine wp_ret ?_
    refine thenR ?_
    replace H := si H
    subst H
    refine out1 F rfl rfl ?_
    exact ⟨cf (fun x_ => if x_ < m then x_ else 0) c251, rfl, E.lv B0, cfb⟩
   replace H := im hb253 H
   refine wp_cond_false (fb F (bfalse hb253)) (wp_skip (hK213 _ _ ?_))
   as_aux_lemma =>
   refine wp_seq_k fun K255 hK255 => reg ?_
   refine q_eff F rfl rfl (by decide) (e_buildSlice (n := 20) (e := 5) (c := c251) (k := (Kint .u8)) (i := 0) F [(0, .int .u8 2), (1, .int .u8 3), (2, .int .u8 0), (3, .int .u8 2), (4, .int .u8 0), (5, .int .u8 9), (6, .int .u8 0), (7, .int .u8 0), (8, .int .u8 0), (9, .int .u8 0), (10, .int .u8 3), (11, .int .u8 3), (12, .int .u8 2), (13, .int .u8 1), (14, .int .u8 1), (15, .int .u8 97), (16, .int .u8 1), (17, .int .u8 49), (18, .int .u8 1), (19, .int .u8 2)] [.int .u8 2, .int .u8 3, .int .u8 0, .int .u8 2, .int .u8 0, .int .u8 9, .int .u8 0, .int .u8 0, .int .u8 0, .int .u8 0, .int .u8 3, .int .u8 3, .int .u8 2, .int .u8 1, .int .u8 1, .int .u8 97, .int .u8 1, .int .u8 49, .int .u8 1, .int .u8 2] ([2, 3, 0, 2, 0, 9, 0, 0, 0, 0, 3, 3, 2, 1, 1, 97, 1, 49, 1, 2] : List Int) (by exact ⟨rfl, rfl, rfl, rfl, rfl, rfl, rfl, rfl, rfl, rfl, rfl, rfl, rfl, rfl, rfl, rfl, rfl, rfl, rfl, rfl, rfl, rfl, rfl, rfl, rfl, rfl, rfl, rfl, rfl, rfl, rfl, rfl, rfl, rfl, rfl, rfl, rfl, rfl, rfl, rfl, trivial⟩) (fun w => by kernel_rfl) rfl (by decide) rfl ⟨rfl, rfl, rfl, rfl, rfl, rfl, rfl, rfl, rfl, rfl, rfl, rfl, rfl, rfl, rfl, rfl, rfl, rfl, rfl, rfl, trivial⟩ (fun q => q) 0) ?_
   rintro v w257 a ⟨c256, A258, C259, rfl, E260, h261, B262⟩ F
   replace B := B262 _ B (pl hm0)
   replace h201 := h201.ev E260 nq nq nq
   replace E := E.trans E260 nx
   refine qa F fun a F => ?_
   refine nil (hK255 _ _ ?_)
   refine wp_seq_k fun K263 hK263 => ?_
   refine wp_seq_k fun K264 hK264 => ?_
   have J291 : ∀ (c292 : Nat → Nat) (w293 : World) (a : Act) (b290 : Bool), Fr a 335 [(1, .pointer p20), (14, .slice A258 [2, 3, 0, 2, 0, 9, 0, 0, 0, 0, 3, 3, 2, 1, 1, 97, 1, 49, 1, 2].length C259), (155, .bool b290)] → Ev (fun x => False ∨ m ≤ x) c0 w0 c292 w293 → CB (m + 20) c292 w293 → SH (m + 1) (m + 2) c292 w293 p20 t189.2.2.2 → SL true (Kint .u8) 0 0 c292 w293 A258 C259 [2, 3, 0, 2, 0, 9, 0, 0, 0, 0, 3, 3, 2, 1, 1, 97, 1, 49, 1, 2] → haulagelaw14_ShardKnown.j2 k t189 b290 = some r → K264 a w293 := by
    intro c292 w293 a b290 F E B h201 h261 H
    unfold haulagelaw14_ShardKnown.j2 at H
    refine hK264 _ _ ?_
    by_cases hb294 : b290 = true
    ·replace H := ip hb294 H
     as_aux_lemma =>
     refine wp_cond_true (fb F hb294) ?_
     refine wp_seq_k fun K295 hK295 => reg ?_
     refine qa F fun a F => ?_
     refine nil (hK295 _ _ ?_)
     refine wp_ret ?_
     refine thenR ?_
     replace H := si H
     subst H
     refine out1 F rfl rfl ?_
     exact ⟨cf (fun x_ => if x_ < m then x_ else 0) c292, rfl, E.lv B0, cfb⟩
    replace H := im hb294 H
    refine wp_cond_false (fb F (bfalse hb294)) (wp_skip (hK263 _ _ ?_))
    refine wp_seq_k fun K296 hK296 => reg ?_
    refine qm F fun a F => ?_
    obtain ⟨t297, q298, H⟩ := bind_some H
    as_aux_lemma =>
    refine qc F Tryz.func35 (haulagelaw14_get.calls (m := m + 20) (pl hm0) B 0 (pl hm0) _ q298) ?_
    rintro e w300 ⟨c299, A303, C304, A306, C307, rfl, E301, B302, h305, h308⟩
    refine ⟨_, rfl, fun a F => ?_⟩
    have B := B302
    replace h201 := h201.ev E301 nq nq nq
    replace E := E.trans E301 nx
    obtain ⟨t310, q311, H⟩ := bind_some H
    refine qc F Tryz.func11 (shard_Shard_Do.calls k (m := m + 20) (pl hm0) B h201 h305 h308.r ⟨(pl hm0), lm⟩ ⟨(pl hm0), lm, mm⟩ _ q311) ?_
    rintro e w313 ⟨c312, A316, C317, A319, C320, rfl, E314, B315, h318, h321, h322⟩
    refine ⟨_, rfl, fun a F => ?_⟩
    have B := B315
    replace E := E.trans E314 lc2
    refine qm F fun a F => ?_
    refine qv F (r_extract F rfl rfl) fun a F => ?_
    as_aux_lemma =>
    refine qv F (r_extract F rfl rfl) fun a F => ?_
    refine qv F (r_extract F rfl rfl) fun a F => ?_
    refine q_eff F rfl rfl (by decide) (e_alloc F zv_32 c312 (m + 10)) ?_
    rintro v w325 a ⟨c324, qa326, rfl, E327, h328, B329⟩ F
    replace B := B329 _ B lm
    replace h322 := h322.ev E327 nq nq nq
    replace E := E.trans E327 nx
    replace h328 : AT true (m + 10) c324 w325 qa326 [.bool false, .slice none 0 0, .slice none 0 0, .int .i64 0, .int .i64 0] := h328
    refine q_eff0 F rfl rfl (e_storeN0 (us := [.bool t310.1.Done, .slice A316 t310.1.Key.length C317, .slice A319 t310.1.Value.length C320, .int .i64 t310.1.Rev, .int .i64 t310.1.At]) F rfl rfl sz_32 h328 (nb rfl) (one_all rfl)) ?_
    rintro w331 a ⟨E332, h328, Z333⟩ F
    replace B := B.size Z333
    replace h322 := h322.ev E332 mm mm ne_zm
    replace E := E.trans E332 lc1
    refine qa F fun a F => ?_
    as_aux_lemma =>
    refine qa F fun a F => ?_
    refine nil (hK296 _ _ ?_)
    replace F : Fr a 335 [(1, .pointer p20), (14, .slice A258 [2, 3, 0, 2, 0, 9, 0, 0, 0, 0, 3, 3, 2, 1, 1, 97, 1, 49, 1, 2].length C259), (17, .int .i64 t310.2.2.1)] := F.sub ⟨rfl, rfl, rfl, trivial⟩
    refine wp_seq_k fun K334 hK334 => reg ?_
    refine qm F fun a F => ?_
    obtain ⟨t335, q336, H⟩ := bind_some H
    refine qc F Tryz.func35 (haulagelaw14_get.calls (m := m + 20) (pl hm0) B 0 (pl hm0) _ q336) ?_
    rintro e w338 ⟨c337, A341, C342, A344, C345, rfl, E339, B340, h343, h346⟩
    refine ⟨_, rfl, fun a F => ?_⟩
    have B := B340
    replace h322 := h322.ev E339 nq nq nq
    replace E := E.trans E339 nx
    obtain ⟨t348, q349, H⟩ := bind_some H
    refine qc F Tryz.func11 (shard_Shard_Do.calls k (m := m + 20) (pl hm0) B h322 h343 h346.r ⟨(pl hm0), lm⟩ ⟨(pl hm0), lm, mm⟩ _ q349) ?_
    rintro e w351 ⟨c350, A354, C355, A357, C358, rfl, E352, B353, h356, h359, h360⟩
    as_aux_lemma =>
    refine ⟨_, rfl, fun a F => ?_⟩
    have B := B353
    replace E := E.trans E352 lc2
    refine qm F fun a F => ?_
    refine qv F (r_extract F rfl rfl) fun a F => ?_
    refine qv F (r_extract F rfl rfl) fun a F => ?_
    refine qv F (r_extract F rfl rfl) fun a F => ?_
    refine q_eff F rfl rfl (by decide) (e_alloc F zv_32 c350 (m + 11)) ?_
    rintro v w363 a ⟨c362, qa364, rfl, E365, h366, B367⟩ F
    replace B := B367 _ B lm
    replace h360 := h360.ev E365 nq nq nq
    replace E := E.trans E365 nx
    replace h366 : AT true (m + 11) c362 w363 qa364 [.bool false, .slice none 0 0, .slice none 0 0, .int .i64 0, .int .i64 0] := h366
    refine q_eff0 F rfl rfl (e_storeN0 (us := [.bool t348.1.Done, .slice A354 t348.1.Key.length C355, .slice A357 t348.1.Value.length C358, .int .i64 t348.1.Rev, .int .i64 t348.1.At]) F rfl rfl sz_32 h366 (nb rfl) (one_all rfl)) ?_
    rintro w369 a ⟨E370, h366, Z371⟩ F
    as_aux_lemma =>
    replace B := B.size Z371
    replace h360 := h360.ev E370 mm mm ne_zm
    replace E := E.trans E370 lc1
    refine qa F fun a F => ?_
    refine qa F fun a F => ?_
    refine nil (hK334 _ _ ?_)
    replace F : Fr a 335 [(1, .pointer p20), (14, .slice A258 [2, 3, 0, 2, 0, 9, 0, 0, 0, 0, 3, 3, 2, 1, 1, 97, 1, 49, 1, 2].length C259), (17, .int .i64 t310.2.2.1), (20, .int .i64 t348.2.2.1)] := F.sub ⟨rfl, rfl, rfl, rfl, trivial⟩
    refine wp_seq_k fun K372 hK372 => reg ?_
    refine qm F fun a F => ?_
    refine qv F (r_build (v := .agg #[.int .i64 9, .slice none 0 0, .slice none 0 0, .int .i64 0]) F [(0, .int .i64 9)] (by exact ⟨rfl, rfl, trivial⟩) (fun w => by kernel_rfl)) fun a F => ?_
    obtain ⟨t373, q374, H⟩ := bind_some H
    refine qc F Tryz.func11 (shard_Shard_Do.calls k (m := m + 20) (a8 := api_Op.mk 9 [] [] 0) (pl hm0) B h360 SL.nil SL.nil ⟨(pl hm0), lm⟩ ⟨(pl hm0), lm, mm⟩ _ q374) ?_
    rintro e w376 ⟨c375, A379, C380, A382, C383, rfl, E377, B378, h381, h384, h385⟩
    refine ⟨_, rfl, fun a F => ?_⟩
    have B := B378
    as_aux_lemma =>
    replace E := E.trans E377 lc2
    refine qm F fun a F => ?_
    refine qv F (r_extract F rfl rfl) fun a F => ?_
    refine qv F (r_extract F rfl rfl) fun a F => ?_
    refine qv F (r_extract F rfl rfl) fun a F => ?_
    refine q_eff F rfl rfl (by decide) (e_alloc F zv_32 c375 (m + 12)) ?_
    rintro v w388 a ⟨c387, qa389, rfl, E390, h391, B392⟩ F
    replace B := B392 _ B lm
    replace h385 := h385.ev E390 nq nq nq
    replace E := E.trans E390 nx
    replace h391 : AT true (m + 12) c387 w388 qa389 [.bool false, .slice none 0 0, .slice none 0 0, .int .i64 0, .int .i64 0] := h391
    refine q_eff0 F rfl rfl (e_storeN0 (us := [.bool t373.1.Done, .slice A379 t373.1.Key.length C380, .slice A382 t373.1.Value.length C383, .int .i64 t373.1.Rev, .int .i64 t373.1.At]) F rfl rfl sz_32 h391 (nb rfl) (one_all rfl)) ?_
    rintro w394 a ⟨E395, h391, Z396⟩ F
    replace B := B.size Z396
    as_aux_lemma =>
    replace h385 := h385.ev E395 mm mm ne_zm
    replace E := E.trans E395 lc1
    refine qa F fun a F => ?_
    refine qa F fun a F => ?_
    refine nil (hK372 _ _ ?_)
    replace F : Fr a 335 [(1, .pointer p20), (14, .slice A258 [2, 3, 0, 2, 0, 9, 0, 0, 0, 0, 3, 3, 2, 1, 1, 97, 1, 49, 1, 2].length C259), (17, .int .i64 t310.2.2.1), (20, .int .i64 t348.2.2.1), (23, .int .i64 t373.2.2.1)] := F.sub ⟨rfl, rfl, rfl, rfl, rfl, trivial⟩
    refine wp_seq_k fun K397 hK397 => reg ?_
    refine qm F fun a F => ?_
    obtain ⟨t398, q399, H⟩ := bind_some H
    refine qc F Tryz.func35 (haulagelaw14_get.calls (m := m + 20) (pl hm0) B 0 (pl hm0) _ q399) ?_
    rintro e w401 ⟨c400, A404, C405, A407, C408, rfl, E402, B403, h406, h409⟩
    refine ⟨_, rfl, fun a F => ?_⟩
    have B := B403
    replace h385 := h385.ev E402 nq nq nq
    as_aux_lemma =>
    replace E := E.trans E402 nx
    obtain ⟨t411, q412, H⟩ := bind_some H
    refine qc F Tryz.func27 (shard_Shard_After.calls k (m := m + 20) (pl hm0) B h385 h406 h409.r lm ⟨lm, mm⟩ _ q412) ?_
    rintro e w414 ⟨c413, rfl, E415, B416⟩
    refine ⟨_, rfl, fun a F => ?_⟩
    have B := B416
    replace h385 := h385.ev E415 nq nq nq
    replace E := E.trans E415 nx
    refine qm F fun a F => ?_
    refine qv F (r_extract F rfl rfl) fun a F => ?_
    refine qv F (r_extract F rfl rfl) fun a F => ?_
    refine qa F fun a F => ?_
    refine qa F fun a F => ?_
    refine nil (hK397 _ _ ?_)
    as_aux_lemma =>
    refine wp_seq_k fun K418 hK418 => reg ?_
    refine qm F fun a F => ?_
    obtain ⟨t419, q420, H⟩ := bind_some H
    refine qc F Tryz.func34 (haulagelaw14_put.calls (m := m + 20) (pl hm0) B _ q420) ?_
    rintro e w422 ⟨c421, A425, C426, A428, C429, rfl, E423, B424, h427, h430⟩
    refine ⟨_, rfl, fun a F => ?_⟩
    have B := B424
    replace h385 := h385.ev E423 nq nq nq
    replace E := E.trans E423 nx
    obtain ⟨t432, q433, H⟩ := bind_some H
    refine qc F Tryz.func27 (shard_Shard_After.calls k (m := m + 20) (pl hm0) B h385 h427 h430 lm ⟨lm, mm⟩ _ q433) ?_
    rintro e w435 ⟨c434, rfl, E436, B437⟩
    refine ⟨_, rfl, fun a F => ?_⟩
    have B := B437
    as_aux_lemma =>
    replace h385 := h385.ev E436 nq nq nq
    replace E := E.trans E436 nx
    refine qm F fun a F => ?_
    refine qv F (r_extract F rfl rfl) fun a F => ?_
    refine qv F (r_extract F rfl rfl) fun a F => ?_
    refine qa F fun a F => ?_
    refine qa F fun a F => ?_
    refine nil (hK418 _ _ ?_)
    replace F : Fr a 335 [(1, .pointer p20), (14, .slice A258 [2, 3, 0, 2, 0, 9, 0, 0, 0, 0, 3, 3, 2, 1, 1, 97, 1, 49, 1, 2].length C259), (17, .int .i64 t310.2.2.1), (20, .int .i64 t348.2.2.1), (23, .int .i64 t373.2.2.1), (25, .int .i64 t411.2), (26, .int .i64 t432.1), (27, .int .i64 t432.2)] := F.sub ⟨rfl, rfl, rfl, rfl, rfl, rfl, rfl, rfl, trivial⟩
    refine wp_seq_k fun K439 hK439 => reg ?_
    refine qm F fun a F => ?_
    obtain ⟨t440, q441, H⟩ := bind_some H
    refine qc F Tryz.func36 (shard_Shard_Seats.calls k (m := m + 20) (pl hm0) B h385 lm ⟨lm, mm⟩ 0 (pl hm0) _ q441) ?_
    rintro e w443 ⟨c442, A446, C447, rfl, E444, B445, h448⟩
    as_aux_lemma =>
    refine ⟨_, rfl, fun a F => ?_⟩
    have B := B445
    replace E := E.trans E444 nx
    refine qa F fun a F => ?_
    refine nil (hK439 _ _ ?_)
    refine wp_seq_k fun K450 hK450 => ?_
    refine wp_seq_k fun K451 hK451 => ?_
    have J539 : ∀ (c540 : Nat → Nat) (w541 : World) (a : Act) (b538 : Bool), Fr a 335 [(247, .bool b538)] → Ev (fun x => False ∨ m ≤ x) c0 w0 c540 w541 → CB (m + 20) c540 w541 → haulagelaw14_ShardKnown.j3 k b538 = some r → K451 a w541 := by
     intro c540 w541 a b538 F E B  H
     unfold haulagelaw14_ShardKnown.j3 at H
     refine hK451 _ _ ?_
     by_cases hb542 : b538 = true
     ·replace H := ip hb542 H
      refine wp_cond_true (fb F hb542) ?_
      refine wp_seq_k fun K543 hK543 => reg ?_
      as_aux_lemma =>
      refine qa F fun a F => ?_
      refine nil (hK543 _ _ ?_)
      refine wp_ret ?_
      refine thenR ?_
      replace H := si H
      subst H
      refine out1 F rfl rfl ?_
      exact ⟨cf (fun x_ => if x_ < m then x_ else 0) c540, rfl, E.lv B0, cfb⟩
     replace H := im hb542 H
     refine wp_cond_false (fb F (bfalse hb542)) (wp_skip (hK450 _ _ ?_))
     refine wp_seq_k fun K544 hK544 => reg ?_
     refine qa F fun a F => ?_
     refine nil (hK544 _ _ ?_)
     refine wp_seq_k fun K545 hK545 => reg ?_
     as_aux_lemma =>
     refine qm F fun a F => ?_
     obtain ⟨t546, q547, H⟩ := bind_some H
     refine qc F Tryz.func35 (haulagelaw14_get.calls (m := m + 20) (pl hm0) B 0 (pl hm0) _ q547) ?_
     rintro e w549 ⟨c548, A552, C553, A555, C556, rfl, E550, B551, h554, h557⟩
     refine ⟨_, rfl, fun a F => ?_⟩
     have B := B551
     replace E := E.trans E550 nx
     obtain ⟨t559, q560, H⟩ := bind_some H
     refine qc F Tryz.func11 (shard_Shard_Do.calls k (m := m + 20) (pl hm0) B (SH.nil (j := m) (i := m + 13)) h554 h557.r ⟨hm0, (Nat.lt_add_of_pos_right (by decide))⟩ ⟨(pl hm0), lm, ne_0m⟩ _ q560) ?_
     rintro e w562 ⟨c561, A565, C566, A568, C569, rfl, E563, B564, h567, h570, h571⟩
     refine ⟨_, rfl, fun a F => ?_⟩
     have B := B564
     replace E := E.trans E563 (fun x (q : x = m ∨ x = m + 13) => q.elim (fun q => Or.inr (le_col0 q)) (fun q => Or.inr (le_col q)))
     refine qm F fun a F => ?_
     as_aux_lemma =>
     refine qv F (r_extract F rfl rfl) fun a F => ?_
     refine qv F (r_extract F rfl rfl) fun a F => ?_
     refine qv F (r_extract F rfl rfl) fun a F => ?_
     refine q_eff F rfl rfl (by decide) (e_alloc F zv_32 c561 (m + 14)) ?_
     rintro v w574 a ⟨c573, qa575, rfl, E576, h577, B578⟩ F
     replace B := B578 _ B lm
     replace h571 := h571.ev E576 nq nq nq
     replace E := E.trans E576 nx
     replace h577 : AT true (m + 14) c573 w574 qa575 [.bool false, .slice none 0 0, .slice none 0 0, .int .i64 0, .int .i64 0] := h577
     refine q_eff0 F rfl rfl (e_storeN0 (us := [.bool t559.1.Done, .slice A565 t559.1.Key.length C566, .slice A568 t559.1.Value.length C569, .int .i64 t559.1.Rev, .int .i64 t559.1.At]) F rfl rfl sz_32 h577 (nb rfl) (one_all rfl)) ?_
     rintro w580 a ⟨E581, h577, Z582⟩ F
     replace B := B.size Z582
     replace h571 := h571.ev E581 ne_m0 mm ne_zm
     replace E := E.trans E581 lc1
     as_aux_lemma =>
     refine qa F fun a F => ?_
     refine qa F fun a F => ?_
     refine nil (hK545 _ _ ?_)
     replace F : Fr a 335 [(29, .pointer none), (32, .int .i64 t559.2.2.1)] := F.sub ⟨rfl, rfl, trivial⟩
     refine wp_seq_k fun K583 hK583 => reg ?_
     refine qm F fun a F => ?_
     obtain ⟨t584, q585, H⟩ := bind_some H
     refine qc F Tryz.func35 (haulagelaw14_get.calls (m := m + 20) (pl hm0) B 0 (pl hm0) _ q585) ?_
     rintro e w587 ⟨c586, A590, C591, A593, C594, rfl, E588, B589, h592, h595⟩
     refine ⟨_, rfl, fun a F => ?_⟩
     have B := B589
     replace h571 := h571.ev E588 nq nq nq
     replace E := E.trans E588 nx
     obtain ⟨t597, q598, H⟩ := bind_some H
     as_aux_lemma =>
     refine qc F Tryz.func27 (shard_Shard_After.calls k (m := m + 20) (pl hm0) B h571 h592 h595.r (Nat.lt_add_of_pos_right (by decide)) ⟨lm, ne_0m⟩ _ q598) ?_
     rintro e w600 ⟨c599, rfl, E601, B602⟩
     refine ⟨_, rfl, fun a F => ?_⟩
     have B := B602
     replace h571 := h571.ev E601 nq nq nq
     replace E := E.trans E601 nx
     refine qm F fun a F => ?_
     refine qv F (r_extract F rfl rfl) fun a F => ?_
     refine qv F (r_extract F rfl rfl) fun a F => ?_
     refine qa F fun a F => ?_
     refine qa F fun a F => ?_
     refine nil (hK583 _ _ ?_)
     refine wp_seq_k fun K604 hK604 => reg ?_
     refine qm F fun a F => ?_
     obtain ⟨t605, q606, H⟩ := bind_some H
     as_aux_lemma =>
     refine qc F Tryz.func29 (shard_Shard_Seat.calls (m := m + 20) (pl hm0) B h571 (Nat.lt_add_of_pos_right (by decide)) ⟨lm, ne_0m⟩ _ q606) ?_
     rintro e w608 ⟨c607, A611, C612, A614, C615, rfl, E609, B610, h613, h616⟩
     refine ⟨_, rfl, fun a F => ?_⟩
     have B := B610
     replace h571 := h571.ev E609 nq nq nq
     replace E := E.trans E609 nx
     refine qm F fun a F => ?_
     refine qv F (r_extract F rfl rfl) fun a F => ?_
     refine qv F (r_extract F rfl rfl) fun a F => ?_
     refine q_eff F rfl rfl (by decide) (e_alloc F zv_60 c607 (m + 15)) ?_
     rintro v w619 a ⟨c618, qa620, rfl, E621, h622, B623⟩ F
     replace B := B623 _ B lm
     replace h571 := h571.ev E621 nq nq nq
     replace E := E.trans E621 nx
     as_aux_lemma =>
     replace h622 : AT true (m + 15) c618 w619 qa620 [.int .i64 0, .int .i64 0, .bool false, .slice none 0 0, .slice none 0 0, .int .i64 0, .int .i64 0] := h622
     refine q_eff0 F rfl rfl (e_storeN0 (us := [.int .i64 t605.1.Client, .int .i64 t605.1.Seq, .bool t605.1.Answer.Done, .slice A611 t605.1.Answer.Key.length C612, .slice A614 t605.1.Answer.Value.length C615, .int .i64 t605.1.Answer.Rev, .int .i64 t605.1.Answer.At]) F rfl rfl sz_60 h622 (nb rfl) (one_all rfl)) ?_
     rintro w625 a ⟨E626, h622, Z627⟩ F
     replace B := B.size Z627
     replace h571 := h571.ev E626 ne_m0 mm ne_zm
     replace E := E.trans E626 lc1
     refine qa F fun a F => ?_
     refine nil (hK604 _ _ ?_)
     replace F : Fr a 335 [(29, .pointer none), (32, .int .i64 t559.2.2.1), (34, .int .i64 t597.2), (36, .bool t605.2)] := F.sub ⟨rfl, rfl, rfl, rfl, trivial⟩
     refine wp_seq_k fun K628 hK628 => reg ?_
     refine q_eff F rfl rfl (by decide) (e_buildSlice (n := 3) (e := 5) (c := c618) (k := (Kint .u8)) (i := 0) F [(0, .int .u8 2), (1, .int .u8 0), (2, .int .u8 0)] [.int .u8 2, .int .u8 0, .int .u8 0] ([2, 0, 0] : List Int) (by exact ⟨rfl, rfl, rfl, rfl, rfl, rfl, trivial⟩) (fun w => by kernel_rfl) rfl (by decide) rfl ⟨rfl, rfl, rfl, trivial⟩ (fun q => q) 0) ?_
     rintro v w630 a ⟨c629, A631, C632, rfl, E633, h634, B635⟩ F
     replace B := B635 _ B (pl hm0)
     replace h571 := h571.ev E633 nq nq nq
     as_aux_lemma =>
     replace E := E.trans E633 nx
     obtain ⟨t636, q637, H⟩ := bind_some H
     refine qc F Tryz.func17 (shard_Import.calls k (m := m + 20) (pl hm0) B h634.r (m + 16) lm (m + 17) lm _ q637) ?_
     rintro e w639 ⟨c638, p642, rfl, E640, B641, h643⟩
     refine ⟨_, rfl, fun a F => ?_⟩
     have B := B641
     replace h571 := h571.ev E640 nq nq nq
     replace E := E.trans E640 nx
     refine qm F fun a F => ?_
     refine qv F (r_extract F rfl rfl) fun a F => ?_
     refine qv F (r_extract F rfl rfl) fun a F => ?_
     refine qa F fun a F => ?_
     refine qa F fun a F => ?_
     refine nil (hK628 _ _ ?_)
     as_aux_lemma =>
     refine wp_seq_k fun K645 hK645 => reg ?_
     refine qm F fun a F => ?_
     obtain ⟨t646, q647, H⟩ := bind_some H
     refine qc F Tryz.func12 (haulagelaw14_num.calls (m := m + 20) (pl hm0) B _ q647) ?_
     rintro e w649 ⟨c648, rfl, E650, B651⟩
     refine ⟨_, rfl, fun a F => ?_⟩
     have B := B651
     replace h571 := h571.ev E650 nq nq nq
     replace h643 := h643.ev E650 nq nq nq
     replace E := E.trans E650 nx
     refine qv F (r_eql F rfl rfl) fun a F => ?_
     refine qm F fun a F => ?_
     by_cases hb653 : t646 = 1
     ·replace H := ip hb653 H
      refine qy F (dt hb653) ?_
      as_aux_lemma =>
      refine qm F fun a F => ?_
      obtain ⟨t654, q655, H⟩ := bind_some H
      refine qy F (dt hb653) ?_
      refine qc F Tryz.func12 (haulagelaw14_num.calls (m := m + 20) (pl hm0) B _ q655) ?_
      rintro e w657 ⟨c656, rfl, E658, B659⟩
      refine ⟨_, rfl, fun a F => ?_⟩
      have B := B659
      replace h571 := h571.ev E658 nq nq nq
      replace h643 := h643.ev E658 nq nq nq
      replace E := E.trans E658 nx
      refine qy F (dt hb653) ?_
      refine qv F (r_eql F rfl rfl) fun a F => ?_
      refine qv F (r_pick_t F rfl (dt hb653) rfl) fun a F => ?_
      refine qm F fun a F => ?_
      by_cases hb661 : t654 = 1
      ·replace H := ip hb661 H
       as_aux_lemma =>
       refine qy F (dt hb661) ?_
       refine qm F fun a F => ?_
       refine qy F (dt hb661) ?_
       refine qv F (r_not F rfl) fun a F => ?_
       refine qv F (r_pick_t F rfl (dt hb661) rfl) fun a F => ?_
       refine qm F fun a F => ?_
       by_cases hb662 : t605.2 = true
       ·replace H := ip hb662 H
        refine qn F (congrArg not hb662) fun a F => ?_
        refine qn F (congrArg not hb662) fun a F => ?_
        refine qn F (congrArg not hb662) fun a F => ?_
        refine qv F (r_pick_f F rfl (congrArg not hb662) rfl) fun a F => ?_
        refine qm F fun a F => ?_
        refine qn F rfl fun a F => ?_
        refine qn F rfl fun a F => ?_
        as_aux_lemma =>
        refine qn F rfl fun a F => ?_
        refine qn F rfl fun a F => ?_
        refine qv F (r_pick_f F rfl rfl rfl) fun a F => ?_
        refine qm F fun a F => ?_
        refine qn F rfl fun a F => ?_
        refine qn F rfl fun a F => ?_
        refine qn F rfl fun a F => ?_
        refine qv F (r_pick_f F rfl rfl rfl) fun a F => ?_
        refine qm F fun a F => ?_
        refine qn F rfl fun a F => ?_
        refine qn F rfl fun a F => ?_
        refine qn F rfl fun a F => ?_
        refine qv F (r_pick_f F rfl rfl rfl) fun a F => ?_
        refine qm F fun a F => ?_
        as_aux_lemma =>
        refine qn F rfl fun a F => ?_
        refine qn F rfl fun a F => ?_
        refine qn F rfl fun a F => ?_
        refine qv F (r_pick_f F rfl rfl rfl) fun a F => ?_
        refine qm F fun a F => ?_
        refine qn F rfl fun a F => ?_
        refine qn F rfl fun a F => ?_
        refine qn F rfl fun a F => ?_
        refine qv F (r_pick_f F rfl rfl rfl) fun a F => ?_
        refine qm F fun a F => ?_
        refine qn F rfl fun a F => ?_
        refine qn F rfl fun a F => ?_
        refine qn F rfl fun a F => ?_
        refine qn F rfl fun a F => ?_
        as_aux_lemma =>
        refine qv F (r_pick_f F rfl rfl rfl) fun a F => ?_
        refine qm F fun a F => ?_
        refine qn F rfl fun a F => ?_
        refine qn F rfl fun a F => ?_
        refine qn F rfl fun a F => ?_
        refine qn F rfl fun a F => ?_
        refine qv F (r_pick_f F rfl rfl rfl) fun a F => ?_
        refine qm F fun a F => ?_
        refine qn F rfl fun a F => ?_
        refine qn F rfl fun a F => ?_
        refine qv F (r_pick_f F rfl rfl rfl) fun a F => ?_
        refine qm F fun a F => ?_
        refine qn F rfl fun a F => ?_
        refine qn F rfl fun a F => ?_
        as_aux_lemma =>
        refine qn F rfl fun a F => ?_
        refine qv F (r_pick_f F rfl rfl rfl) fun a F => ?_
        refine qa F fun a F => ?_
        refine nil (hK645 _ _ ?_)
        replace F : Fr a 335 [(0, .bool false)] := F.sub ⟨rfl, trivial⟩
        refine wp_ret ?_
        replace H := si H
        subst H
        refine out1 F rfl rfl ?_
        exact ⟨cf (fun x_ => if x_ < m then x_ else 0) c656, rfl, E.lv B0, cfb⟩
       replace H := im hb662 H
       refine qy F (congrArg not (bfalse hb662)) ?_
       refine qm F fun a F => ?_
       obtain ⟨t663, q664, H⟩ := bind_some H
       as_aux_lemma =>
       refine qy F (congrArg not (bfalse hb662)) ?_
       refine qc F Tryz.func26 (shard_Shard_Copy.calls (m := m + 20) (pl hm0) B h571 (Nat.lt_add_of_pos_right (by decide)) ⟨lm, ne_0m⟩ (m + 18) lm (m + 19) lm _ q664) ?_
       rintro e w666 ⟨c665, p669, rfl, E667, B668, h670⟩
       refine ⟨_, rfl, fun a F => ?_⟩
       have B := B668
       replace h571 := h571.ev E667 nq nq nq
       replace h643 := h643.ev E667 nq nq nq
       replace E := E.trans E667 nx
       refine qy F (congrArg not (bfalse hb662)) ?_
       refine qv F (r_peqlA F Tryz.underlying23 rfl rfl (SH.isNone h670)) fun a F => ?_
       refine qv F (r_pick_t F rfl (congrArg not (bfalse hb662)) rfl) fun a F => ?_
       refine qm F fun a F => ?_
       by_cases hb672 : (Option.isNone t663) = true
       ·replace H := ip hb672 H
        refine qy F hb672 ?_
        as_aux_lemma =>
        refine qm F fun a F => ?_
        obtain ⟨t673, q674, H⟩ := bind_some H
        refine qy F hb672 ?_
        refine qc F Tryz.func23 (shard_Shard_Export.calls k (m := m + 20) (pl hm0) B h571 (Nat.lt_add_of_pos_right (by decide)) ⟨lm, ne_0m⟩ _ q674) ?_
        rintro e w676 ⟨c675, A679, C680, rfl, E677, B678, h681⟩
        refine ⟨_, rfl, fun a F => ?_⟩
        have B := B678
        replace h571 := h571.ev E677 nq nq nq
        replace h643 := h643.ev E677 nq nq nq
        replace E := E.trans E677 nx
        refine qy F hb672 ?_
        refine qv F (r_lensl F Tryz.underlying27 rfl) fun a F => ?_
        refine qy F hb672 ?_
        refine qv F (r_eql F rfl rfl) fun a F => ?_
        as_aux_lemma =>
        refine qv F (r_pick_t F rfl hb672 rfl) fun a F => ?_
        refine qm F fun a F => ?_
        by_cases hb683 : (t673.length : Int) = 0
        ·replace H := ip hb683 H
         refine qy F (dt hb683) ?_
         refine qm F fun a F => ?_
         obtain ⟨t684, q685, H⟩ := bind_some H
         refine qy F (dt hb683) ?_
         refine qc F Tryz.func24 (shard_Shard_Root.calls (m := m + 20) (pl hm0) B h571 (by omega) (by omega) _ q685) ?_
         rintro e w687 ⟨c686, rfl, E688, B689⟩
         refine ⟨_, rfl, fun a F => ?_⟩
         have B := B689
         replace h571 := h571.ev E688 nq nq nq
         replace h643 := h643.ev E688 nq nq nq
         replace E := E.trans E688 nx
         as_aux_lemma =>
         refine qy F (dt hb683) ?_
         refine qv F (r_eql F rfl rfl) fun a F => ?_
         refine qv F (r_pick_t F rfl (dt hb683) rfl) fun a F => ?_
         refine qm F fun a F => ?_
         by_cases hb691 : t684 = 0
         ·replace H := ip hb691 H
          refine qy F (dt hb691) ?_
          refine qm F fun a F => ?_
          obtain ⟨t692, q693, H⟩ := bind_some H
          refine qy F (dt hb691) ?_
          refine qc F Tryz.func37 (shard_Shard_Rev.calls (m := m + 20) (pl hm0) B h571 (Nat.lt_add_of_pos_right (by decide)) ⟨lm, ne_0m⟩ _ q693) ?_
          rintro e w695 ⟨c694, rfl, E696, B697⟩
          refine ⟨_, rfl, fun a F => ?_⟩
          have B := B697
          replace h571 := h571.ev E696 nq nq nq
          as_aux_lemma =>
          replace h643 := h643.ev E696 nq nq nq
          replace E := E.trans E696 nx
          refine qy F (dt hb691) ?_
          refine qv F (r_eql F rfl rfl) fun a F => ?_
          refine qv F (r_pick_t F rfl (dt hb691) rfl) fun a F => ?_
          refine qm F fun a F => ?_
          by_cases hb699 : t692 = 0
          ·replace H := ip hb699 H
           refine qy F (dt hb699) ?_
           refine qm F fun a F => ?_
           obtain ⟨t700, q701, H⟩ := bind_some H
           refine qy F (dt hb699) ?_
           refine qc F Tryz.func38 (shard_Shard_Len.calls (m := m + 20) (pl hm0) B h571 (Nat.lt_add_of_pos_right (by decide)) ⟨lm, ne_0m⟩ _ q701) ?_
           rintro e w703 ⟨c702, rfl, E704, B705⟩
           refine ⟨_, rfl, fun a F => ?_⟩
           have B := B705
           as_aux_lemma =>
           replace h571 := h571.ev E704 nq nq nq
           replace h643 := h643.ev E704 nq nq nq
           replace E := E.trans E704 nx
           refine qy F (dt hb699) ?_
           refine qv F (r_eql F rfl rfl) fun a F => ?_
           refine qv F (r_pick_t F rfl (dt hb699) rfl) fun a F => ?_
           refine qm F fun a F => ?_
           by_cases hb707 : t700 = 0
           ·replace H := ip hb707 H
            refine qy F (dt hb707) ?_
            refine qm F fun a F => ?_
            obtain ⟨t708, q709, H⟩ := bind_some H
            refine qy F (dt hb707) ?_
            refine qc F Tryz.func25 (shard_Shard_Size.calls k (m := m + 20) (pl hm0) B h571 (Nat.lt_add_of_pos_right (by decide)) ⟨lm, ne_0m⟩ _ q709) ?_
            rintro e w711 ⟨c710, rfl, E712, B713⟩
            as_aux_lemma =>
            refine ⟨_, rfl, fun a F => ?_⟩
            have B := B713
            replace h571 := h571.ev E712 nq nq nq
            replace h643 := h643.ev E712 nq nq nq
            replace E := E.trans E712 nx
            refine qy F (dt hb707) ?_
            refine qv F (r_eql F rfl rfl) fun a F => ?_
            refine qv F (r_pick_t F rfl (dt hb707) rfl) fun a F => ?_
            refine qm F fun a F => ?_
            by_cases hb715 : t708 = 0
            ·replace H := ip hb715 H
             refine qy F (dt hb715) ?_
             refine qm F fun a F => ?_
             obtain ⟨t716, q717, H⟩ := bind_some H
             refine qy F (dt hb715) ?_
             as_aux_lemma =>
             refine qc F Tryz.func39 (shard_Shard_Rows.calls (m := m + 20) (pl hm0) B h571 (Nat.lt_add_of_pos_right (by decide)) ⟨lm, ne_0m⟩ _ q717) ?_
             rintro e w719 ⟨c718, A722, C723, rfl, E720, B721, h724⟩
             refine ⟨_, rfl, fun a F => ?_⟩
             have B := B721
             replace h571 := h571.ev E720 nq nq nq
             replace h643 := h643.ev E720 nq nq nq
             replace E := E.trans E720 nx
             refine qy F (dt hb715) ?_
             refine qv F (r_lensl F Tryz.underlying73 rfl) fun a F => ?_
             refine qy F (dt hb715) ?_
             refine qv F (r_eql F rfl rfl) fun a F => ?_
             refine qv F (r_pick_t F rfl (dt hb715) rfl) fun a F => ?_
             refine qm F fun a F => ?_
             by_cases hb726 : (t716.length : Int) = 0
             ·replace H := ip hb726 H
              as_aux_lemma =>
              refine qy F (dt hb726) ?_
              refine qm F fun a F => ?_
              obtain ⟨t727, q728, H⟩ := bind_some H
              refine qy F (dt hb726) ?_
              refine qc F Tryz.func36 (shard_Shard_Seats.calls k (m := m + 20) (pl hm0) B h571 (Nat.lt_add_of_pos_right (by decide)) ⟨lm, ne_0m⟩ 0 (pl hm0) _ q728) ?_
              rintro e w730 ⟨c729, A733, C734, rfl, E731, B732, h735⟩
              refine ⟨_, rfl, fun a F => ?_⟩
              have B := B732
              replace h643 := h643.ev E731 nq nq nq
              replace E := E.trans E731 nx
              refine qy F (dt hb726) ?_
              refine qv F (r_lensl F Tryz.underlying71 rfl) fun a F => ?_
              refine qy F (dt hb726) ?_
              refine qv F (r_eql F rfl rfl) fun a F => ?_
              as_aux_lemma =>
              refine qv F (r_pick_t F rfl (dt hb726) rfl) fun a F => ?_
              refine qm F fun a F => ?_
              by_cases hb737 : (t727.length : Int) = 0
              ·replace H := ip hb737 H
               refine qy F (dt hb737) ?_
               refine qm F fun a F => ?_
               refine qy F (dt hb737) ?_
               refine qv F (r_peqlA F Tryz.underlying23 rfl rfl (SH.isNone h643)) fun a F => ?_
               refine qv F (r_pick_t F rfl (dt hb737) rfl) fun a F => ?_
               refine qm F fun a F => ?_
               by_cases hb738 : (Option.isNone t636.1) = true
               ·replace H := ip hb738 H
                refine qy F hb738 ?_
                refine qm F fun a F => ?_
                obtain ⟨t739, q740, H⟩ := bind_some H
                refine qy F hb738 ?_
                as_aux_lemma =>
                refine qc F Tryz.func12 (haulagelaw14_num.calls (m := m + 20) (pl hm0) B _ q740) ?_
                rintro e w742 ⟨c741, rfl, E743, B744⟩
                refine ⟨_, rfl, fun a F => ?_⟩
                have B := B744
                replace E := E.trans E743 nx
                refine qy F hb738 ?_
                refine qv F (r_eql F rfl rfl) fun a F => ?_
                refine qv F (r_pick_t F rfl hb738 rfl) fun a F => ?_
                refine qa F fun a F => ?_
                refine nil (hK645 _ _ ?_)
                replace F : Fr a 335 [(0, .bool (decide (t739 = 140)))] := F.sub ⟨rfl, trivial⟩
                refine wp_ret ?_
                replace H := si H
                subst H
                as_aux_lemma =>
                refine out1 F rfl rfl ?_
                exact ⟨cf (fun x_ => if x_ < m then x_ else 0) c741, rfl, E.lv B0, cfb⟩
               replace H := im hb738 H
               refine qn F (bfalse hb738) fun a F => ?_
               refine qn F (bfalse hb738) fun a F => ?_
               refine qn F (bfalse hb738) fun a F => ?_
               refine qv F (r_pick_f F rfl (bfalse hb738) rfl) fun a F => ?_
               refine qa F fun a F => ?_
               refine nil (hK645 _ _ ?_)
               replace F : Fr a 335 [(0, .bool false)] := F.sub ⟨rfl, trivial⟩
               refine wp_ret ?_
               replace H := si H
               subst H
               refine out1 F rfl rfl ?_
               exact ⟨cf (fun x_ => if x_ < m then x_ else 0) c729, rfl, E.lv B0, cfb⟩
              as_aux_lemma =>
              replace H := im hb737 H
              refine qn F (dz hb737) fun a F => ?_
              refine qn F (dz hb737) fun a F => ?_
              refine qv F (r_pick_f F rfl (dz hb737) rfl) fun a F => ?_
              refine qm F fun a F => ?_
              refine qn F rfl fun a F => ?_
              refine qn F rfl fun a F => ?_
              refine qn F rfl fun a F => ?_
              refine qv F (r_pick_f F rfl rfl rfl) fun a F => ?_
              refine qa F fun a F => ?_
              refine nil (hK645 _ _ ?_)
              replace F : Fr a 335 [(0, .bool false)] := F.sub ⟨rfl, trivial⟩
              refine wp_ret ?_
              replace H := si H
              subst H
              as_aux_lemma =>
              refine out1 F rfl rfl ?_
              exact ⟨cf (fun x_ => if x_ < m then x_ else 0) c729, rfl, E.lv B0, cfb⟩
             replace H := im hb726 H
             refine qn F (dz hb726) fun a F => ?_
             refine qn F (dz hb726) fun a F => ?_
             refine qn F (dz hb726) fun a F => ?_
             refine qn F (dz hb726) fun a F => ?_
             refine qv F (r_pick_f F rfl (dz hb726) rfl) fun a F => ?_
             refine qm F fun a F => ?_
             refine qn F rfl fun a F => ?_
             refine qn F rfl fun a F => ?_
             refine qv F (r_pick_f F rfl rfl rfl) fun a F => ?_
             refine qm F fun a F => ?_
             refine qn F rfl fun a F => ?_
             as_aux_lemma =>
             refine qn F rfl fun a F => ?_
             refine qn F rfl fun a F => ?_
             refine qv F (r_pick_f F rfl rfl rfl) fun a F => ?_
             refine qa F fun a F => ?_
             refine nil (hK645 _ _ ?_)
             replace F : Fr a 335 [(0, .bool false)] := F.sub ⟨rfl, trivial⟩
             refine wp_ret ?_
             replace H := si H
             subst H
             refine out1 F rfl rfl ?_
             exact ⟨cf (fun x_ => if x_ < m then x_ else 0) c718, rfl, E.lv B0, cfb⟩
            replace H := im hb715 H
            refine qn F (dz hb715) fun a F => ?_
            refine qn F (dz hb715) fun a F => ?_
            as_aux_lemma =>
            refine qn F (dz hb715) fun a F => ?_
            refine qn F (dz hb715) fun a F => ?_
            refine qv F (r_pick_f F rfl (dz hb715) rfl) fun a F => ?_
            refine qm F fun a F => ?_
            refine qn F rfl fun a F => ?_
            refine qn F rfl fun a F => ?_
            refine qn F rfl fun a F => ?_
            refine qn F rfl fun a F => ?_
            refine qv F (r_pick_f F rfl rfl rfl) fun a F => ?_
            refine qm F fun a F => ?_
            refine qn F rfl fun a F => ?_
            refine qn F rfl fun a F => ?_
            refine qv F (r_pick_f F rfl rfl rfl) fun a F => ?_
            refine qm F fun a F => ?_
            as_aux_lemma =>
            refine qn F rfl fun a F => ?_
            refine qn F rfl fun a F => ?_
            refine qn F rfl fun a F => ?_
            refine qv F (r_pick_f F rfl rfl rfl) fun a F => ?_
            refine qa F fun a F => ?_
            refine nil (hK645 _ _ ?_)
            replace F : Fr a 335 [(0, .bool false)] := F.sub ⟨rfl, trivial⟩
            refine wp_ret ?_
            replace H := si H
            subst H
            refine out1 F rfl rfl ?_
            exact ⟨cf (fun x_ => if x_ < m then x_ else 0) c710, rfl, E.lv B0, cfb⟩
           replace H := im hb707 H
           refine qn F (dz hb707) fun a F => ?_
           as_aux_lemma =>
           refine qn F (dz hb707) fun a F => ?_
           refine qn F (dz hb707) fun a F => ?_
           refine qv F (r_pick_f F rfl (dz hb707) rfl) fun a F => ?_
           refine qm F fun a F => ?_
           refine qn F rfl fun a F => ?_
           refine qn F rfl fun a F => ?_
           refine qn F rfl fun a F => ?_
           refine qn F rfl fun a F => ?_
           refine qv F (r_pick_f F rfl rfl rfl) fun a F => ?_
           refine qm F fun a F => ?_
           refine qn F rfl fun a F => ?_
           refine qn F rfl fun a F => ?_
           refine qn F rfl fun a F => ?_
           refine qn F rfl fun a F => ?_
           as_aux_lemma =>
           refine qv F (r_pick_f F rfl rfl rfl) fun a F => ?_
           refine qm F fun a F => ?_
           refine qn F rfl fun a F => ?_
           refine qn F rfl fun a F => ?_
           refine qv F (r_pick_f F rfl rfl rfl) fun a F => ?_
           refine qm F fun a F => ?_
           refine qn F rfl fun a F => ?_
           refine qn F rfl fun a F => ?_
           refine qn F rfl fun a F => ?_
           refine qv F (r_pick_f F rfl rfl rfl) fun a F => ?_
           refine qa F fun a F => ?_
           refine nil (hK645 _ _ ?_)
           replace F : Fr a 335 [(0, .bool false)] := F.sub ⟨rfl, trivial⟩
           refine wp_ret ?_
           as_aux_lemma =>
           replace H := si H
           subst H
           refine out1 F rfl rfl ?_
           exact ⟨cf (fun x_ => if x_ < m then x_ else 0) c702, rfl, E.lv B0, cfb⟩
          replace H := im hb699 H
          refine qn F (dz hb699) fun a F => ?_
          refine qn F (dz hb699) fun a F => ?_
          refine qn F (dz hb699) fun a F => ?_
          refine qv F (r_pick_f F rfl (dz hb699) rfl) fun a F => ?_
          refine qm F fun a F => ?_
          refine qn F rfl fun a F => ?_
          refine qn F rfl fun a F => ?_
          refine qn F rfl fun a F => ?_
          refine qv F (r_pick_f F rfl rfl rfl) fun a F => ?_
          as_aux_lemma =>
          refine qm F fun a F => ?_
          refine qn F rfl fun a F => ?_
          refine qn F rfl fun a F => ?_
          refine qn F rfl fun a F => ?_
          refine qn F rfl fun a F => ?_
          refine qv F (r_pick_f F rfl rfl rfl) fun a F => ?_
          refine qm F fun a F => ?_
          refine qn F rfl fun a F => ?_
          refine qn F rfl fun a F => ?_
          refine qn F rfl fun a F => ?_
          refine qn F rfl fun a F => ?_
          refine qv F (r_pick_f F rfl rfl rfl) fun a F => ?_
          refine qm F fun a F => ?_
          refine qn F rfl fun a F => ?_
          as_aux_lemma =>
          refine qn F rfl fun a F => ?_
          refine qv F (r_pick_f F rfl rfl rfl) fun a F => ?_
          refine qm F fun a F => ?_
          refine qn F rfl fun a F => ?_
          refine qn F rfl fun a F => ?_
          refine qn F rfl fun a F => ?_
          refine qv F (r_pick_f F rfl rfl rfl) fun a F => ?_
          refine qa F fun a F => ?_
          refine nil (hK645 _ _ ?_)
          replace F : Fr a 335 [(0, .bool false)] := F.sub ⟨rfl, trivial⟩
          refine wp_ret ?_
          replace H := si H
          subst H
          refine out1 F rfl rfl ?_
          exact ⟨cf (fun x_ => if x_ < m then x_ else 0) c694, rfl, E.lv B0, cfb⟩
         as_aux_lemma =>
         replace H := im hb691 H
         refine qn F (dz hb691) fun a F => ?_
         refine qn F (dz hb691) fun a F => ?_
         refine qn F (dz hb691) fun a F => ?_
         refine qv F (r_pick_f F rfl (dz hb691) rfl) fun a F => ?_
         refine qm F fun a F => ?_
         refine qn F rfl fun a F => ?_
         refine qn F rfl fun a F => ?_
         refine qn F rfl fun a F => ?_
         refine qv F (r_pick_f F rfl rfl rfl) fun a F => ?_
         refine qm F fun a F => ?_
         refine qn F rfl fun a F => ?_
         refine qn F rfl fun a F => ?_
         refine qn F rfl fun a F => ?_
         as_aux_lemma =>
         refine qv F (r_pick_f F rfl rfl rfl) fun a F => ?_
         refine qm F fun a F => ?_
         refine qn F rfl fun a F => ?_
         refine qn F rfl fun a F => ?_
         refine qn F rfl fun a F => ?_
         refine qn F rfl fun a F => ?_
         refine qv F (r_pick_f F rfl rfl rfl) fun a F => ?_
         refine qm F fun a F => ?_
         refine qn F rfl fun a F => ?_
         refine qn F rfl fun a F => ?_
         refine qn F rfl fun a F => ?_
         refine qn F rfl fun a F => ?_
         refine qv F (r_pick_f F rfl rfl rfl) fun a F => ?_
         refine qm F fun a F => ?_
         as_aux_lemma =>
         refine qn F rfl fun a F => ?_
         refine qn F rfl fun a F => ?_
         refine qv F (r_pick_f F rfl rfl rfl) fun a F => ?_
         refine qm F fun a F => ?_
         refine qn F rfl fun a F => ?_
         refine qn F rfl fun a F => ?_
         refine qn F rfl fun a F => ?_
         refine qv F (r_pick_f F rfl rfl rfl) fun a F => ?_
         refine qa F fun a F => ?_
         refine nil (hK645 _ _ ?_)
         replace F : Fr a 335 [(0, .bool false)] := F.sub ⟨rfl, trivial⟩
         refine wp_ret ?_
         replace H := si H
         subst H
         as_aux_lemma =>
         refine out1 F rfl rfl ?_
         exact ⟨cf (fun x_ => if x_ < m then x_ else 0) c686, rfl, E.lv B0, cfb⟩
        replace H := im hb683 H
        refine qn F (dz hb683) fun a F => ?_
        refine qn F (dz hb683) fun a F => ?_
        refine qn F (dz hb683) fun a F => ?_
        refine qv F (r_pick_f F rfl (dz hb683) rfl) fun a F => ?_
        refine qm F fun a F => ?_
        refine qn F rfl fun a F => ?_
        refine qn F rfl fun a F => ?_
        refine qn F rfl fun a F => ?_
        refine qv F (r_pick_f F rfl rfl rfl) fun a F => ?_
        refine qm F fun a F => ?_
        refine qn F rfl fun a F => ?_
        as_aux_lemma =>
        refine qn F rfl fun a F => ?_
        refine qn F rfl fun a F => ?_
        refine qv F (r_pick_f F rfl rfl rfl) fun a F => ?_
        refine qm F fun a F => ?_
        refine qn F rfl fun a F => ?_
        refine qn F rfl fun a F => ?_
        refine qn F rfl fun a F => ?_
        refine qv F (r_pick_f F rfl rfl rfl) fun a F => ?_
        refine qm F fun a F => ?_
        refine qn F rfl fun a F => ?_
        refine qn F rfl fun a F => ?_
        refine qn F rfl fun a F => ?_
        refine qn F rfl fun a F => ?_
        refine qv F (r_pick_f F rfl rfl rfl) fun a F => ?_
        as_aux_lemma =>
        refine qm F fun a F => ?_
        refine qn F rfl fun a F => ?_
        refine qn F rfl fun a F => ?_
        refine qn F rfl fun a F => ?_
        refine qn F rfl fun a F => ?_
        refine qv F (r_pick_f F rfl rfl rfl) fun a F => ?_
        refine qm F fun a F => ?_
        refine qn F rfl fun a F => ?_
        refine qn F rfl fun a F => ?_
        refine qv F (r_pick_f F rfl rfl rfl) fun a F => ?_
        refine qm F fun a F => ?_
        refine qn F rfl fun a F => ?_
        refine qn F rfl fun a F => ?_
        refine qn F rfl fun a F => ?_
        as_aux_lemma =>
        refine qv F (r_pick_f F rfl rfl rfl) fun a F => ?_
        refine qa F fun a F => ?_
        refine nil (hK645 _ _ ?_)
        replace F : Fr a 335 [(0, .bool false)] := F.sub ⟨rfl, trivial⟩
        refine wp_ret ?_
        replace H := si H
        subst H
        refine out1 F rfl rfl ?_
        exact ⟨cf (fun x_ => if x_ < m then x_ else 0) c675, rfl, E.lv B0, cfb⟩
       replace H := im hb672 H
       refine qn F (bfalse hb672) fun a F => ?_
       refine qn F (bfalse hb672) fun a F => ?_
       refine qn F (bfalse hb672) fun a F => ?_
       refine qn F (bfalse hb672) fun a F => ?_
       as_aux_lemma =>
       refine qv F (r_pick_f F rfl (bfalse hb672) rfl) fun a F => ?_
       refine qm F fun a F => ?_
       refine qn F rfl fun a F => ?_
       refine qn F rfl fun a F => ?_
       refine qn F rfl fun a F => ?_
       refine qv F (r_pick_f F rfl rfl rfl) fun a F => ?_
       refine qm F fun a F => ?_
       refine qn F rfl fun a F => ?_
       refine qn F rfl fun a F => ?_
       refine qn F rfl fun a F => ?_
       refine qv F (r_pick_f F rfl rfl rfl) fun a F => ?_
       refine qm F fun a F => ?_
       refine qn F rfl fun a F => ?_
       refine qn F rfl fun a F => ?_
       as_aux_lemma =>
       refine qn F rfl fun a F => ?_
       refine qv F (r_pick_f F rfl rfl rfl) fun a F => ?_
       refine qm F fun a F => ?_
       refine qn F rfl fun a F => ?_
       refine qn F rfl fun a F => ?_
       refine qn F rfl fun a F => ?_
       refine qv F (r_pick_f F rfl rfl rfl) fun a F => ?_
       refine qm F fun a F => ?_
       refine qn F rfl fun a F => ?_
       refine qn F rfl fun a F => ?_
       refine qn F rfl fun a F => ?_
       refine qn F rfl fun a F => ?_
       refine qv F (r_pick_f F rfl rfl rfl) fun a F => ?_
       refine qm F fun a F => ?_
       as_aux_lemma =>
       refine qn F rfl fun a F => ?_
       refine qn F rfl fun a F => ?_
       refine qn F rfl fun a F => ?_
       refine qn F rfl fun a F => ?_
       refine qv F (r_pick_f F rfl rfl rfl) fun a F => ?_
       refine qm F fun a F => ?_
       refine qn F rfl fun a F => ?_
       refine qn F rfl fun a F => ?_
       refine qv F (r_pick_f F rfl rfl rfl) fun a F => ?_
       refine qm F fun a F => ?_
       refine qn F rfl fun a F => ?_
       refine qn F rfl fun a F => ?_
       refine qn F rfl fun a F => ?_
       refine qv F (r_pick_f F rfl rfl rfl) fun a F => ?_
       as_aux_lemma =>
       refine qa F fun a F => ?_
       refine nil (hK645 _ _ ?_)
       replace F : Fr a 335 [(0, .bool false)] := F.sub ⟨rfl, trivial⟩
       refine wp_ret ?_
       replace H := si H
       subst H
       refine out1 F rfl rfl ?_
       exact ⟨cf (fun x_ => if x_ < m then x_ else 0) c665, rfl, E.lv B0, cfb⟩
      replace H := im hb661 H
      refine qn F (dz hb661) fun a F => ?_
      refine qn F (dz hb661) fun a F => ?_
      refine qv F (r_pick_f F rfl (dz hb661) rfl) fun a F => ?_
      refine qm F fun a F => ?_
      refine qn F rfl fun a F => ?_
      as_aux_lemma =>
      refine qn F rfl fun a F => ?_
      refine qn F rfl fun a F => ?_
      refine qv F (r_pick_f F rfl rfl rfl) fun a F => ?_
      refine qm F fun a F => ?_
      refine qn F rfl fun a F => ?_
      refine qn F rfl fun a F => ?_
      refine qn F rfl fun a F => ?_
      refine qn F rfl fun a F => ?_
      refine qv F (r_pick_f F rfl rfl rfl) fun a F => ?_
      refine qm F fun a F => ?_
      refine qn F rfl fun a F => ?_
      refine qn F rfl fun a F => ?_
      refine qn F rfl fun a F => ?_
      refine qv F (r_pick_f F rfl rfl rfl) fun a F => ?_
      as_aux_lemma =>
      refine qm F fun a F => ?_
      refine qn F rfl fun a F => ?_
      refine qn F rfl fun a F => ?_
      refine qn F rfl fun a F => ?_
      refine qv F (r_pick_f F rfl rfl rfl) fun a F => ?_
      refine qm F fun a F => ?_
      refine qn F rfl fun a F => ?_
      refine qn F rfl fun a F => ?_
      refine qn F rfl fun a F => ?_
      refine qv F (r_pick_f F rfl rfl rfl) fun a F => ?_
      refine qm F fun a F => ?_
      refine qn F rfl fun a F => ?_
      refine qn F rfl fun a F => ?_
      refine qn F rfl fun a F => ?_
      as_aux_lemma =>
      refine qv F (r_pick_f F rfl rfl rfl) fun a F => ?_
      refine qm F fun a F => ?_
      refine qn F rfl fun a F => ?_
      refine qn F rfl fun a F => ?_
      refine qn F rfl fun a F => ?_
      refine qn F rfl fun a F => ?_
      refine qv F (r_pick_f F rfl rfl rfl) fun a F => ?_
      refine qm F fun a F => ?_
      refine qn F rfl fun a F => ?_
      refine qn F rfl fun a F => ?_
      refine qn F rfl fun a F => ?_
      refine qn F rfl fun a F => ?_
      refine qv F (r_pick_f F rfl rfl rfl) fun a F => ?_
      refine qm F fun a F => ?_
      as_aux_lemma =>
      refine qn F rfl fun a F => ?_
      refine qn F rfl fun a F => ?_
      refine qv F (r_pick_f F rfl rfl rfl) fun a F => ?_
      refine qm F fun a F => ?_
      refine qn F rfl fun a F => ?_
      refine qn F rfl fun a F => ?_
      refine qn F rfl fun a F => ?_
      refine qv F (r_pick_f F rfl rfl rfl) fun a F => ?_
      refine qa F fun a F => ?_
      refine nil (hK645 _ _ ?_)
      replace F : Fr a 335 [(0, .bool false)] := F.sub ⟨rfl, trivial⟩
      refine wp_ret ?_
      replace H := si H
      subst H
      as_aux_lemma =>
      refine out1 F rfl rfl ?_
      exact ⟨cf (fun x_ => if x_ < m then x_ else 0) c656, rfl, E.lv B0, cfb⟩
     replace H := im hb653 H
     refine qn F (dz hb653) fun a F => ?_
     refine qn F (dz hb653) fun a F => ?_
     refine qn F (dz hb653) fun a F => ?_
     refine qv F (r_pick_f F rfl (dz hb653) rfl) fun a F => ?_
     refine qm F fun a F => ?_
     refine qn F rfl fun a F => ?_
     refine qn F rfl fun a F => ?_
     refine qv F (r_pick_f F rfl rfl rfl) fun a F => ?_
     refine qm F fun a F => ?_
     refine qn F rfl fun a F => ?_
     refine qn F rfl fun a F => ?_
     as_aux_lemma =>
     refine qn F rfl fun a F => ?_
     refine qv F (r_pick_f F rfl rfl rfl) fun a F => ?_
     refine qm F fun a F => ?_
     refine qn F rfl fun a F => ?_
     refine qn F rfl fun a F => ?_
     refine qn F rfl fun a F => ?_
     refine qn F rfl fun a F => ?_
     refine qv F (r_pick_f F rfl rfl rfl) fun a F => ?_
     refine qm F fun a F => ?_
     refine qn F rfl fun a F => ?_
     refine qn F rfl fun a F => ?_
     refine qn F rfl fun a F => ?_
     refine qv F (r_pick_f F rfl rfl rfl) fun a F => ?_
     refine qm F fun a F => ?_
     as_aux_lemma =>
     refine qn F rfl fun a F => ?_
     refine qn F rfl fun a F => ?_
     refine qn F rfl fun a F => ?_
     refine qv F (r_pick_f F rfl rfl rfl) fun a F => ?_
     refine qm F fun a F => ?_
     refine qn F rfl fun a F => ?_
     refine qn F rfl fun a F => ?_
     refine qn F rfl fun a F => ?_
     refine qv F (r_pick_f F rfl rfl rfl) fun a F => ?_
     refine qm F fun a F => ?_
     refine qn F rfl fun a F => ?_
     refine qn F rfl fun a F => ?_
     refine qn F rfl fun a F => ?_
     refine qv F (r_pick_f F rfl rfl rfl) fun a F => ?_
     as_aux_lemma =>
     refine qm F fun a F => ?_
     refine qn F rfl fun a F => ?_
     refine qn F rfl fun a F => ?_
     refine qn F rfl fun a F => ?_
     refine qn F rfl fun a F => ?_
     refine qv F (r_pick_f F rfl rfl rfl) fun a F => ?_
     refine qm F fun a F => ?_
     refine qn F rfl fun a F => ?_
     refine qn F rfl fun a F => ?_
     refine qn F rfl fun a F => ?_
     refine qn F rfl fun a F => ?_
     refine qv F (r_pick_f F rfl rfl rfl) fun a F => ?_
     refine qm F fun a F => ?_
     refine qn F rfl fun a F => ?_
     as_aux_lemma =>
     refine qn F rfl fun a F => ?_
     refine qv F (r_pick_f F rfl rfl rfl) fun a F => ?_
     refine qm F fun a F => ?_
     refine qn F rfl fun a F => ?_
     refine qn F rfl fun a F => ?_
     refine qn F rfl fun a F => ?_
     refine qv F (r_pick_f F rfl rfl rfl) fun a F => ?_
     refine qa F fun a F => ?_
     refine nil (hK645 _ _ ?_)
     replace F : Fr a 335 [(0, .bool false)] := F.sub ⟨rfl, trivial⟩
     refine wp_ret ?_
     replace H := si H
     subst H
     refine out1 F rfl rfl ?_
     exact ⟨cf (fun x_ => if x_ < m then x_ else 0) c648, rfl, E.lv B0, cfb⟩
    as_aux_lemma =>
    refine reg ?_
    refine qm F fun a F => ?_
    obtain ⟨t452, q453, H⟩ := bind_some H
    refine qc F Tryz.func12 (haulagelaw14_num.calls (m := m + 20) (pl hm0) B _ q453) ?_
    rintro e w455 ⟨c454, rfl, E456, B457⟩
    refine ⟨_, rfl, fun a F => ?_⟩
    have B := B457
    replace h448 := h448.ev E456 nq nq
    replace E := E.trans E456 nx
    refine qv F (r_neq F rfl rfl) fun a F => ?_
    refine qm F fun a F => ?_
    by_cases hb459 : t452 = 2
    ·replace H := ip hb459 H
     refine qy F (congrArg not (dt hb459)) ?_
     refine qm F fun a F => ?_
     obtain ⟨t460, q461, H⟩ := bind_some H
     as_aux_lemma =>
     refine qy F (congrArg not (dt hb459)) ?_
     refine qc F Tryz.func12 (haulagelaw14_num.calls (m := m + 20) (pl hm0) B _ q461) ?_
     rintro e w463 ⟨c462, rfl, E464, B465⟩
     refine ⟨_, rfl, fun a F => ?_⟩
     have B := B465
     replace h448 := h448.ev E464 nq nq
     replace E := E.trans E464 nx
     refine qy F (congrArg not (dt hb459)) ?_
     refine qv F (r_neq F rfl rfl) fun a F => ?_
     refine qv F (r_pick_f F rfl (congrArg not (dt hb459)) rfl) fun a F => ?_
     refine qm F fun a F => ?_
     by_cases hb467 : t460 = 2
     ·replace H := ip hb467 H
      refine qy F (congrArg not (dt hb467)) ?_
      refine qm F fun a F => ?_
      obtain ⟨t468, q469, H⟩ := bind_some H
      as_aux_lemma =>
      refine qy F (congrArg not (dt hb467)) ?_
      refine qc F Tryz.func12 (haulagelaw14_num.calls (m := m + 20) (pl hm0) B _ q469) ?_
      rintro e w471 ⟨c470, rfl, E472, B473⟩
      refine ⟨_, rfl, fun a F => ?_⟩
      have B := B473
      replace h448 := h448.ev E472 nq nq
      replace E := E.trans E472 nx
      refine qy F (congrArg not (dt hb467)) ?_
      refine qv F (r_neq F rfl rfl) fun a F => ?_
      refine qv F (r_pick_f F rfl (congrArg not (dt hb467)) rfl) fun a F => ?_
      refine qm F fun a F => ?_
      by_cases hb475 : t468 = 131
      ·replace H := ip hb475 H
       refine qy F (congrArg not (dt hb475)) ?_
       refine qm F fun a F => ?_
       obtain ⟨t476, q477, H⟩ := bind_some H
       as_aux_lemma =>
       refine qy F (congrArg not (dt hb475)) ?_
       refine qc F Tryz.func12 (haulagelaw14_num.calls (m := m + 20) (pl hm0) B _ q477) ?_
       rintro e w479 ⟨c478, rfl, E480, B481⟩
       refine ⟨_, rfl, fun a F => ?_⟩
       have B := B481
       replace h448 := h448.ev E480 nq nq
       replace E := E.trans E480 nx
       refine qy F (congrArg not (dt hb475)) ?_
       refine qv F (r_neq F rfl rfl) fun a F => ?_
       refine qv F (r_pick_f F rfl (congrArg not (dt hb475)) rfl) fun a F => ?_
       refine qm F fun a F => ?_
       by_cases hb483 : t476 = 2
       ·replace H := ip hb483 H
        refine qy F (congrArg not (dt hb483)) ?_
        refine qm F fun a F => ?_
        obtain ⟨t484, q485, H⟩ := bind_some H
        as_aux_lemma =>
        refine qy F (congrArg not (dt hb483)) ?_
        refine qc F Tryz.func12 (haulagelaw14_num.calls (m := m + 20) (pl hm0) B _ q485) ?_
        rintro e w487 ⟨c486, rfl, E488, B489⟩
        refine ⟨_, rfl, fun a F => ?_⟩
        have B := B489
        replace h448 := h448.ev E488 nq nq
        replace E := E.trans E488 nx
        refine qy F (congrArg not (dt hb483)) ?_
        refine qv F (r_neq F rfl rfl) fun a F => ?_
        refine qv F (r_pick_f F rfl (congrArg not (dt hb483)) rfl) fun a F => ?_
        refine qm F fun a F => ?_
        by_cases hb491 : t484 = 0
        ·replace H := ip hb491 H
         refine qy F (congrArg not (dt hb491)) ?_
         refine qm F fun a F => ?_
         as_aux_lemma =>
         refine qy F (congrArg not (dt hb491)) ?_
         refine qm F fun a F => ?_
         refine qy F (congrArg not (dt hb491)) ?_
         refine qv F (r_lensl F Tryz.underlying27 rfl) fun a F => ?_
         refine qy F (congrArg not (dt hb491)) ?_
         refine qv F (r_add F rfl rfl) fun a F => ?_
         refine qy F (congrArg not (dt hb491)) ?_
         refine qv F (r_add F rfl rfl) fun a F => ?_
         refine qy F (congrArg not (dt hb491)) ?_
         refine qv F (r_neq F rfl rfl) fun a F => ?_
         refine qv F (r_pick_f F rfl (congrArg not (dt hb491)) rfl) fun a F => ?_
         refine qm F fun a F => ?_
         by_cases hb492 : t432.1 = (IntKind.i64.wrap ((IntKind.i64.wrap (([2, 3, 0, 2, 0, 9, 0, 0, 0, 0, 3, 3, 2, 1, 1, 97, 1, 49, 1, 2].length : Int) + 4)) + 7))
         ·replace H := ip hb492 H
          refine qy F (congrArg not (dt hb492)) ?_
          as_aux_lemma =>
          refine qm F fun a F => ?_
          refine qy F (congrArg not (dt hb492)) ?_
          refine qv F (r_lensl F Tryz.underlying71 rfl) fun a F => ?_
          refine qy F (congrArg not (dt hb492)) ?_
          refine qv F (r_neq F rfl rfl) fun a F => ?_
          refine qv F (r_pick_f F rfl (congrArg not (dt hb492)) rfl) fun a F => ?_
          refine qm F fun a F => ?_
          by_cases hb493 : (t440.length : Int) = 2
          ·replace H := ip hb493 H
           refine qy F (congrArg not (dt hb493)) ?_
           refine qm F fun a F => ?_
           replace H := ifN H
           obtain ⟨g494, H⟩ := H
           obtain ⟨ad495, cs496, e497, h498, r499⟩ := SL.at h448 0 g494.1 g494.2
           obtain ⟨A500, C501, A503, C504, rfl, h502, h505⟩ := r499
           obtain ⟨qa506, qqa506⟩ : ∃ q, q = (ad495.add ((0 : Int).toNat * 7)) := ⟨_, rfl⟩
           have h498 : AT true 0 c486 w487 qa506 [.int .i64 ((rd t440 0).Client), .int .i64 ((rd t440 0).Seq), .bool (((rd t440 0).Answer).Done), .slice A500 (((rd t440 0).Answer).Key).length C501, .slice A503 (((rd t440 0).Answer).Value).length C504, .int .i64 (((rd t440 0).Answer).Rev), .int .i64 (((rd t440 0).Answer).At)] := by rw [qqa506]; exact h498
           as_aux_lemma =>
           refine qy F (congrArg not (dt hb493)) ?_
           refine qv F (r_indexAddr' F Tryz.underlying71 sz_60 rfl rfl g494.1 g494.2 e497 qqa506) fun a F => ?_
           refine qy F (congrArg not (dt hb493)) ?_
           refine qf F ff_60_0 fun a F => ?_
           refine qy F (congrArg not (dt hb493)) ?_
           refine qv F (r_load F rfl ag_3 (AT.cell h498 rfl)) fun a F => ?_
           refine qy F (congrArg not (dt hb493)) ?_
           refine qv F (r_neq F rfl rfl) fun a F => ?_
           refine qv F (r_pick_f F rfl (congrArg not (dt hb493)) rfl) fun a F => ?_
           refine qm F fun a F => ?_
           by_cases hb508 : ((rd t440 0).Client) = 0
           ·replace H := ip hb508 H
            refine qy F (congrArg not (dt hb508)) ?_
            refine qm F fun a F => ?_
            replace H := ifN H
            obtain ⟨g509, H⟩ := H
            obtain ⟨ad510, cs511, e512, h513, r514⟩ := SL.at h448 0 g509.1 g509.2
            obtain ⟨A515, C516, A518, C519, rfl, h517, h520⟩ := r514
            obtain ⟨qa521, qqa521⟩ : ∃ q, q = (ad510.add ((0 : Int).toNat * 7)) := ⟨_, rfl⟩
            have h513 : AT true 0 c486 w487 qa521 [.int .i64 ((rd t440 0).Client), .int .i64 ((rd t440 0).Seq), .bool (((rd t440 0).Answer).Done), .slice A515 (((rd t440 0).Answer).Key).length C516, .slice A518 (((rd t440 0).Answer).Value).length C519, .int .i64 (((rd t440 0).Answer).Rev), .int .i64 (((rd t440 0).Answer).At)] := by rw [qqa521]; exact h513
            as_aux_lemma =>
            refine qy F (congrArg not (dt hb508)) ?_
            refine qv F (r_indexAddr' F Tryz.underlying71 sz_60 rfl rfl g509.1 g509.2 e512 qqa521) fun a F => ?_
            refine qy F (congrArg not (dt hb508)) ?_
            refine qf F ff_60_1 fun a F => ?_
            refine qy F (congrArg not (dt hb508)) ?_
            refine qv F (r_load F rfl ag_3 (AT.cell h513 rfl)) fun a F => ?_
            refine qy F (congrArg not (dt hb508)) ?_
            refine qv F (r_neq F rfl rfl) fun a F => ?_
            refine qv F (r_pick_f F rfl (congrArg not (dt hb508)) rfl) fun a F => ?_
            refine qm F fun a F => ?_
            by_cases hb523 : ((rd t440 0).Seq) = 9
            ·replace H := ip hb523 H
             refine qy F (congrArg not (dt hb523)) ?_
             refine qm F fun a F => ?_
             replace H := ifN H
             obtain ⟨g524, H⟩ := H
             obtain ⟨ad525, cs526, e527, h528, r529⟩ := SL.at h448 1 g524.1 g524.2
             obtain ⟨A530, C531, A533, C534, rfl, h532, h535⟩ := r529
             obtain ⟨qa536, qqa536⟩ : ∃ q, q = (ad525.add ((1 : Int).toNat * 7)) := ⟨_, rfl⟩
             have h528 : AT true 0 c486 w487 qa536 [.int .i64 ((rd t440 1).Client), .int .i64 ((rd t440 1).Seq), .bool (((rd t440 1).Answer).Done), .slice A530 (((rd t440 1).Answer).Key).length C531, .slice A533 (((rd t440 1).Answer).Value).length C534, .int .i64 (((rd t440 1).Answer).Rev), .int .i64 (((rd t440 1).Answer).At)] := by rw [qqa536]; exact h528
             as_aux_lemma =>
             refine qy F (congrArg not (dt hb523)) ?_
             refine qv F (r_indexAddr' F Tryz.underlying71 sz_60 rfl rfl g524.1 g524.2 e527 qqa536) fun a F => ?_
             refine qy F (congrArg not (dt hb523)) ?_
             refine qf F ff_60_0 fun a F => ?_
             refine qy F (congrArg not (dt hb523)) ?_
             refine qv F (r_load F rfl ag_3 (AT.cell h528 rfl)) fun a F => ?_
             refine qy F (congrArg not (dt hb523)) ?_
             refine qv F (r_neq F rfl rfl) fun a F => ?_
             refine qv F (r_pick_f F rfl (congrArg not (dt hb523)) rfl) fun a F => ?_
             refine nil ?_
             exact J539 c486 w487 a (!decide (((rd t440 1).Client) = 3)) (F.sub ⟨rfl, trivial⟩) E B  H
            replace H := im hb523 H
            refine qn F (congrArg not (dz hb523)) fun a F => ?_
            refine qn F (congrArg not (dz hb523)) fun a F => ?_
            as_aux_lemma =>
            refine qn F (congrArg not (dz hb523)) fun a F => ?_
            refine qn F (congrArg not (dz hb523)) fun a F => ?_
            refine qn F (congrArg not (dz hb523)) fun a F => ?_
            refine qv F (r_pick_t F rfl (congrArg not (dz hb523)) rfl) fun a F => ?_
            refine nil ?_
            exact J539 c486 w487 a true (F.sub ⟨rfl, trivial⟩) E B  H
           replace H := im hb508 H
           refine qn F (congrArg not (dz hb508)) fun a F => ?_
           refine qn F (congrArg not (dz hb508)) fun a F => ?_
           refine qn F (congrArg not (dz hb508)) fun a F => ?_
           refine qn F (congrArg not (dz hb508)) fun a F => ?_
           refine qn F (congrArg not (dz hb508)) fun a F => ?_
           refine qv F (r_pick_t F rfl (congrArg not (dz hb508)) rfl) fun a F => ?_
           refine qm F fun a F => ?_
           as_aux_lemma =>
           refine qn F rfl fun a F => ?_
           refine qn F rfl fun a F => ?_
           refine qn F rfl fun a F => ?_
           refine qn F rfl fun a F => ?_
           refine qn F rfl fun a F => ?_
           refine qv F (r_pick_t F rfl rfl rfl) fun a F => ?_
           refine nil ?_
           exact J539 c486 w487 a true (F.sub ⟨rfl, trivial⟩) E B  H
          replace H := im hb493 H
          refine qn F (congrArg not (dz hb493)) fun a F => ?_
          refine qn F (congrArg not (dz hb493)) fun a F => ?_
          refine qn F (congrArg not (dz hb493)) fun a F => ?_
          refine qn F (congrArg not (dz hb493)) fun a F => ?_
          refine qn F (congrArg not (dz hb493)) fun a F => ?_
          as_aux_lemma =>
          refine qv F (r_pick_t F rfl (congrArg not (dz hb493)) rfl) fun a F => ?_
          refine qm F fun a F => ?_
          refine qn F rfl fun a F => ?_
          refine qn F rfl fun a F => ?_
          refine qn F rfl fun a F => ?_
          refine qn F rfl fun a F => ?_
          refine qn F rfl fun a F => ?_
          refine qv F (r_pick_t F rfl rfl rfl) fun a F => ?_
          refine qm F fun a F => ?_
          refine qn F rfl fun a F => ?_
          refine qn F rfl fun a F => ?_
          refine qn F rfl fun a F => ?_
          refine qn F rfl fun a F => ?_
          refine qn F rfl fun a F => ?_
          as_aux_lemma =>
          refine qv F (r_pick_t F rfl rfl rfl) fun a F => ?_
          refine nil ?_
          exact J539 c486 w487 a true (F.sub ⟨rfl, trivial⟩) E B  H
         replace H := im hb492 H
         refine qn F (congrArg not (dz hb492)) fun a F => ?_
         refine qn F (congrArg not (dz hb492)) fun a F => ?_
         refine qn F (congrArg not (dz hb492)) fun a F => ?_
         refine qv F (r_pick_t F rfl (congrArg not (dz hb492)) rfl) fun a F => ?_
         refine qm F fun a F => ?_
         refine qn F rfl fun a F => ?_
         refine qn F rfl fun a F => ?_
         refine qn F rfl fun a F => ?_
         refine qn F rfl fun a F => ?_
         refine qn F rfl fun a F => ?_
         as_aux_lemma =>
         refine qv F (r_pick_t F rfl rfl rfl) fun a F => ?_
         refine qm F fun a F => ?_
         refine qn F rfl fun a F => ?_
         refine qn F rfl fun a F => ?_
         refine qn F rfl fun a F => ?_
         refine qn F rfl fun a F => ?_
         refine qn F rfl fun a F => ?_
         refine qv F (r_pick_t F rfl rfl rfl) fun a F => ?_
         refine qm F fun a F => ?_
         refine qn F rfl fun a F => ?_
         refine qn F rfl fun a F => ?_
         refine qn F rfl fun a F => ?_
         refine qn F rfl fun a F => ?_
         refine qn F rfl fun a F => ?_
         as_aux_lemma =>
         refine qv F (r_pick_t F rfl rfl rfl) fun a F => ?_
         refine nil ?_
         exact J539 c486 w487 a true (F.sub ⟨rfl, trivial⟩) E B  H
        replace H := im hb491 H
        refine qn F (congrArg not (dz hb491)) fun a F => ?_
        refine qn F (congrArg not (dz hb491)) fun a F => ?_
        refine qn F (congrArg not (dz hb491)) fun a F => ?_
        refine qn F (congrArg not (dz hb491)) fun a F => ?_
        refine qn F (congrArg not (dz hb491)) fun a F => ?_
        refine qn F (congrArg not (dz hb491)) fun a F => ?_
        refine qv F (r_pick_t F rfl (congrArg not (dz hb491)) rfl) fun a F => ?_
        refine qm F fun a F => ?_
        refine qn F rfl fun a F => ?_
        refine qn F rfl fun a F => ?_
        as_aux_lemma =>
        refine qn F rfl fun a F => ?_
        refine qv F (r_pick_t F rfl rfl rfl) fun a F => ?_
        refine qm F fun a F => ?_
        refine qn F rfl fun a F => ?_
        refine qn F rfl fun a F => ?_
        refine qn F rfl fun a F => ?_
        refine qn F rfl fun a F => ?_
        refine qn F rfl fun a F => ?_
        refine qv F (r_pick_t F rfl rfl rfl) fun a F => ?_
        refine qm F fun a F => ?_
        refine qn F rfl fun a F => ?_
        refine qn F rfl fun a F => ?_
        refine qn F rfl fun a F => ?_
        refine qn F rfl fun a F => ?_
        as_aux_lemma =>
        refine qn F rfl fun a F => ?_
        refine qv F (r_pick_t F rfl rfl rfl) fun a F => ?_
        refine qm F fun a F => ?_
        refine qn F rfl fun a F => ?_
        refine qn F rfl fun a F => ?_
        refine qn F rfl fun a F => ?_
        refine qn F rfl fun a F => ?_
        refine qn F rfl fun a F => ?_
        refine qv F (r_pick_t F rfl rfl rfl) fun a F => ?_
        refine nil ?_
        exact J539 c486 w487 a true (F.sub ⟨rfl, trivial⟩) E B  H
       replace H := im hb483 H
       refine qn F (congrArg not (dz hb483)) fun a F => ?_
       refine qn F (congrArg not (dz hb483)) fun a F => ?_
       as_aux_lemma =>
       refine qn F (congrArg not (dz hb483)) fun a F => ?_
       refine qv F (r_pick_t F rfl (congrArg not (dz hb483)) rfl) fun a F => ?_
       refine qm F fun a F => ?_
       refine qn F rfl fun a F => ?_
       refine qn F rfl fun a F => ?_
       refine qn F rfl fun a F => ?_
       refine qn F rfl fun a F => ?_
       refine qn F rfl fun a F => ?_
       refine qn F rfl fun a F => ?_
       refine qv F (r_pick_t F rfl rfl rfl) fun a F => ?_
       refine qm F fun a F => ?_
       refine qn F rfl fun a F => ?_
       refine qn F rfl fun a F => ?_
       refine qn F rfl fun a F => ?_
       as_aux_lemma =>
       refine qv F (r_pick_t F rfl rfl rfl) fun a F => ?_
       refine qm F fun a F => ?_
       refine qn F rfl fun a F => ?_
       refine qn F rfl fun a F => ?_
       refine qn F rfl fun a F => ?_
       refine qn F rfl fun a F => ?_
       refine qn F rfl fun a F => ?_
       refine qv F (r_pick_t F rfl rfl rfl) fun a F => ?_
       refine qm F fun a F => ?_
       refine qn F rfl fun a F => ?_
       refine qn F rfl fun a F => ?_
       refine qn F rfl fun a F => ?_
       refine qn F rfl fun a F => ?_
       refine qn F rfl fun a F => ?_
       as_aux_lemma =>
       refine qv F (r_pick_t F rfl rfl rfl) fun a F => ?_
       refine qm F fun a F => ?_
       refine qn F rfl fun a F => ?_
       refine qn F rfl fun a F => ?_
       refine qn F rfl fun a F => ?_
       refine qn F rfl fun a F => ?_
       refine qn F rfl fun a F => ?_
       refine qv F (r_pick_t F rfl rfl rfl) fun a F => ?_
       refine nil ?_
       exact J539 c478 w479 a true (F.sub ⟨rfl, trivial⟩) E B  H
      replace H := im hb475 H
      refine qn F (congrArg not (dz hb475)) fun a F => ?_
      refine qn F (congrArg not (dz hb475)) fun a F => ?_
      refine qn F (congrArg not (dz hb475)) fun a F => ?_
      as_aux_lemma =>
      refine qv F (r_pick_t F rfl (congrArg not (dz hb475)) rfl) fun a F => ?_
      refine qm F fun a F => ?_
      refine qn F rfl fun a F => ?_
      refine qn F rfl fun a F => ?_
      refine qn F rfl fun a F => ?_
      refine qv F (r_pick_t F rfl rfl rfl) fun a F => ?_
      refine qm F fun a F => ?_
      refine qn F rfl fun a F => ?_
      refine qn F rfl fun a F => ?_
      refine qn F rfl fun a F => ?_
      refine qn F rfl fun a F => ?_
      refine qn F rfl fun a F => ?_
      refine qn F rfl fun a F => ?_
      refine qv F (r_pick_t F rfl rfl rfl) fun a F => ?_
      as_aux_lemma =>
      refine qm F fun a F => ?_
      refine qn F rfl fun a F => ?_
      refine qn F rfl fun a F => ?_
      refine qn F rfl fun a F => ?_
      refine qv F (r_pick_t F rfl rfl rfl) fun a F => ?_
      refine qm F fun a F => ?_
      refine qn F rfl fun a F => ?_
      refine qn F rfl fun a F => ?_
      refine qn F rfl fun a F => ?_
      refine qn F rfl fun a F => ?_
      refine qn F rfl fun a F => ?_
      refine qv F (r_pick_t F rfl rfl rfl) fun a F => ?_
      refine qm F fun a F => ?_
      refine qn F rfl fun a F => ?_
      as_aux_lemma =>
      refine qn F rfl fun a F => ?_
      refine qn F rfl fun a F => ?_
      refine qn F rfl fun a F => ?_
      refine qn F rfl fun a F => ?_
      refine qv F (r_pick_t F rfl rfl rfl) fun a F => ?_
      refine qm F fun a F => ?_
      refine qn F rfl fun a F => ?_
      refine qn F rfl fun a F => ?_
      refine qn F rfl fun a F => ?_
      refine qn F rfl fun a F => ?_
      refine qn F rfl fun a F => ?_
      refine qv F (r_pick_t F rfl rfl rfl) fun a F => ?_
      refine nil ?_
      exact J539 c470 w471 a true (F.sub ⟨rfl, trivial⟩) E B  H
     as_aux_lemma =>
     replace H := im hb467 H
     refine qn F (congrArg not (dz hb467)) fun a F => ?_
     refine qn F (congrArg not (dz hb467)) fun a F => ?_
     refine qn F (congrArg not (dz hb467)) fun a F => ?_
     refine qv F (r_pick_t F rfl (congrArg not (dz hb467)) rfl) fun a F => ?_
     refine qm F fun a F => ?_
     refine qn F rfl fun a F => ?_
     refine qn F rfl fun a F => ?_
     refine qn F rfl fun a F => ?_
     refine qv F (r_pick_t F rfl rfl rfl) fun a F => ?_
     refine qm F fun a F => ?_
     refine qn F rfl fun a F => ?_
     refine qn F rfl fun a F => ?_
     refine qn F rfl fun a F => ?_
     as_aux_lemma =>
     refine qv F (r_pick_t F rfl rfl rfl) fun a F => ?_
     refine qm F fun a F => ?_
     refine qn F rfl fun a F => ?_
     refine qn F rfl fun a F => ?_
     refine qn F rfl fun a F => ?_
     refine qn F rfl fun a F => ?_
     refine qn F rfl fun a F => ?_
     refine qn F rfl fun a F => ?_
     refine qv F (r_pick_t F rfl rfl rfl) fun a F => ?_
     refine qm F fun a F => ?_
     refine qn F rfl fun a F => ?_
     refine qn F rfl fun a F => ?_
     refine qn F rfl fun a F => ?_
     refine qv F (r_pick_t F rfl rfl rfl) fun a F => ?_
     as_aux_lemma =>
     refine qm F fun a F => ?_
     refine qn F rfl fun a F => ?_
     refine qn F rfl fun a F => ?_
     refine qn F rfl fun a F => ?_
     refine qn F rfl fun a F => ?_
     refine qn F rfl fun a F => ?_
     refine qv F (r_pick_t F rfl rfl rfl) fun a F => ?_
     refine qm F fun a F => ?_
     refine qn F rfl fun a F => ?_
     refine qn F rfl fun a F => ?_
     refine qn F rfl fun a F => ?_
     refine qn F rfl fun a F => ?_
     refine qn F rfl fun a F => ?_
     refine qv F (r_pick_t F rfl rfl rfl) fun a F => ?_
     as_aux_lemma =>
     refine qm F fun a F => ?_
     refine qn F rfl fun a F => ?_
     refine qn F rfl fun a F => ?_
     refine qn F rfl fun a F => ?_
     refine qn F rfl fun a F => ?_
     refine qn F rfl fun a F => ?_
     refine qv F (r_pick_t F rfl rfl rfl) fun a F => ?_
     refine nil ?_
     exact J539 c462 w463 a true (F.sub ⟨rfl, trivial⟩) E B  H
    replace H := im hb459 H
    refine qn F (congrArg not (dz hb459)) fun a F => ?_
    refine qn F (congrArg not (dz hb459)) fun a F => ?_
    refine qn F (congrArg not (dz hb459)) fun a F => ?_
    refine qv F (r_pick_t F rfl (congrArg not (dz hb459)) rfl) fun a F => ?_
    as_aux_lemma =>
    refine qm F fun a F => ?_
    refine qn F rfl fun a F => ?_
    refine qn F rfl fun a F => ?_
    refine qn F rfl fun a F => ?_
    refine qv F (r_pick_t F rfl rfl rfl) fun a F => ?_
    refine qm F fun a F => ?_
    refine qn F rfl fun a F => ?_
    refine qn F rfl fun a F => ?_
    refine qn F rfl fun a F => ?_
    refine qv F (r_pick_t F rfl rfl rfl) fun a F => ?_
    refine qm F fun a F => ?_
    refine qn F rfl fun a F => ?_
    refine qn F rfl fun a F => ?_
    refine qn F rfl fun a F => ?_
    as_aux_lemma =>
    refine qv F (r_pick_t F rfl rfl rfl) fun a F => ?_
    refine qm F fun a F => ?_
    refine qn F rfl fun a F => ?_
    refine qn F rfl fun a F => ?_
    refine qn F rfl fun a F => ?_
    refine qn F rfl fun a F => ?_
    refine qn F rfl fun a F => ?_
    refine qn F rfl fun a F => ?_
    refine qv F (r_pick_t F rfl rfl rfl) fun a F => ?_
    refine qm F fun a F => ?_
    refine qn F rfl fun a F => ?_
    refine qn F rfl fun a F => ?_
    refine qn F rfl fun a F => ?_
    refine qv F (r_pick_t F rfl rfl rfl) fun a F => ?_
    as_aux_lemma =>
    refine qm F fun a F => ?_
    refine qn F rfl fun a F => ?_
    refine qn F rfl fun a F => ?_
    refine qn F rfl fun a F => ?_
    refine qn F rfl fun a F => ?_
    refine qn F rfl fun a F => ?_
    refine qv F (r_pick_t F rfl rfl rfl) fun a F => ?_
    refine qm F fun a F => ?_
    refine qn F rfl fun a F => ?_
    refine qn F rfl fun a F => ?_
    refine qn F rfl fun a F => ?_
    refine qn F rfl fun a F => ?_
    refine qn F rfl fun a F => ?_
    refine qv F (r_pick_t F rfl rfl rfl) fun a F => ?_
    as_aux_lemma =>
    refine qm F fun a F => ?_
    refine qn F rfl fun a F => ?_
    refine qn F rfl fun a F => ?_
    refine qn F rfl fun a F => ?_
    refine qn F rfl fun a F => ?_
    refine qn F rfl fun a F => ?_
    refine qv F (r_pick_t F rfl rfl rfl) fun a F => ?_
    refine nil ?_
    exact J539 c454 w455 a true (F.sub ⟨rfl, trivial⟩) E B  H
   refine reg ?_
   refine qm F fun a F => ?_
   obtain ⟨t265, q266, H⟩ := bind_some H
   refine qc F Tryz.func23 (shard_Shard_Export.calls k (m := m + 20) (pl hm0) B h201 lm ⟨lm, mm⟩ _ q266) ?_
   rintro e w268 ⟨c267, A271, C272, rfl, E269, B270, h273⟩
   as_aux_lemma =>
   refine ⟨_, rfl, fun a F => ?_⟩
   have B := B270
   replace h201 := h201.ev E269 nq nq nq
   replace h261 := h261.ev E269 nq nq
   replace E := E.trans E269 nx
   refine qm F fun a F => ?_
   obtain ⟨t275, q276, H⟩ := bind_some H
   refine qc F Tryz.func20 (haulagelaw14_same.calls k (m := m + 20) (pl hm0) B h273 h261.r _ q276) ?_
   rintro e w278 ⟨c277, rfl, E279, B280⟩
   refine ⟨_, rfl, fun a F => ?_⟩
   have B := B280
   replace h201 := h201.ev E279 nq nq nq
   replace h261 := h261.ev E279 nq nq
   replace E := E.trans E279 nx
   as_aux_lemma =>
   refine qv F (r_not F rfl) fun a F => ?_
   refine qm F fun a F => ?_
   by_cases hb282 : t275 = true
   ·replace H := ip hb282 H
    refine qy F (congrArg not hb282) ?_
    refine qm F fun a F => ?_
    obtain ⟨t283, q284, H⟩ := bind_some H
    refine qy F (congrArg not hb282) ?_
    refine qc F Tryz.func25 (shard_Shard_Size.calls k (m := m + 20) (pl hm0) B h201 lm ⟨lm, mm⟩ _ q284) ?_
    rintro e w286 ⟨c285, rfl, E287, B288⟩
    refine ⟨_, rfl, fun a F => ?_⟩
    have B := B288
    replace h201 := h201.ev E287 nq nq nq
    replace h261 := h261.ev E287 nq nq
    replace E := E.trans E287 nx
    as_aux_lemma =>
    refine qy F (congrArg not hb282) ?_
    refine qm F fun a F => ?_
    refine qy F (congrArg not hb282) ?_
    refine qv F (r_lensl F Tryz.underlying27 rfl) fun a F => ?_
    refine qy F (congrArg not hb282) ?_
    refine qv F (r_neq F rfl rfl) fun a F => ?_
    refine qv F (r_pick_f F rfl (congrArg not hb282) rfl) fun a F => ?_
    refine nil ?_
    exact J291 c285 w286 a (!decide (t283 = ([2, 3, 0, 2, 0, 9, 0, 0, 0, 0, 3, 3, 2, 1, 1, 97, 1, 49, 1, 2].length : Int))) (F.sub ⟨rfl, rfl, rfl, trivial⟩) E B h201 h261 H
   replace H := im hb282 H
   refine qn F (congrArg not (bfalse hb282)) fun a F => ?_
   refine qn F (congrArg not (bfalse hb282)) fun a F => ?_
   refine qn F (congrArg not (bfalse hb282)) fun a F => ?_
   refine qn F (congrArg not (bfalse hb282)) fun a F => ?_
   as_aux_lemma =>
   refine qn F (congrArg not (bfalse hb282)) fun a F => ?_
   refine qv F (r_pick_t F rfl (congrArg not (bfalse hb282)) rfl) fun a F => ?_
   refine nil ?_
   exact J291 c277 w278 a true (F.sub ⟨rfl, rfl, rfl, trivial⟩) E B h201 h261 H
  refine reg ?_
  refine qf F ff_32_0 fun a F => ?_
  refine qv F (r_load F rfl ag_4 (AT.cell h83 rfl)) fun a F => ?_
  refine qv F (r_not F rfl) fun a F => ?_
  refine qm F fun a F => ?_
  by_cases hb215 : t65.1.Done = true
  ·replace H := ip hb215 H
   refine qy F (congrArg not hb215) ?_
   refine qf F ff_32_1 fun a F => ?_
   refine qy F (congrArg not hb215) ?_
   refine qv F (r_load F rfl ag_27 (AT.cell h83 rfl)) fun a F => ?_
   as_aux_lemma =>
   refine qy F (congrArg not hb215) ?_
   refine qv F (r_lensl F Tryz.underlying27 rfl) fun a F => ?_
   refine qy F (congrArg not hb215) ?_
   refine qv F (r_neq F rfl rfl) fun a F => ?_
   refine qv F (r_pick_f F rfl (congrArg not hb215) rfl) fun a F => ?_
   refine qm F fun a F => ?_
   by_cases hb216 : (t65.1.Key.length : Int) = 0
   ·replace H := ip hb216 H
    refine qy F (congrArg not (dt hb216)) ?_
    refine qf F ff_32_4 fun a F => ?_
    refine qy F (congrArg not (dt hb216)) ?_
    refine qv F (r_load F rfl ag_3 (AT.cell h83 rfl)) fun a F => ?_
    refine qy F (congrArg not (dt hb216)) ?_
    refine qv F (r_neq F rfl rfl) fun a F => ?_
    refine qv F (r_pick_f F rfl (congrArg not (dt hb216)) rfl) fun a F => ?_
    as_aux_lemma =>
    refine qm F fun a F => ?_
    by_cases hb217 : t65.1.At = 1
    ·replace H := ip hb217 H
     refine qy F (congrArg not (dt hb217)) ?_
     refine qm F fun a F => ?_
     refine qv F (r_pick_f F rfl (congrArg not (dt hb217)) rfl) fun a F => ?_
     refine qm F fun a F => ?_
     by_cases hb218 : t65.2.1 = true
     ·replace H := ip hb218 H
      refine qn F hb218 fun a F => ?_
      refine qn F hb218 fun a F => ?_
      refine qn F hb218 fun a F => ?_
      refine qv F (r_pick_t F rfl hb218 rfl) fun a F => ?_
      refine qm F fun a F => ?_
      refine qn F rfl fun a F => ?_
      refine qn F rfl fun a F => ?_
      as_aux_lemma =>
      refine qv F (r_pick_t F rfl rfl rfl) fun a F => ?_
      refine qm F fun a F => ?_
      refine qn F rfl fun a F => ?_
      refine qn F rfl fun a F => ?_
      refine qn F rfl fun a F => ?_
      refine qv F (r_pick_t F rfl rfl rfl) fun a F => ?_
      refine qm F fun a F => ?_
      refine qn F rfl fun a F => ?_
      refine qn F rfl fun a F => ?_
      refine qn F rfl fun a F => ?_
      refine qv F (r_pick_t F rfl rfl rfl) fun a F => ?_
      refine qm F fun a F => ?_
      refine qn F rfl fun a F => ?_
      refine qn F rfl fun a F => ?_
      as_aux_lemma =>
      refine qn F rfl fun a F => ?_
      refine qv F (r_pick_t F rfl rfl rfl) fun a F => ?_
      refine qm F fun a F => ?_
      refine qn F rfl fun a F => ?_
      refine qn F rfl fun a F => ?_
      refine qn F rfl fun a F => ?_
      refine qv F (r_pick_t F rfl rfl rfl) fun a F => ?_
      refine qm F fun a F => ?_
      refine qn F rfl fun a F => ?_
      refine qn F rfl fun a F => ?_
      refine qn F rfl fun a F => ?_
      refine qv F (r_pick_t F rfl rfl rfl) fun a F => ?_
      refine qm F fun a F => ?_
      refine qn F rfl fun a F => ?_
      as_aux_lemma =>
      refine qn F rfl fun a F => ?_
      refine qv F (r_pick_t F rfl rfl rfl) fun a F => ?_
      refine qm F fun a F => ?_
      refine qn F rfl fun a F => ?_
      refine qn F rfl fun a F => ?_
      refine qv F (r_pick_t F rfl rfl rfl) fun a F => ?_
      refine qm F fun a F => ?_
      refine qn F rfl fun a F => ?_
      refine qn F rfl fun a F => ?_
      refine qn F rfl fun a F => ?_
      refine qv F (r_pick_t F rfl rfl rfl) fun a F => ?_
      refine nil ?_
      exact J250 c203 w210 a true (F.sub ⟨rfl, rfl, trivial⟩) E B h201 H
     replace H := im hb218 H
     as_aux_lemma =>
     refine qy F (bfalse hb218) ?_
     refine qm F fun a F => ?_
     obtain ⟨t219, q220, H⟩ := bind_some H
     refine qy F (bfalse hb218) ?_
     refine qc F Tryz.func12 (haulagelaw14_num.calls (m := m + 20) (pl hm0) B _ q220) ?_
     rintro e w222 ⟨c221, rfl, E223, B224⟩
     refine ⟨_, rfl, fun a F => ?_⟩
     have B := B224
     replace h120 := h120.ev E223 nq
     replace h201 := h201.ev E223 nq nq nq
     replace h207 := h207.ev E223 nq
     replace E := E.trans E223 nx
     refine qy F (bfalse hb218) ?_
     refine qv F (r_neq F rfl rfl) fun a F => ?_
     as_aux_lemma =>
     refine qv F (r_pick_f F rfl (bfalse hb218) rfl) fun a F => ?_
     refine qm F fun a F => ?_
     by_cases hb226 : t219 = 0
     ·replace H := ip hb226 H
      refine qy F (congrArg not (dt hb226)) ?_
      refine qm F fun a F => ?_
      refine qy F (congrArg not (dt hb226)) ?_
      refine qv F (r_not F rfl) fun a F => ?_
      refine qv F (r_pick_f F rfl (congrArg not (dt hb226)) rfl) fun a F => ?_
      refine qm F fun a F => ?_
      by_cases hb227 : t102.2.1 = true
      ·replace H := ip hb227 H
       refine qy F (congrArg not hb227) ?_
       refine qf F ff_32_0 fun a F => ?_
       refine qy F (congrArg not hb227) ?_
       refine qv F (r_load F rfl ag_4 (AT.cell h120 rfl)) fun a F => ?_
       as_aux_lemma =>
       refine qy F (congrArg not hb227) ?_
       refine qv F (r_not F rfl) fun a F => ?_
       refine qv F (r_pick_f F rfl (congrArg not hb227) rfl) fun a F => ?_
       refine qm F fun a F => ?_
       by_cases hb228 : t102.1.Done = true
       ·replace H := ip hb228 H
        refine qy F (congrArg not hb228) ?_
        refine qf F ff_32_4 fun a F => ?_
        refine qy F (congrArg not hb228) ?_
        refine qv F (r_load F rfl ag_3 (AT.cell h120 rfl)) fun a F => ?_
        refine qy F (congrArg not hb228) ?_
        refine qv F (r_neq F rfl rfl) fun a F => ?_
        refine qv F (r_pick_f F rfl (congrArg not hb228) rfl) fun a F => ?_
        refine qm F fun a F => ?_
        by_cases hb229 : t102.1.At = 2
        ·replace H := ip hb229 H
         as_aux_lemma =>
         refine qy F (congrArg not (dt hb229)) ?_
         refine qf F ff_32_3 fun a F => ?_
         refine qy F (congrArg not (dt hb229)) ?_
         refine qv F (r_load F rfl ag_3 (AT.cell h120 rfl)) fun a F => ?_
         refine qy F (congrArg not (dt hb229)) ?_
         refine qv F (r_neq F rfl rfl) fun a F => ?_
         refine qv F (r_pick_f F rfl (congrArg not (dt hb229)) rfl) fun a F => ?_
         refine qm F fun a F => ?_
         by_cases hb230 : t102.1.Rev = 1
         ·replace H := ip hb230 H
          refine qy F (congrArg not (dt hb230)) ?_
          refine qm F fun a F => ?_
          obtain ⟨t231, q232, H⟩ := bind_some H
          refine qy F (congrArg not (dt hb230)) ?_
          refine qc F Tryz.func12 (haulagelaw14_num.calls (m := m + 20) (pl hm0) B _ q232) ?_
          rintro e w234 ⟨c233, rfl, E235, B236⟩
          as_aux_lemma =>
          refine ⟨_, rfl, fun a F => ?_⟩
          have B := B236
          replace h201 := h201.ev E235 nq nq nq
          replace h207 := h207.ev E235 nq
          replace E := E.trans E235 nx
          refine qy F (congrArg not (dt hb230)) ?_
          refine qv F (r_neq F rfl rfl) fun a F => ?_
          refine qv F (r_pick_f F rfl (congrArg not (dt hb230)) rfl) fun a F => ?_
          refine qm F fun a F => ?_
          by_cases hb238 : t231 = 141
          ·replace H := ip hb238 H
           refine qy F (congrArg not (dt hb238)) ?_
           refine qm F fun a F => ?_
           obtain ⟨t239, q240, H⟩ := bind_some H
           refine qy F (congrArg not (dt hb238)) ?_
           as_aux_lemma =>
           refine qc F Tryz.func12 (haulagelaw14_num.calls (m := m + 20) (pl hm0) B _ q240) ?_
           rintro e w242 ⟨c241, rfl, E243, B244⟩
           refine ⟨_, rfl, fun a F => ?_⟩
           have B := B244
           replace h201 := h201.ev E243 nq nq nq
           replace h207 := h207.ev E243 nq
           replace E := E.trans E243 nx
           refine qy F (congrArg not (dt hb238)) ?_
           refine qv F (r_neq F rfl rfl) fun a F => ?_
           refine qv F (r_pick_f F rfl (congrArg not (dt hb238)) rfl) fun a F => ?_
           refine qm F fun a F => ?_
           by_cases hb246 : t239 = 0
           ·replace H := ip hb246 H
            refine qy F (congrArg not (dt hb246)) ?_
            refine qm F fun a F => ?_
            as_aux_lemma =>
            refine qy F (congrArg not (dt hb246)) ?_
            refine qv F (r_not F rfl) fun a F => ?_
            refine qv F (r_pick_f F rfl (congrArg not (dt hb246)) rfl) fun a F => ?_
            refine qm F fun a F => ?_
            by_cases hb247 : t189.2.1 = true
            ·replace H := ip hb247 H
             refine qy F (congrArg not hb247) ?_
             refine qf F ff_32_0 fun a F => ?_
             refine qy F (congrArg not hb247) ?_
             refine qv F (r_load F rfl ag_4 (AT.cell h207 rfl)) fun a F => ?_
             refine qv F (r_pick_f F rfl (congrArg not hb247) rfl) fun a F => ?_
             refine qm F fun a F => ?_
             by_cases hb248 : t189.1.Done = true
             ·replace H := ip hb248 H
              refine qn F hb248 fun a F => ?_
              refine qn F hb248 fun a F => ?_
              as_aux_lemma =>
              refine qn F hb248 fun a F => ?_
              refine qv F (r_pick_t F rfl hb248 rfl) fun a F => ?_
              refine nil ?_
              exact J250 c241 w242 a true (F.sub ⟨rfl, rfl, trivial⟩) E B h201 H
             replace H := im hb248 H
             refine qy F (bfalse hb248) ?_
             refine qf F ff_32_4 fun a F => ?_
             refine qy F (bfalse hb248) ?_
             refine qv F (r_load F rfl ag_3 (AT.cell h207 rfl)) fun a F => ?_
             refine qy F (bfalse hb248) ?_
             refine qv F (r_neq F rfl rfl) fun a F => ?_
             refine qv F (r_pick_f F rfl (bfalse hb248) rfl) fun a F => ?_
             refine nil ?_
             exact J250 c241 w242 a (!decide (t189.1.At = 3)) (F.sub ⟨rfl, rfl, trivial⟩) E B h201 H
            as_aux_lemma =>
            replace H := im hb247 H
            refine qn F (congrArg not (bfalse hb247)) fun a F => ?_
            refine qn F (congrArg not (bfalse hb247)) fun a F => ?_
            refine qv F (r_pick_t F rfl (congrArg not (bfalse hb247)) rfl) fun a F => ?_
            refine qm F fun a F => ?_
            refine qn F rfl fun a F => ?_
            refine qn F rfl fun a F => ?_
            refine qn F rfl fun a F => ?_
            refine qv F (r_pick_t F rfl rfl rfl) fun a F => ?_
            refine nil ?_
            exact J250 c241 w242 a true (F.sub ⟨rfl, rfl, trivial⟩) E B h201 H
           replace H := im hb246 H
           refine qn F (congrArg not (dz hb246)) fun a F => ?_
           refine qn F (congrArg not (dz hb246)) fun a F => ?_
           as_aux_lemma =>
           refine qv F (r_pick_t F rfl (congrArg not (dz hb246)) rfl) fun a F => ?_
           refine qm F fun a F => ?_
           refine qn F rfl fun a F => ?_
           refine qn F rfl fun a F => ?_
           refine qv F (r_pick_t F rfl rfl rfl) fun a F => ?_
           refine qm F fun a F => ?_
           refine qn F rfl fun a F => ?_
           refine qn F rfl fun a F => ?_
           refine qn F rfl fun a F => ?_
           refine qv F (r_pick_t F rfl rfl rfl) fun a F => ?_
           refine nil ?_
           exact J250 c241 w242 a true (F.sub ⟨rfl, rfl, trivial⟩) E B h201 H
          replace H := im hb238 H
          refine qn F (congrArg not (dz hb238)) fun a F => ?_
          as_aux_lemma =>
          refine qn F (congrArg not (dz hb238)) fun a F => ?_
          refine qn F (congrArg not (dz hb238)) fun a F => ?_
          refine qv F (r_pick_t F rfl (congrArg not (dz hb238)) rfl) fun a F => ?_
          refine qm F fun a F => ?_
          refine qn F rfl fun a F => ?_
          refine qn F rfl fun a F => ?_
          refine qv F (r_pick_t F rfl rfl rfl) fun a F => ?_
          refine qm F fun a F => ?_
          refine qn F rfl fun a F => ?_
          refine qn F rfl fun a F => ?_
          refine qv F (r_pick_t F rfl rfl rfl) fun a F => ?_
          refine qm F fun a F => ?_
          refine qn F rfl fun a F => ?_
          refine qn F rfl fun a F => ?_
          as_aux_lemma =>
          refine qn F rfl fun a F => ?_
          refine qv F (r_pick_t F rfl rfl rfl) fun a F => ?_
          refine nil ?_
          exact J250 c233 w234 a true (F.sub ⟨rfl, rfl, trivial⟩) E B h201 H
         replace H := im hb230 H
         refine qn F (congrArg not (dz hb230)) fun a F => ?_
         refine qn F (congrArg not (dz hb230)) fun a F => ?_
         refine qn F (congrArg not (dz hb230)) fun a F => ?_
         refine qv F (r_pick_t F rfl (congrArg not (dz hb230)) rfl) fun a F => ?_
         refine qm F fun a F => ?_
         refine qn F rfl fun a F => ?_
         refine qn F rfl fun a F => ?_
         refine qn F rfl fun a F => ?_
         refine qv F (r_pick_t F rfl rfl rfl) fun a F => ?_
         as_aux_lemma =>
         refine qm F fun a F => ?_
         refine qn F rfl fun a F => ?_
         refine qn F rfl fun a F => ?_
         refine qv F (r_pick_t F rfl rfl rfl) fun a F => ?_
         refine qm F fun a F => ?_
         refine qn F rfl fun a F => ?_
         refine qn F rfl fun a F => ?_
         refine qv F (r_pick_t F rfl rfl rfl) fun a F => ?_
         refine qm F fun a F => ?_
         refine qn F rfl fun a F => ?_
         refine qn F rfl fun a F => ?_
         refine qn F rfl fun a F => ?_
         refine qv F (r_pick_t F rfl rfl rfl) fun a F => ?_
         refine nil ?_
         exact J250 c221 w222 a true (F.sub ⟨rfl, rfl, trivial⟩) E B h201 H
        as_aux_lemma =>
        replace H := im hb229 H
        refine qn F (congrArg not (dz hb229)) fun a F => ?_
        refine qn F (congrArg not (dz hb229)) fun a F => ?_
        refine qn F (congrArg not (dz hb229)) fun a F => ?_
        refine qv F (r_pick_t F rfl (congrArg not (dz hb229)) rfl) fun a F => ?_
        refine qm F fun a F => ?_
        refine qn F rfl fun a F => ?_
        refine qn F rfl fun a F => ?_
        refine qn F rfl fun a F => ?_
        refine qv F (r_pick_t F rfl rfl rfl) fun a F => ?_
        refine qm F fun a F => ?_
        refine qn F rfl fun a F => ?_
        refine qn F rfl fun a F => ?_
        refine qn F rfl fun a F => ?_
        as_aux_lemma =>
        refine qv F (r_pick_t F rfl rfl rfl) fun a F => ?_
        refine qm F fun a F => ?_
        refine qn F rfl fun a F => ?_
        refine qn F rfl fun a F => ?_
        refine qv F (r_pick_t F rfl rfl rfl) fun a F => ?_
        refine qm F fun a F => ?_
        refine qn F rfl fun a F => ?_
        refine qn F rfl fun a F => ?_
        refine qv F (r_pick_t F rfl rfl rfl) fun a F => ?_
        refine qm F fun a F => ?_
        refine qn F rfl fun a F => ?_
        refine qn F rfl fun a F => ?_
        refine qn F rfl fun a F => ?_
        refine qv F (r_pick_t F rfl rfl rfl) fun a F => ?_
        as_aux_lemma =>
        refine nil ?_
        exact J250 c221 w222 a true (F.sub ⟨rfl, rfl, trivial⟩) E B h201 H
       replace H := im hb228 H
       refine qn F (congrArg not (bfalse hb228)) fun a F => ?_
       refine qn F (congrArg not (bfalse hb228)) fun a F => ?_
       refine qn F (congrArg not (bfalse hb228)) fun a F => ?_
       refine qv F (r_pick_t F rfl (congrArg not (bfalse hb228)) rfl) fun a F => ?_
       refine qm F fun a F => ?_
       refine qn F rfl fun a F => ?_
       refine qn F rfl fun a F => ?_
       refine qn F rfl fun a F => ?_
       refine qv F (r_pick_t F rfl rfl rfl) fun a F => ?_
       refine qm F fun a F => ?_
       refine qn F rfl fun a F => ?_
       as_aux_lemma =>
       refine qn F rfl fun a F => ?_
       refine qn F rfl fun a F => ?_
       refine qv F (r_pick_t F rfl rfl rfl) fun a F => ?_
       refine qm F fun a F => ?_
       refine qn F rfl fun a F => ?_
       refine qn F rfl fun a F => ?_
       refine qn F rfl fun a F => ?_
       refine qv F (r_pick_t F rfl rfl rfl) fun a F => ?_
       refine qm F fun a F => ?_
       refine qn F rfl fun a F => ?_
       refine qn F rfl fun a F => ?_
       refine qv F (r_pick_t F rfl rfl rfl) fun a F => ?_
       refine qm F fun a F => ?_
       refine qn F rfl fun a F => ?_
       as_aux_lemma =>
       refine qn F rfl fun a F => ?_
       refine qv F (r_pick_t F rfl rfl rfl) fun a F => ?_
       refine qm F fun a F => ?_
       refine qn F rfl fun a F => ?_
       refine qn F rfl fun a F => ?_
       refine qn F rfl fun a F => ?_
       refine qv F (r_pick_t F rfl rfl rfl) fun a F => ?_
       refine nil ?_
       exact J250 c221 w222 a true (F.sub ⟨rfl, rfl, trivial⟩) E B h201 H
      replace H := im hb227 H
      refine qn F (congrArg not (bfalse hb227)) fun a F => ?_
      refine qn F (congrArg not (bfalse hb227)) fun a F => ?_
      refine qn F (congrArg not (bfalse hb227)) fun a F => ?_
      refine qv F (r_pick_t F rfl (congrArg not (bfalse hb227)) rfl) fun a F => ?_
      as_aux_lemma =>
      refine qm F fun a F => ?_
      refine qn F rfl fun a F => ?_
      refine qn F rfl fun a F => ?_
      refine qn F rfl fun a F => ?_
      refine qv F (r_pick_t F rfl rfl rfl) fun a F => ?_
      refine qm F fun a F => ?_
      refine qn F rfl fun a F => ?_
      refine qn F rfl fun a F => ?_
      refine qn F rfl fun a F => ?_
      refine qv F (r_pick_t F rfl rfl rfl) fun a F => ?_
      refine qm F fun a F => ?_
      refine qn F rfl fun a F => ?_
      refine qn F rfl fun a F => ?_
      refine qn F rfl fun a F => ?_
      as_aux_lemma =>
      refine qv F (r_pick_t F rfl rfl rfl) fun a F => ?_
      refine qm F fun a F => ?_
      refine qn F rfl fun a F => ?_
      refine qn F rfl fun a F => ?_
      refine qn F rfl fun a F => ?_
      refine qv F (r_pick_t F rfl rfl rfl) fun a F => ?_
      refine qm F fun a F => ?_
      refine qn F rfl fun a F => ?_
      refine qn F rfl fun a F => ?_
      refine qv F (r_pick_t F rfl rfl rfl) fun a F => ?_
      refine qm F fun a F => ?_
      refine qn F rfl fun a F => ?_
      refine qn F rfl fun a F => ?_
      refine qv F (r_pick_t F rfl rfl rfl) fun a F => ?_
      as_aux_lemma =>
      refine qm F fun a F => ?_
      refine qn F rfl fun a F => ?_
      refine qn F rfl fun a F => ?_
      refine qn F rfl fun a F => ?_
      refine qv F (r_pick_t F rfl rfl rfl) fun a F => ?_
      refine nil ?_
      exact J250 c221 w222 a true (F.sub ⟨rfl, rfl, trivial⟩) E B h201 H
     replace H := im hb226 H
     refine qn F (congrArg not (dz hb226)) fun a F => ?_
     refine qn F (congrArg not (dz hb226)) fun a F => ?_
     refine qv F (r_pick_t F rfl (congrArg not (dz hb226)) rfl) fun a F => ?_
     refine qm F fun a F => ?_
     refine qn F rfl fun a F => ?_
     refine qn F rfl fun a F => ?_
     as_aux_lemma =>
     refine qn F rfl fun a F => ?_
     refine qv F (r_pick_t F rfl rfl rfl) fun a F => ?_
     refine qm F fun a F => ?_
     refine qn F rfl fun a F => ?_
     refine qn F rfl fun a F => ?_
     refine qn F rfl fun a F => ?_
     refine qv F (r_pick_t F rfl rfl rfl) fun a F => ?_
     refine qm F fun a F => ?_
     refine qn F rfl fun a F => ?_
     refine qn F rfl fun a F => ?_
     refine qn F rfl fun a F => ?_
     refine qv F (r_pick_t F rfl rfl rfl) fun a F => ?_
     refine qm F fun a F => ?_
     refine qn F rfl fun a F => ?_
     as_aux_lemma =>
     refine qn F rfl fun a F => ?_
     refine qn F rfl fun a F => ?_
     refine qv F (r_pick_t F rfl rfl rfl) fun a F => ?_
     refine qm F fun a F => ?_
     refine qn F rfl fun a F => ?_
     refine qn F rfl fun a F => ?_
     refine qn F rfl fun a F => ?_
     refine qv F (r_pick_t F rfl rfl rfl) fun a F => ?_
     refine qm F fun a F => ?_
     refine qn F rfl fun a F => ?_
     refine qn F rfl fun a F => ?_
     refine qv F (r_pick_t F rfl rfl rfl) fun a F => ?_
     refine qm F fun a F => ?_
     refine qn F rfl fun a F => ?_
     as_aux_lemma =>
     refine qn F rfl fun a F => ?_
     refine qv F (r_pick_t F rfl rfl rfl) fun a F => ?_
     refine qm F fun a F => ?_
     refine qn F rfl fun a F => ?_
     refine qn F rfl fun a F => ?_
     refine qn F rfl fun a F => ?_
     refine qv F (r_pick_t F rfl rfl rfl) fun a F => ?_
     refine nil ?_
     exact J250 c221 w222 a true (F.sub ⟨rfl, rfl, trivial⟩) E B h201 H
    replace H := im hb217 H
    refine qn F (congrArg not (dz hb217)) fun a F => ?_
    refine qv F (r_pick_t F rfl (congrArg not (dz hb217)) rfl) fun a F => ?_
    refine qm F fun a F => ?_
    refine qn F rfl fun a F => ?_
    as_aux_lemma =>
    refine qn F rfl fun a F => ?_
    refine qn F rfl fun a F => ?_
    refine qv F (r_pick_t F rfl rfl rfl) fun a F => ?_
    refine qm F fun a F => ?_
    refine qn F rfl fun a F => ?_
    refine qn F rfl fun a F => ?_
    refine qv F (r_pick_t F rfl rfl rfl) fun a F => ?_
    refine qm F fun a F => ?_
    refine qn F rfl fun a F => ?_
    refine qn F rfl fun a F => ?_
    refine qn F rfl fun a F => ?_
    refine qv F (r_pick_t F rfl rfl rfl) fun a F => ?_
    refine qm F fun a F => ?_
    refine qn F rfl fun a F => ?_
    as_aux_lemma =>
    refine qn F rfl fun a F => ?_
    refine qn F rfl fun a F => ?_
    refine qv F (r_pick_t F rfl rfl rfl) fun a F => ?_
    refine qm F fun a F => ?_
    refine qn F rfl fun a F => ?_
    refine qn F rfl fun a F => ?_
    refine qn F rfl fun a F => ?_
    refine qv F (r_pick_t F rfl rfl rfl) fun a F => ?_
    refine qm F fun a F => ?_
    refine qn F rfl fun a F => ?_
    refine qn F rfl fun a F => ?_
    refine qn F rfl fun a F => ?_
    refine qv F (r_pick_t F rfl rfl rfl) fun a F => ?_
    refine qm F fun a F => ?_
    as_aux_lemma =>
    refine qn F rfl fun a F => ?_
    refine qn F rfl fun a F => ?_
    refine qn F rfl fun a F => ?_
    refine qv F (r_pick_t F rfl rfl rfl) fun a F => ?_
    refine qm F fun a F => ?_
    refine qn F rfl fun a F => ?_
    refine qn F rfl fun a F => ?_
    refine qv F (r_pick_t F rfl rfl rfl) fun a F => ?_
    refine qm F fun a F => ?_
    refine qn F rfl fun a F => ?_
    refine qn F rfl fun a F => ?_
    refine qv F (r_pick_t F rfl rfl rfl) fun a F => ?_
    refine qm F fun a F => ?_
    refine qn F rfl fun a F => ?_
    as_aux_lemma =>
    refine qn F rfl fun a F => ?_
    refine qn F rfl fun a F => ?_
    refine qv F (r_pick_t F rfl rfl rfl) fun a F => ?_
    refine nil ?_
    exact J250 c203 w210 a true (F.sub ⟨rfl, rfl, trivial⟩) E B h201 H
   replace H := im hb216 H
   refine qn F (congrArg not (dz hb216)) fun a F => ?_
   refine qn F (congrArg not (dz hb216)) fun a F => ?_
   refine qn F (congrArg not (dz hb216)) fun a F => ?_
   refine qv F (r_pick_t F rfl (congrArg not (dz hb216)) rfl) fun a F => ?_
   refine qm F fun a F => ?_
   refine qn F rfl fun a F => ?_
   refine qv F (r_pick_t F rfl rfl rfl) fun a F => ?_
   refine qm F fun a F => ?_
   as_aux_lemma =>
   refine qn F rfl fun a F => ?_
   refine qn F rfl fun a F => ?_
   refine qn F rfl fun a F => ?_
   refine qv F (r_pick_t F rfl rfl rfl) fun a F => ?_
   refine qm F fun a F => ?_
   refine qn F rfl fun a F => ?_
   refine qn F rfl fun a F => ?_
   refine qv F (r_pick_t F rfl rfl rfl) fun a F => ?_
   refine qm F fun a F => ?_
   refine qn F rfl fun a F => ?_
   refine qn F rfl fun a F => ?_
   refine qn F rfl fun a F => ?_
   refine qv F (r_pick_t F rfl rfl rfl) fun a F => ?_
   refine qm F fun a F => ?_
   as_aux_lemma =>
   refine qn F rfl fun a F => ?_
   refine qn F rfl fun a F => ?_
   refine qn F rfl fun a F => ?_
   refine qv F (r_pick_t F rfl rfl rfl) fun a F => ?_
   refine qm F fun a F => ?_
   refine qn F rfl fun a F => ?_
   refine qn F rfl fun a F => ?_
   refine qn F rfl fun a F => ?_
   refine qv F (r_pick_t F rfl rfl rfl) fun a F => ?_
   refine qm F fun a F => ?_
   refine qn F rfl fun a F => ?_
   refine qn F rfl fun a F => ?_
   refine qn F rfl fun a F => ?_
   refine qv F (r_pick_t F rfl rfl rfl) fun a F => ?_
   as_aux_lemma =>
   refine qm F fun a F => ?_
   refine qn F rfl fun a F => ?_
   refine qn F rfl fun a F => ?_
   refine qn F rfl fun a F => ?_
   refine qv F (r_pick_t F rfl rfl rfl) fun a F => ?_
   refine qm F fun a F => ?_
   refine qn F rfl fun a F => ?_
   refine qn F rfl fun a F => ?_
   refine qv F (r_pick_t F rfl rfl rfl) fun a F => ?_
   refine qm F fun a F => ?_
   refine qn F rfl fun a F => ?_
   refine qn F rfl fun a F => ?_
   refine qv F (r_pick_t F rfl rfl rfl) fun a F => ?_
   refine qm F fun a F => ?_
   as_aux_lemma =>
   refine qn F rfl fun a F => ?_
   refine qn F rfl fun a F => ?_
   refine qn F rfl fun a F => ?_
   refine qv F (r_pick_t F rfl rfl rfl) fun a F => ?_
   refine nil ?_
   exact J250 c203 w210 a true (F.sub ⟨rfl, rfl, trivial⟩) E B h201 H
  replace H := im hb215 H
  refine qn F (congrArg not (bfalse hb215)) fun a F => ?_
  refine qn F (congrArg not (bfalse hb215)) fun a F => ?_
  refine qn F (congrArg not (bfalse hb215)) fun a F => ?_
  refine qn F (congrArg not (bfalse hb215)) fun a F => ?_
  refine qv F (r_pick_t F rfl (congrArg not (bfalse hb215)) rfl) fun a F => ?_
  refine qm F fun a F => ?_
  refine qn F rfl fun a F => ?_
  as_aux_lemma =>
  refine qn F rfl fun a F => ?_
  refine qn F rfl fun a F => ?_
  refine qv F (r_pick_t F rfl rfl rfl) fun a F => ?_
  refine qm F fun a F => ?_
  refine qn F rfl fun a F => ?_
  refine qv F (r_pick_t F rfl rfl rfl) fun a F => ?_
  refine qm F fun a F => ?_
  refine qn F rfl fun a F => ?_
  refine qn F rfl fun a F => ?_
  refine qn F rfl fun a F => ?_
  refine qv F (r_pick_t F rfl rfl rfl) fun a F => ?_
  refine qm F fun a F => ?_
  refine qn F rfl fun a F => ?_
  refine qn F rfl fun a F => ?_
  as_aux_lemma =>
  refine qv F (r_pick_t F rfl rfl rfl) fun a F => ?_
  refine qm F fun a F => ?_
  refine qn F rfl fun a F => ?_
  refine qn F rfl fun a F => ?_
  refine qn F rfl fun a F => ?_
  refine qv F (r_pick_t F rfl rfl rfl) fun a F => ?_
  refine qm F fun a F => ?_
  refine qn F rfl fun a F => ?_
  refine qn F rfl fun a F => ?_
  refine qn F rfl fun a F => ?_
  refine qv F (r_pick_t F rfl rfl rfl) fun a F => ?_
  refine qm F fun a F => ?_
  refine qn F rfl fun a F => ?_
  refine qn F rfl fun a F => ?_
  as_aux_lemma =>
  refine qn F rfl fun a F => ?_
  refine qv F (r_pick_t F rfl rfl rfl) fun a F => ?_
  refine qm F fun a F => ?_
  refine qn F rfl fun a F => ?_
  refine qn F rfl fun a F => ?_
  refine qn F rfl fun a F => ?_
  refine qv F (r_pick_t F rfl rfl rfl) fun a F => ?_
  refine qm F fun a F => ?_
  refine qn F rfl fun a F => ?_
  refine qn F rfl fun a F => ?_
  refine qn F rfl fun a F => ?_
  refine qv F (r_pick_t F rfl rfl rfl) fun a F => ?_
  refine qm F fun a F => ?_
  refine qn F rfl fun a F => ?_
  as_aux_lemma =>
  refine qn F rfl fun a F => ?_
  refine qv F (r_pick_t F rfl rfl rfl) fun a F => ?_
  refine qm F fun a F => ?_
  refine qn F rfl fun a F => ?_
  refine qn F rfl fun a F => ?_
  refine qv F (r_pick_t F rfl rfl rfl) fun a F => ?_
  refine qm F fun a F => ?_
  refine qn F rfl fun a F => ?_
  refine qn F rfl fun a F => ?_
  refine qn F rfl fun a F => ?_
  refine qv F (r_pick_t F rfl rfl rfl) fun a F => ?_
  refine nil ?_
  exact J250 c203 w210 a true (F.sub ⟨rfl, rfl, trivial⟩) E B h201 H
 replace H := im hb11 H
 as_aux_lemma =>
 refine wp_cond_true (fb F (congrArg not (bfalse hb11))) ?_
 refine wp_seq_k fun K12 hK12 => reg ?_
 refine qa F fun a F => ?_
 refine nil (hK12 _ _ ?_)
 refine wp_ret ?_
 refine thenR ?_
 replace H := si H
 subst H
 refine out1 F rfl rfl ?_
 exact ⟨cf (fun x_ => if x_ < m then x_ else 0) c6, rfl, E.lv B0, cfb⟩
end Go.Proofs.YthankpjbfpcldaaGreat.G
namespace Go.Proofs.YthankpjbfpcldaaGreat.G
open Go Go.ChangeShapes Go.WideShapes
set_option linter.unusedVariables false
set_option linter.unusedSimpArgs false
def c0 : Nat → Nat := fun _ => 0
section
variable {α : Type} {P : Program} {w : World} {t u : TypeId} {e : K α} {wt : α → Nat} {ok : α → Prop}
end
end Go.Proofs.YthankpjbfpcldaaGreat.G
namespace Go.Proofs.YthankpjbfpcldaaGreat.G
open Go Go.ChangeShapes Go.WideShapes
set_option linter.unusedVariables false
theorem row_own : ownKnob Tryz.prog.godebug = none := by kernel_rfl
end Go.Proofs.YthankpjbfpcldaaGreat.G
namespace Go.Proofs.YthankpjbfpcldaaGreat.G
open Go
set_option maxRecDepth 100000 in
theorem ShardKnown_true : haulagelaw14_ShardKnown.f 1099511627776 = some true := by kernel_rfl
end Go.Proofs.YthankpjbfpcldaaGreat.G
namespace Go.Proofs.YthankpjbfpcldaaGreat.shardKnown
open Go.ChangeShapes Go.WideShapes Go.ChangeAt Go.RowKit
set_option linter.unusedVariables false
set_option maxRecDepth 100000 in
theorem contract (H : Type) (enc : TypeId × Value → H) (W : World) (base : Nat) (args : Array Value) (ds gs : List (DataW H)) (before : List MemPlace)
    (hval : ∀ (j : Nat) t v, Tryz.f7.params[j]? = some t → args[j]? = some v → Value.okWide Tryz.prog W .any base t v)
    (hW : DataW.Whole enc Tryz.prog Tryz.f7.params.toList Rows.shardKnownSpec.vars false W args.toList ds gs before) (hk : Rows.uptoSmall H (ds ++ gs) = true) :
    Calls Tryz.prog 7 args W fun e W' => ∃ v, e = .returned v ∧ Rows.shardKnownSpec.post enc Tryz.prog Tryz.f7 false true false false W args v W' := by
  have hW' := hW
  obtain ⟨p, q, hA0, hV, rfl, hfz, hnd⟩ := hW
  have hA : DataW.TrodAll enc Tryz.prog W 0 (fun _ => true) true Tryz.f7.params.toList args.toList ds p := hA0
  rw [Tryz.params7] at hA hval
  obtain ⟨hargs, rfl, rfl⟩ := trodAll_nil hA
  obtain rfl : args = #[] := by cases args; simp_all
  obtain ⟨rfl, rfl⟩ := trodVars_none hV
  have hb : Rows.uptoBulkAll [] ≤ 1048576 := of_decide_eq_true hk
  simp only [Rows.uptoBulkAll] at hb
  refine (G.haulagelaw14_ShardKnown.calls 1099511627776 (m := 1) (c0 := G.c0) (w0 := W) (Nat.lt_succ_self 0) (fun _ _ => Nat.lt_succ_self 0)  true (G.ShardKnown_true)).mono fun e W' ⟨c_, he, ev_, _⟩ => ?_
  subst he
  have bel : Below W.heap.size W W' := G.Ev.below ev_
  exact ⟨_, rfl, _, _, _, [], _, [], hW', trodAll_mk1 (shut_bool Tryz.underlying4 _), trodAll_mk0, rfl, bel.frame _, fun h => by cases h⟩
set_option maxRecDepth 100000 in
theorem lifted (os : Os) (started : os.Started) (H : Type) (enc : TypeId × Value → H) (F : Stop.Interp) :
    ReturnsInHanded {} Tryz.checked os 7 .any ((Rows.OpenSpec.upto Rows.shardKnownSpec).pre6 enc Tryz.prog Tryz.f7 Rows.shardKnownUptoRow.domain false) (((Rows.OpenSpec.upto Rows.shardKnownSpec).at F).post enc Tryz.prog Tryz.f7 false true false false) := by
  refine returnsInHanded_of_cond (C := Tryz.checked) (s := Rows.OpenSpec.upto Rows.shardKnownSpec) (k := Rows.uptoSmall) rfl G.row_own started (by kernel_rfl) Tryz.func7
    (OpenSpec.witness (enc := enc) (C := Tryz.checked) (s := Rows.OpenSpec.upto Rows.shardKnownSpec) (k := Rows.uptoSmall) rfl false ⟨#[], #[], []⟩ 8 (by kernel_rfl) (by kernel_rfl) (by kernel_rfl)
      (x := ([], [], [])) (by kernel_rfl) rfl (by kernel_rfl)) ?_
  intro W base args ds gs before hval hW _ hk _
  exact contract H enc W base args ds gs before hval hW hk
theorem over : Rows.shardKnownUptoRow.holds Tryz.pinned (Rows.OpenSpec.upto Rows.shardKnownSpec) :=
  OpenClaim.holds_of_cond 7 Tryz.f7 rfl rfl rfl rfl rfl rfl rfl ⟨rfl, rfl, rfl, rfl, rfl⟩ rfl rfl rfl rfl rfl (by kernel_rfl) Tryz.func7 (by kernel_rfl)
    (of_decide_eq_true (by kernel_rfl)) (by unfold Func.isWrapper; first | (rw [if_pos (by decide +kernel)]; kernel_rfl) | (rw [if_neg (by decide +kernel)]; exact ⟨rfl, rfl⟩))
    (fun os started H enc _ F => lifted os started H enc F)
theorem proved : Rows.ShardKnownUptoSaid := over
end Go.Proofs.YthankpjbfpcldaaGreat.shardKnown
namespace Go.Proofs.YthankpjbfpcldaaGreat
theorem shardKnown_holds : Rows.ShardKnownUptoSaid := shardKnown.proved
end Go.Proofs.YthankpjbfpcldaaGreat