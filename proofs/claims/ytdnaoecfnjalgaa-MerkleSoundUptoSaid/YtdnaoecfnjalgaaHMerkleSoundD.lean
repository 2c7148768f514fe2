/- Words and laws on which the row of 'MerkleSound' hangs (its '..UptoSaid': bulk at most 1048576). -/
import Derived.Test.YtdnaoecfnjalgaaHMerkleSoundA
import Derived.Test.YtdnaoecfnjalgaaHMerkleSoundC
import Derived.Test.YtdnaoecfnjalgaaHMerkleSoundB
import Derived.Test.YtdnaoecfnjalgaaRows
import Derived.Deep.Slices
import Derived.ChangeArms
import Derived.KernelRfl
import Derived.Laws.OwnMore
import Derived.Laws.Strings
import Derived.OpenShut
namespace Go.Proofs.Ytdnaoecfnjalgaa.G
open Go Go.RowKit
set_option linter.unusedVariables false
set_option linter.unusedSimpArgs false
set_option maxRecDepth 100000
set_option maxHeartbeats 40000000
theorem merkle_Tree_Put.calls (k : Nat) {m : Nat} {c0 : Nat → Nat} {w0 : World} {j4 : Nat} {j5 : Nat} {p2 : Option Addr} {A7 : Option Addr} {C8 : Nat} {A10 : Option Addr} {C11 : Nat} {a1 : Option Mer} {a6 : api_Row} (hm0 : 0 < m) (B0 : CB m c0 w0) (h3 : ME j4 j5 c0 w0 p2 a1) (h9 : SL false (Kint .u8) 0 0 c0 w0 A7 C8 a6.Key) (h12 : SL false (Kint .u8) 0 0 c0 w0 A10 C11 a6.Value) (bj4 : 0 < j4 ∧ j4 < m) (bj5 : 0 < j5 ∧ j5 < m ∧ j5 ≠ j4) (r : (Option Mer)) (H : merkle_Tree_Put.f k a1 a6 = some r) : Calls Try.prog 30 #[.pointer p2, .agg #[.slice A7 a6.Key.length C8, .slice A10 a6.Value.length C11, .int .i64 a6.Rev]] w0 (fun e w_ => ∃ (c_ : Nat → Nat), e = .returned (.tuple #[]) ∧ Ev (fun x => (x = j4 ∨ x = j5)) c0 w0 c_ w_ ∧ CB m c_ w_ ∧ ME j4 j5 c_ w_ p2 r) := by
 unfold merkle_Tree_Put.f at H; have B := B0.mono (show m ≤ m + 5 by omega); have E : Ev (fun x => (x = j4 ∨ x = j5) ∨ m ≤ x) c0 w0 c0 w0 := Ev.refl; refine enter (N := 54) (l := [.pointer p2, .agg #[.slice A7 a6.Key.length C8, .slice A10 a6.Value.length C11, .int .i64 a6.Rev]]) Try.func30 rfl rfl (nb rfl) fun a F => ?_; refine sr fun K13 hK13 => ?_; refine q_eff F rfl rfl (by decide) (e_box F (v := .agg #[.slice A7 a6.Key.length C8, .slice A10 a6.Value.length C11, .int .i64 a6.Rev]) rfl c0 (m + 1)) ?_; rintro v w15 a ⟨c14, qa16, rfl, E17, h18, B19⟩ F; replace B := B19 _ B lm; replace h3 := h3.ev E17; replace h9 := h9.ev E17; replace h12 := h12.ev E17; replace E := E.n E17; replace h18 : AT _ _ _ _ _ [.slice A7 a6.Key.length C8, .slice A10 a6.Value.length C11, .int .i64 a6.Rev] := h18; refine nil (hK13 _ _ ?_); refine sq fun K21 hK21 => ?_; refine sr fun K22 hK22 => qm F fun a F => ?_; refine qv F (r_peqlA F Try.underlying26 rfl rfl (ME.isNone h3)) fun a F => ?_; refine nil (hK22 _ _ ?_)
 by_cases hb23 : (Option.isNone a1) = true
 ·replace H := ip hb23 H; refine wct (fb F hb23) ?_; refine wp_ret ?_
  as_aux_lemma =>
  refine thenR ?_; obtain rfl := si H; refine out0 F rfl ?_; exact ⟨cf (ct m) c14, rfl, E.lv B0, cfb, ME.rc h3 cfk cfk cfk (by omega)⟩
 replace H := im hb23 H; refine wcf (fb F (bfalse hb23)) (wp_skip (hK21 _ _ ?_)); refine sr fun K24 hK24 => qm F fun a F => qf F ff_36_0 fun a F => ?_; refine ql F ag_23 h18 fun a F => ?_; obtain ⟨t25, q26, H⟩ := bind_some H; refine qc F Try.func42 (merkle_Tree_at.calls k (m := m + 5) (pl hm0) B h3 h9 (Nat.lt_add_right _ bj4.2) ⟨(Nat.lt_add_right _ bj5.2.1), bj5.2.2⟩ _ q26) ?_; rintro e w28 ⟨c27, rfl, E29, B⟩; refine rt fun a F => ?_; replace h3 := h3.ev E29; replace h9 := h9.ev E29; replace h12 := h12.ev E29; replace h18 := h18.ev E29; replace E := E.n E29; refine qm F fun a F => ?_; refine qx F fun a F => ?_; refine qx F fun a F => ?_; refine qx F fun a F => ?_; refine qa F fun a F => qa F fun a F => qa F fun a F => nil (hK24 _ _ ?_); replace F : Fr a 54 [(0, .pointer p2), (3, .pointer (some qa16)), (4, .int .i64 t25.1), (5, .int .i64 t25.2.1), (6, .bool t25.2.2)] := F.sub ⟨rfl, rfl, rfl, rfl, rfl, trivial⟩
 as_aux_lemma =>
 refine sq fun K32 hK32 => ?_; refine sr fun K33 hK33 => qm F fun a F => nil (hK33 _ _ ?_)
 by_cases hb34 : t25.2.2 = true
 ·replace H := ip hb34 H; refine wct (fb F hb34) ?_; obtain ⟨ob35, e36, H⟩ := bind_some H; have z37 := h3; rw [e36] at z37; obtain ⟨ad38, cs40, cs42, rfl, hat39, h41, h43⟩ := ME.some z37; replace H := ifN H; obtain ⟨g45, H⟩ := H; obtain ⟨c46, e47, e48, A49, C50, h51, h52, h43⟩ := ARO.lend (off := 513) (z := m + 2) (AT.eqv (ds := (([.int .i64 ob35.bits] : List Value) ++ (cs40 ++ (([] : List Value)))) ++ (cs42 ++ (([.int .i64 ob35.many] : List Value)))) hat39 (by simp only [List.append_assoc])) (by have l0_ : cs40.length = 512 := (h41.1 : cs40.length = 512); simp only [List.length_append, List.length_cons, List.length_nil] <;> omega) h43 t25.1 g45.1 (by have g_ := g45.2; omega) ⟨(ne_mp bj5.2.1), (pl hm0)⟩; obtain ⟨qa53, qqa53⟩ : ∃ q, q = (ad38.add (513 + t25.1.toNat * 1)) := ⟨_, rfl⟩; have h51 : AT true j4 c27 w28 qa53 [.slice A49 (rd ob35.rows t25.1).length C50] := by rw [qqa53]; exact h51
  replace h9 := SL.rc (c' := c46) (j' := 0) (i' := 0) h9 (fun k_ hk_ => (e47 k_ (by rw [hk_]; exact (ne_z bj5.1))).trans hk_) (fun k_ hk_ => (e47 k_ (by rw [hk_]; exact (ne_z bj5.1))).trans hk_); replace h12 := SL.rc (c' := c46) (j' := 0) (i' := 0) h12 (fun k_ hk_ => (e47 k_ (by rw [hk_]; exact (ne_z bj5.1))).trans hk_) (fun k_ hk_ => (e47 k_ (by rw [hk_]; exact (ne_z bj5.1))).trans hk_); replace h18 := AT.rc (c' := c46) (j' := m + 1) h18 (fun k_ hk_ => (e47 k_ (by rw [hk_]; exact (ne_mp bj5.2.1))).trans hk_); replace h41 := AR.rc (c' := c46) (i' := 0) h41 (fun k_ hk_ => (e47 k_ (by rw [hk_]; exact (ne_z bj5.1))).trans hk_); replace hat39 := AT.rc (c' := c46) (j' := j4) hat39 (fun k_ hk_ => (e47 k_ (by rw [hk_]; exact (Ne.symm bj5.2.2))).trans hk_); replace h51 := AT.rc (c' := c46) (j' := j4) h51 (fun k_ hk_ => (e47 k_ (by rw [hk_]; exact (Ne.symm bj5.2.2))).trans hk_); have EL54 := E; have E : Ev (fun x => (x = j4 ∨ x = j5) ∨ m ≤ x) c46 w28 c46 w28 := Ev.refl; replace B : CB (m + 5) c46 w28 := B.recol (fun b_ => (e48 b_).imp id (fun q_ => by rw [q_]; exact lm))
  as_aux_lemma =>
  refine regD (SB No c46 w28) 10 (.q 0 (.q 1 (.q 2 (.q 3 (.q 4 (.q 5 (.q 6 (.q 7 (.e 8 (.q 9 (.e 10 .nil))))))))))) Try_hm (by decide +kernel) ?_; intro w56 w1_ w2_ w3_ w4_; have E57 : Ev No c46 w28 c46 w56 := Ev.same w1_ w2_ w3_ w4_; replace B := B.same w1_; have zh18 := h18; have zh51 := h51; have zh52 := h52; have ER : Ev No c46 w28 c46 w56 := Ev.same w1_ w2_ w3_ w4_; replace h9 := h9.ev E57; replace h12 := h12.ev E57; replace h41 := h41.ev E57; replace h43 := h43.ev E57; replace hat39 := hat39.ev E57; replace h51 := h51.ev E57; replace h52 := h52.ev E57; replace E := E.n E57; refine dm F ER.sb fun a F => ?_; refine dm F ER.sb fun a F => ?_; refine di F ER.sb fun a F => ?_; refine df F ff_75_2 ER.sb fun a F => ?_; refine dq F (fun wq hS => r_indexArr3 F ua_73 sz_27 rfl rfl g45.1 (by have g_ := g45.2; omega) hat39 qqa53) ER.sb fun a F => ?_; refine dq F (fun wq hS => r_load F rfl ag_27 (AT.cell0 (AT.sb zh51 hS nq) rfl)) ER.sb fun a F => ?_
  as_aux_lemma =>
  refine dm F ER.sb fun a F => ?_; refine dq F (fun wq hS => r_loads (cs := [.slice A7 a6.Key.length C8, .slice A10 a6.Value.length C11, .int .i64 a6.Rev]) F rfl ag_36 sz_36 (AT.sb zh18 hS nq)) ER.sb fun a F => ?_; refine d_e ?_; obtain ⟨t58, q59, H⟩ := bind_some H; refine oc F Try.func41 (merkle_own.calls (m := m + 5) (pl hm0) B h9 h12 _ q59) ?_; rintro e w61 ⟨c60, A64, C65, A67, C68, rfl, E62, B, h66, h69⟩; refine rt fun a F => ?_; replace ER := ER.trans E62 nx; replace h41 := h41.ev E62; replace h43 := h43.ev E62; replace hat39 := hat39.ev E62; replace h51 := h51.ev E62; replace h52 := h52.ev E62; replace E := E.n E62; refine ⟨fun _ => ER.sb, ?_⟩; replace H := ifN H; obtain ⟨g71, H⟩ := H; obtain ⟨ad72, cs73, e74, h75, r76⟩ := SL.at zh52 t25.2.1 g71.1 g71.2; obtain ⟨A77, C78, A80, C81, rfl, h79, h82⟩ := r76; obtain ⟨qa83, qqa83⟩ : ∃ q, q = (ad72.add (t25.2.1.toNat * 3)) := ⟨_, rfl⟩; have h75 : AT true (m + 2) c46 w28 qa83 [.slice A77 ((rd (rd ob35.rows t25.1) t25.2.1).Key).length C78, .slice A80 ((rd (rd ob35.rows t25.1) t25.2.1).Value).length C81, .int .i64 ((rd (rd ob35.rows t25.1) t25.2.1).Rev)] := by rw [qqa83]; exact h75
  replace h75 := h75.ev ER nq
  as_aux_lemma =>
  refine dq F (fun wq hS => r_indexAddr' F Try.underlying27 sz_36 rfl rfl g71.1 g71.2 e74 qqa83) ER.sb fun a F => ?_; refine d_e ?_; refine o_eff0 F rfl rfl rfl (e_storeelN (us := [.slice A64 t58.Key.length C65, .slice A67 t58.Value.length C68, .int .i64 t58.Rev]) (k := K_api_Row) F rfl rfl sz_36 h52 g71.1 g71.2 e74 qqa83 h75 rfl (nb rfl) (one_all rfl) t58 ⟨A64, C65, A67, C68, rfl, (SL.fl h66 (fun q => q)), (SL.fl h69 (fun q => q))⟩ ne_zm) ?_; rintro w85 a ⟨E86, h52, Z87⟩ F; replace B := B.size Z87; replace h41 := h41.ev E86; replace h43 := h43.ev E86 (ne_pm bj5.2.1) ne_zm; replace hat39 := hat39.ev E86 (ne_pm bj4.2); replace h51 := h51.ev E86 (ne_pm bj4.2); replace E := E.trans E86 lc1; have hl88 : (rd ob35.rows t25.1).length = ((rd ob35.rows t25.1).set t25.2.1.toNat t58).length := by simp
  have h51 : AT true j4 c60 w85 qa53 [.slice A49 ((rd ob35.rows t25.1).set t25.2.1.toNat t58).length C50] := by rw [← hl88]; exact h51
  replace F := F.sub (L' := [(0, .pointer (some ad38)), (3, .pointer (some qa16)), (4, .int .i64 t25.1), (5, .int .i64 t25.2.1), (6, .bool t25.2.2), (17, .bool t25.2.2), (18, .pointer (some ad38)), (19, .int .i64 t25.1), (20, .pointer (some ad38)), (21, .pointer (some (ad38.add 513))), (22, .pointer (some qa53)), (23, .slice A49 ((rd ob35.rows t25.1).set t25.2.1.toNat t58).length C50), (24, .int .i64 t25.2.1), (25, .agg #[.slice A7 a6.Key.length C8, .slice A10 a6.Value.length C11, .int .i64 a6.Rev]), (26, .agg #[.slice A64 t58.Key.length C65, .slice A67 t58.Value.length C68, .int .i64 t58.Rev])]) ⟨rfl, rfl, rfl, rfl, rfl, rfl, rfl, rfl, rfl, rfl, rfl, (by rw [← hl88]; rfl), rfl, rfl, rfl, trivial⟩; refine ⟨fun q => absurd rfl q, ?_⟩; refine d_nil ?_; obtain ⟨c89, e90, e91, e92, h43⟩ := ARO.back3 (off := 513) (z := m + 2) (k := t25.1) (AT.eqv (ds := (([.int .i64 ob35.bits] : List Value) ++ (cs40 ++ (([] : List Value)))) ++ (cs42 ++ (([.int .i64 ob35.many] : List Value)))) hat39 (by simp only [List.append_assoc])) (by have l0_ : cs40.length = 512 := (h41.1 : cs40.length = 512); simp only [List.length_append, List.length_cons, List.length_nil] <;> omega) h43 g45.1 (by have g_ := g45.2; omega) (by rw [← qqa53]; exact h51) h52 ⟨(ne_mp bj5.2.1), (pl hm0)⟩ bj5.1; replace h41 := AR.rc (c' := c89) (i' := 0) h41 (fun k_ hk_ => (e90 k_ (by rw [hk_]; exact ne_zm)).trans hk_); replace hat39 := AT.rc (c' := c89) (j' := j4) hat39 (fun k_ hk_ => (e90 k_ (by rw [hk_]; exact (ne_pm bj4.2))).trans hk_); replace E : Ev (fun x => (x = j4 ∨ x = j5) ∨ m ≤ x) c0 w0 c89 w85 := Ev.lent EL54 B0 (by show (j5 = j4 ∨ j5 = j5); omega) (by omega) e47 e48 E e90 e92 (by omega); replace B : CB (m + 5) c89 w85 := B.recol (fun b_ => (e91 b_).imp id (fun q_ => by rw [q_]; exact (Nat.lt_add_right _ bj5.2.1))); refine hK32 _ _ ?_; replace F : Fr a 54 [(0, .pointer (some ad38)), (4, .int .i64 t25.1)] := F.sub ⟨rfl, rfl, trivial⟩
  as_aux_lemma =>
  refine reg ?_; refine qm F fun a F => qm F fun a F => ?_; have h371 : ME j4 j5 c89 w85 (some ad38) (some (Mer.mk ob35.bits ob35.digests (ob35.rows.set t25.1.toNat ((rd ob35.rows t25.1).set t25.2.1.toNat t58)) ob35.many)) := ME.mk hat39 h41 h43; obtain ⟨t372, q373, H⟩ := bind_some H; refine qc F Try.func57 (merkle_Tree_changed.calls k (m := m + 5) (pl hm0) B h371 ⟨bj4.1, (Nat.lt_add_right _ bj4.2)⟩ ⟨bj5.1, (Nat.lt_add_right _ bj5.2.1), bj5.2.2⟩ _ q373) ?_; rintro e w375 ⟨c374, rfl, E376, B, h378⟩; refine rt fun a F => ?_; replace E := E.trans E376 (fun x (q : x = j4 ∨ x = j5) => q.elim (fun q => Or.inl (Or.inl q)) (fun q => Or.inl (Or.inr (q)))); refine nil ?_; obtain rfl := si H
  first | refine out0n F rfl ?_ | refine inbN (out0n F rfl ?_) | refine inbN (inbN (out0n F rfl ?_)) | refine inbN (inbN (inbN (out0n F rfl ?_)))
  exact ⟨cf (ct m) c374, rfl, E.lv B0, cfb, ME.rc h378 cfk cfk cfk (by omega)⟩
 replace H := im hb34 H; refine wcf (fb F (bfalse hb34)) ?_; refine sq fun K93 hK93 => ?_; have J364 : ∀ (c365 : Nat → Nat) (w366 : World) (a : Act) (ad97 : Addr) (ob94 : Mer) (cs99 : List Value) (t138 : List api_Row) (cs362 : List Value), p2 = some ad97 → Fr a 54 [(0, .pointer (some ad97)), (4, .int .i64 t25.1)] → Ev (fun x => (x = j4 ∨ x = j5) ∨ m ≤ x) c0 w0 c365 w366 → CB (m + 5) c365 w366 → AT true j4 c365 w366 ad97 (([.int .i64 ob94.bits] : List Value) ++ (cs99 ++ (([] : List Value) ++ (cs362 ++ (([.int .i64 ob94.many] : List Value)))))) → AR (Kint .u64) 0 c365 w366 cs99 512 ob94.digests → ARO (KOsl K_api_Row) j5 c365 w366 cs362 256 (ob94.rows.set t25.1.toNat t138) noHole → merkle_Tree_Put.j1 k t25 ob94 t138 = some r → K93 a w366 := by
  intro c365 w366 a ad97 ob94 cs99 t138 cs362 qe367 F E B hat98 h100 h363 H; unfold merkle_Tree_Put.j1 at H; refine hK93 _ _ ?_; refine reg ?_; refine qm F fun a F => ?_; refine qi F fun a F => ?_
  as_aux_lemma =>
  refine qf F ff_75_3 fun a F => ?_; refine qv F (r_load F rfl ag_3 (AT.cell hat98 ((get_app (n := 1) (k := 768) rfl).trans ((get_app (n := 512) (k := 256) (h100.1 : cs99.length = 512)).trans ((get_app (n := 0) (k := 256) rfl).trans ((get_app (n := 256) (k := 0) (ARO.len h363 : cs362.length = 256)).trans rfl)))))) fun a F => ?_; refine qv F (r_add F rfl rfl) fun a F => ?_; refine qi F fun a F => ?_; refine qf F ff_75_3 fun a F => ?_; refine q_eff0 F rfl rfl (e_store F rfl rfl sz_3 hat98 (by have l0_ : cs99.length = 512 := (h100.1 : cs99.length = 512); have l1_ : cs362.length = 256 := (ARO.len h363 : cs362.length = 256); simp only [List.length_append, List.length_cons, List.length_nil, l0_, l1_] <;> omega) rfl) ?_; rintro w368 a ⟨E369, hat98, Z370⟩ F; replace B := B.size Z370; replace h100 := h100.ev E369 (ne_z bj4.1); replace h363 := h363.ev E369 bj5.2.2 (ne_z bj4.1); replace E := E.trans E369 (fun x (q : x = j4) => Or.inl (Or.inl q)); replace hat98 : AT true j4 c365 w368 ad97 (([.int .i64 ob94.bits] : List Value) ++ (cs99 ++ (([] : List Value) ++ (cs362 ++ (([.int .i64 (IntKind.i64.wrap (ob94.many + 1))] : List Value)))))) := AT.eqv hat98 ((set_app (n := 1) (k := 768) rfl).trans (congrArg (fun z_ => ([.int .i64 ob94.bits] : List Value) ++ z_) ((set_app (n := 512) (k := 256) (h100.1 : cs99.length = 512)).trans (congrArg (fun z_ => cs99 ++ z_) ((set_app (n := 0) (k := 256) rfl).trans (congrArg (fun z_ => ([] : List Value) ++ z_) ((set_app (n := 256) (k := 0) (ARO.len h363 : cs362.length = 256)).trans (congrArg (fun z_ => cs362 ++ z_) rfl)))))))); refine nil (hK32 _ _ ?_); refine reg ?_; refine qm F fun a F => qm F fun a F => ?_; have h380 : ME j4 j5 c365 w368 (some ad97) (some (Mer.mk ob94.bits ob94.digests (ob94.rows.set t25.1.toNat t138) (IntKind.i64.wrap (ob94.many + 1)))) := ME.mk hat98 h100 h363; obtain ⟨t372, q373, H⟩ := bind_some H; refine qc F Try.func57 (merkle_Tree_changed.calls k (m := m + 5) (pl hm0) B h380 ⟨bj4.1, (Nat.lt_add_right _ bj4.2)⟩ ⟨bj5.1, (Nat.lt_add_right _ bj5.2.1), bj5.2.2⟩ _ q373) ?_; rintro e w382 ⟨c381, rfl, E383, B, h385⟩; refine rt fun a F => ?_; replace E := E.trans E383 (fun x (q : x = j4 ∨ x = j5) => q.elim (fun q => Or.inl (Or.inl q)) (fun q => Or.inl (Or.inr (q)))); refine nil ?_; obtain rfl := si H
  first | refine out0n F rfl ?_ | refine inbN (out0n F rfl ?_) | refine inbN (inbN (out0n F rfl ?_)) | refine inbN (inbN (inbN (out0n F rfl ?_)))
  exact ⟨cf (ct m) c381, rfl, E.lv B0, cfb, (by rw [qe367]; exact ME.rc h385 cfk cfk cfk (by omega))⟩
 obtain ⟨ob94, e95, H⟩ := bind_some H; have z96 := h3; rw [e95] at z96; obtain ⟨ad97, cs99, cs101, rfl, hat98, h100, h102⟩ := ME.some z96
 as_aux_lemma =>
 replace H := ifN H; obtain ⟨g104, H⟩ := H; obtain ⟨c105, e106, e107, A108, C109, h110, h111, h102⟩ := ARO.lend (off := 513) (z := m + 3) (AT.eqv (ds := (([.int .i64 ob94.bits] : List Value) ++ (cs99 ++ (([] : List Value)))) ++ (cs101 ++ (([.int .i64 ob94.many] : List Value)))) hat98 (by simp only [List.append_assoc])) (by have l0_ : cs99.length = 512 := (h100.1 : cs99.length = 512); simp only [List.length_append, List.length_cons, List.length_nil] <;> omega) h102 t25.1 g104.1 (by have g_ := g104.2; omega) ⟨(ne_mp bj5.2.1), (pl hm0)⟩; obtain ⟨qa112, qqa112⟩ : ∃ q, q = (ad97.add (513 + t25.1.toNat * 1)) := ⟨_, rfl⟩; have h110 : AT true j4 c27 w28 qa112 [.slice A108 (rd ob94.rows t25.1).length C109] := by rw [qqa112]; exact h110
 replace h9 := SL.rc (c' := c105) (j' := 0) (i' := 0) h9 (fun k_ hk_ => (e106 k_ (by rw [hk_]; exact (ne_z bj5.1))).trans hk_) (fun k_ hk_ => (e106 k_ (by rw [hk_]; exact (ne_z bj5.1))).trans hk_); replace h12 := SL.rc (c' := c105) (j' := 0) (i' := 0) h12 (fun k_ hk_ => (e106 k_ (by rw [hk_]; exact (ne_z bj5.1))).trans hk_) (fun k_ hk_ => (e106 k_ (by rw [hk_]; exact (ne_z bj5.1))).trans hk_); replace h18 := AT.rc (c' := c105) (j' := m + 1) h18 (fun k_ hk_ => (e106 k_ (by rw [hk_]; exact (ne_mp bj5.2.1))).trans hk_); replace h100 := AR.rc (c' := c105) (i' := 0) h100 (fun k_ hk_ => (e106 k_ (by rw [hk_]; exact (ne_z bj5.1))).trans hk_); replace hat98 := AT.rc (c' := c105) (j' := j4) hat98 (fun k_ hk_ => (e106 k_ (by rw [hk_]; exact (Ne.symm bj5.2.2))).trans hk_); replace h110 := AT.rc (c' := c105) (j' := j4) h110 (fun k_ hk_ => (e106 k_ (by rw [hk_]; exact (Ne.symm bj5.2.2))).trans hk_); have EL113 := E; have E : Ev (fun x => (x = j4 ∨ x = j5) ∨ m ≤ x) c105 w28 c105 w28 := Ev.refl; replace B : CB (m + 5) c105 w28 := B.recol (fun b_ => (e107 b_).imp id (fun q_ => by rw [q_]; exact lm)); refine regD (SB (fun x => x = m + 3) c105 w28) 16 (.q 0 (.q 1 (.q 2 (.q 3 (.q 4 (.q 5 (.q 6 (.q 7 (.q 8 (.q 9 (.f 10 (.f 11 (.f 12 (.e 13 (.e 14 (.q 15 (.e 16 .nil)))) 13 (.f 12 (.e 14 (.q 15 (.e 16 .nil))) 14 (.e 12 (.q 15 (.e 16 .nil))))) 13 (.f 11 (.f 12 (.e 14 (.q 15 (.e 16 .nil))) 14 (.e 12 (.q 15 (.e 16 .nil)))) 14 (.e 11 (.e 12 (.q 15 (.e 16 .nil)))))) 13 (.f 10 (.f 11 (.f 12 (.e 14 (.q 15 (.e 16 .nil))) 14 (.e 12 (.q 15 (.e 16 .nil)))) 14 (.e 11 (.e 12 (.q 15 (.e 16 .nil))))) 14 (.e 10 (.e 11 (.e 12 (.q 15 (.e 16 .nil))))))))))))))))) Try_hm (by decide +kernel) ?_; intro w115 w1_ w2_ w3_ w4_; have E116 : Ev No c105 w28 c105 w115 := Ev.same w1_ w2_ w3_ w4_; replace B := B.same w1_; have zh18 := h18; have zh110 := h110; have ER : Ev (fun x => x = m + 3) c105 w28 c105 w115 := Ev.same w1_ w2_ w3_ w4_; replace h9 := h9.ev E116
 as_aux_lemma =>
 replace h12 := h12.ev E116; replace h100 := h100.ev E116; replace h102 := h102.ev E116; replace hat98 := hat98.ev E116; replace h110 := h110.ev E116; replace h111 := h111.ev E116; replace E := E.n E116; refine dm F ER.sb fun a F => ?_; refine dm F ER.sb fun a F => ?_; refine dm F ER.sb fun a F => ?_; refine dm F ER.sb fun a F => ?_; refine di F ER.sb fun a F => ?_; refine df F ff_75_2 ER.sb fun a F => ?_; refine dq F (fun wq hS => r_indexArr3 F ua_73 sz_27 rfl rfl g104.1 (by have g_ := g104.2; omega) hat98 qqa112) ER.sb fun a F => ?_; refine dq F (fun wq hS => r_load F rfl ag_27 (AT.cell0 (AT.sb zh110 hS (ne_pm bj4.2)) rfl)) ER.sb fun a F => ?_; refine dm F ER.sb fun a F => ?_; refine dq F (fun wq hS => r_loads (cs := [.slice A7 a6.Key.length C8, .slice A10 a6.Value.length C11, .int .i64 a6.Rev]) F rfl ag_36 sz_36 (AT.sb zh18 hS mm)) ER.sb fun a F => ?_; refine d_f ?_ ?_
 ·obtain ⟨t117, q118, H⟩ := bind_some H; refine oc F Try.func41 (merkle_own.calls (m := m + 5) (pl hm0) B h9 h12 _ q118) ?_; rintro e w120 ⟨c119, A123, C124, A126, C127, rfl, E121, B, h125, h128⟩; refine rt fun a F => ?_; replace ER := ER.trans E121 nx
  as_aux_lemma =>
  replace h100 := h100.ev E121; replace h102 := h102.ev E121; replace hat98 := hat98.ev E121; replace h110 := h110.ev E121; replace h111 := h111.ev E121; replace E := E.n E121; refine ⟨fun _ => ER.sb, ?_⟩; refine d_f ?_ ?_
  ·refine o_eff F rfl rfl rfl (by decide) (e_buildSliceF (n := 1) (e := 36) (c := c119) (k := K_api_Row) (i := 0) F [(0, .agg #[.slice A123 t117.Key.length C124, .slice A126 t117.Value.length C127, .int .i64 t117.Rev])] [.slice A123 t117.Key.length C124, .slice A126 t117.Value.length C127, .int .i64 t117.Rev] ([t117] : List api_Row) (by exact ⟨rfl, rfl, trivial⟩) (fun w => by kernel_rfl) rfl (by decide) rfl ⟨⟨A123, C124, A126, C127, rfl, (SL.fl h125 (fun q => q)), (SL.fl h128 (fun q => q))⟩, trivial⟩ (fun q => q) (m + 4)) ?_; rintro v w132 a ⟨c131, A133, C134, rfl, E135, h136, B137, hf130⟩ F; replace B := B137 _ B lm; replace ER := ER.trans E135 nx; replace h100 := h100.ev E135; replace h102 := h102.ev E135; replace hat98 := hat98.ev E135; replace h110 := h110.ev E135; replace h111 := h111.ev E135; replace E := E.n E135; refine ⟨fun _ => ER.sb, ?_⟩; refine d_f ?_ ?_
   ·obtain ⟨t138, q139, H⟩ := bind_some H; refine oc F Try.func56 (slices_Insert.calls (m := m + 5) (pl hm0) B h111 h136.r hf130 (by omega) (by omega) _ q139) ?_; rintro e w141 ⟨c140, A144, C145, rfl, E142, B, h146⟩; refine rt fun a F => ?_
    as_aux_lemma =>
    replace ER := ER.trans E142 (fun x q => by replace q : x = m + 3 := q; show x = m + 3; omega); replace h100 := h100.ev E142; replace h102 := h102.ev E142 (ne_pm bj5.2.1) ne_zm; replace hat98 := hat98.ev E142 (ne_pm bj4.2); replace h110 := h110.ev E142 (ne_pm bj4.2); replace E := E.trans E142 lc1; refine ⟨fun _ => ER.sb, ?_⟩; refine d_e ?_; refine o_val F rfl rfl rfl (by decide) (r_nil F rfl) fun a F => ?_; refine ⟨fun _ => ER.sb, ?_⟩; refine d_e ?_; refine o_val F rfl rfl rfl (by decide) (r_fieldAddr F rfl ff_75_2) fun a F => ?_; refine ⟨fun _ => ER.sb, ?_⟩; refine dq F (fun wq hS => r_indexArr3 F ua_73 sz_27 rfl rfl g104.1 (by have g_ := g104.2; omega) hat98 qqa112) ER.sb fun a F => ?_; refine d_e ?_; refine o_eff0 F rfl rfl rfl (e_storearH F rfl rfl sz_27 (AT.eqv (ds := (([.int .i64 ob94.bits] : List Value) ++ (cs99 ++ (([] : List Value)))) ++ (cs101 ++ (([.int .i64 ob94.many] : List Value)))) hat98 (by simp only [List.append_assoc])) (by have l0_ : cs99.length = 512 := (h100.1 : cs99.length = 512); simp only [List.length_append, List.length_cons, List.length_nil] <;> omega) h102 (m := t25.1.toNat) (by have g_ := g104; omega) qqa112 rfl bj5.2.2 bj4.1) ?_; rintro w148 a ⟨cs151, E149, hat98, h102, h110, Z150⟩ F; replace B := B.size Z150; replace h100 := h100.ev E149 (ne_z bj4.1); replace h146 := h146.ev E149 (ne_mp bj4.2) (ne_z bj4.1); replace E := E.trans E149 (fun x (q : x = j4) => Or.inl (Or.inl q)); replace hat98 : AT true j4 c140 w148 ad97 (([.int .i64 ob94.bits] : List Value) ++ (cs99 ++ (([] : List Value) ++ (cs151 ++ (([.int .i64 ob94.many] : List Value)))))) := AT.eqv hat98 (by simp only [List.append_assoc])
    as_aux_lemma =>
    refine ⟨fun q => absurd rfl q, ?_⟩; refine d_nil ?_; obtain ⟨c152, e153, e154, e155, h102⟩ := ARO.back3 (off := 513) (z := m + 3) (k := t25.1) (AT.eqv (ds := (([.int .i64 ob94.bits] : List Value) ++ (cs99 ++ (([] : List Value)))) ++ (cs151 ++ (([.int .i64 ob94.many] : List Value)))) hat98 (by simp only [List.append_assoc])) (by have l0_ : cs99.length = 512 := (h100.1 : cs99.length = 512); simp only [List.length_append, List.length_cons, List.length_nil] <;> omega) h102 g104.1 (by have g_ := g104.2; omega) (by rw [← qqa112]; exact h110) h146 ⟨(ne_mp bj5.2.1), (pl hm0)⟩ bj5.1; replace h100 := AR.rc (c' := c152) (i' := 0) h100 (fun k_ hk_ => (e153 k_ (by rw [hk_]; exact ne_zm)).trans hk_); replace hat98 := AT.rc (c' := c152) (j' := j4) hat98 (fun k_ hk_ => (e153 k_ (by rw [hk_]; exact (ne_pm bj4.2))).trans hk_); replace E : Ev (fun x => (x = j4 ∨ x = j5) ∨ m ≤ x) c0 w0 c152 w148 := Ev.lent EL113 B0 (by show (j5 = j4 ∨ j5 = j5); omega) (by omega) e106 e107 E e153 e155 (by omega); replace B : CB (m + 5) c152 w148 := B.recol (fun b_ => (e154 b_).imp id (fun q_ => by rw [q_]; exact (Nat.lt_add_right _ bj5.2.1))); exact J364 c152 w148 a ad97 ob94 cs99 t138 cs151 rfl (F.sub ⟨rfl, rfl, trivial⟩) E B hat98 h100 h102 H
   obtain ⟨t138, q139, H⟩ := bind_some H; refine o_val F rfl rfl rfl (by decide) (r_nil F rfl) fun a F => ?_; refine ⟨fun _ => ER.sb, ?_⟩; refine d_f ?_ ?_
   ·refine oc F Try.func56 (slices_Insert.calls (m := m + 5) (pl hm0) B h111 h136.r hf130 (by omega) (by omega) _ q139) ?_; rintro e w157 ⟨c156, A160, C161, rfl, E158, B, h162⟩; refine rt fun a F => ?_; replace ER := ER.trans E158 (fun x q => by replace q : x = m + 3 := q; show x = m + 3; omega); replace h100 := h100.ev E158; replace h102 := h102.ev E158 (ne_pm bj5.2.1) ne_zm; replace hat98 := hat98.ev E158 (ne_pm bj4.2); replace h110 := h110.ev E158 (ne_pm bj4.2); replace E := E.trans E158 lc1; refine ⟨fun _ => ER.sb, ?_⟩; refine d_e ?_
    as_aux_lemma =>
    refine o_val F rfl rfl rfl (by decide) (r_fieldAddr F rfl ff_75_2) fun a F => ?_; refine ⟨fun _ => ER.sb, ?_⟩; refine dq F (fun wq hS => r_indexArr3 F ua_73 sz_27 rfl rfl g104.1 (by have g_ := g104.2; omega) hat98 qqa112) ER.sb fun a F => ?_; refine d_e ?_; refine o_eff0 F rfl rfl rfl (e_storearH F rfl rfl sz_27 (AT.eqv (ds := (([.int .i64 ob94.bits] : List Value) ++ (cs99 ++ (([] : List Value)))) ++ (cs101 ++ (([.int .i64 ob94.many] : List Value)))) hat98 (by simp only [List.append_assoc])) (by have l0_ : cs99.length = 512 := (h100.1 : cs99.length = 512); simp only [List.length_append, List.length_cons, List.length_nil] <;> omega) h102 (m := t25.1.toNat) (by have g_ := g104; omega) qqa112 rfl bj5.2.2 bj4.1) ?_; rintro w164 a ⟨cs167, E165, hat98, h102, h110, Z166⟩ F; replace B := B.size Z166; replace h100 := h100.ev E165 (ne_z bj4.1); replace h162 := h162.ev E165 (ne_mp bj4.2) (ne_z bj4.1); replace E := E.trans E165 (fun x (q : x = j4) => Or.inl (Or.inl q)); replace hat98 : AT true j4 c156 w164 ad97 (([.int .i64 ob94.bits] : List Value) ++ (cs99 ++ (([] : List Value) ++ (cs167 ++ (([.int .i64 ob94.many] : List Value)))))) := AT.eqv hat98 (by simp only [List.append_assoc]); refine ⟨fun q => absurd rfl q, ?_⟩; refine d_nil ?_; obtain ⟨c168, e169, e170, e171, h102⟩ := ARO.back3 (off := 513) (z := m + 3) (k := t25.1) (AT.eqv (ds := (([.int .i64 ob94.bits] : List Value) ++ (cs99 ++ (([] : List Value)))) ++ (cs167 ++ (([.int .i64 ob94.many] : List Value)))) hat98 (by simp only [List.append_assoc])) (by have l0_ : cs99.length = 512 := (h100.1 : cs99.length = 512); simp only [List.length_append, List.length_cons, List.length_nil] <;> omega) h102 g104.1 (by have g_ := g104.2; omega) (by rw [← qqa112]; exact h110) h162 ⟨(ne_mp bj5.2.1), (pl hm0)⟩ bj5.1; replace h100 := AR.rc (c' := c168) (i' := 0) h100 (fun k_ hk_ => (e169 k_ (by rw [hk_]; exact ne_zm)).trans hk_); replace hat98 := AT.rc (c' := c168) (j' := j4) hat98 (fun k_ hk_ => (e169 k_ (by rw [hk_]; exact (ne_pm bj4.2))).trans hk_); replace E : Ev (fun x => (x = j4 ∨ x = j5) ∨ m ≤ x) c0 w0 c168 w164 := Ev.lent EL113 B0 (by show (j5 = j4 ∨ j5 = j5); omega) (by omega) e106 e107 E e169 e171 (by omega); replace B : CB (m + 5) c168 w164 := B.recol (fun b_ => (e170 b_).imp id (fun q_ => by rw [q_]; exact (Nat.lt_add_right _ bj5.2.1))); exact J364 c168 w164 a ad97 ob94 cs99 t138 cs167 rfl (F.sub ⟨rfl, rfl, trivial⟩) E B hat98 h100 h102 H
   refine o_val F rfl rfl rfl (by decide) (r_fieldAddr F rfl ff_75_2) fun a F => ?_; refine ⟨fun _ => ER.sb, ?_⟩; refine d_e ?_
   as_aux_lemma =>
   refine oc F Try.func56 (slices_Insert.calls (m := m + 5) (pl hm0) B h111 h136.r hf130 (by omega) (by omega) _ q139) ?_; rintro e w173 ⟨c172, A176, C177, rfl, E174, B, h178⟩; refine rt fun a F => ?_; replace ER := ER.trans E174 (fun x q => by replace q : x = m + 3 := q; show x = m + 3; omega); replace h100 := h100.ev E174; replace h102 := h102.ev E174 (ne_pm bj5.2.1) ne_zm; replace hat98 := hat98.ev E174 (ne_pm bj4.2); replace h110 := h110.ev E174 (ne_pm bj4.2); replace E := E.trans E174 lc1; refine ⟨fun _ => ER.sb, ?_⟩; refine dq F (fun wq hS => r_indexArr3 F ua_73 sz_27 rfl rfl g104.1 (by have g_ := g104.2; omega) hat98 qqa112) ER.sb fun a F => ?_; refine d_e ?_; refine o_eff0 F rfl rfl rfl (e_storearH F rfl rfl sz_27 (AT.eqv (ds := (([.int .i64 ob94.bits] : List Value) ++ (cs99 ++ (([] : List Value)))) ++ (cs101 ++ (([.int .i64 ob94.many] : List Value)))) hat98 (by simp only [List.append_assoc])) (by have l0_ : cs99.length = 512 := (h100.1 : cs99.length = 512); simp only [List.length_append, List.length_cons, List.length_nil] <;> omega) h102 (m := t25.1.toNat) (by have g_ := g104; omega) qqa112 rfl bj5.2.2 bj4.1) ?_; rintro w180 a ⟨cs183, E181, hat98, h102, h110, Z182⟩ F; replace B := B.size Z182; replace h100 := h100.ev E181 (ne_z bj4.1); replace h178 := h178.ev E181 (ne_mp bj4.2) (ne_z bj4.1); replace E := E.trans E181 (fun x (q : x = j4) => Or.inl (Or.inl q)); replace hat98 : AT true j4 c172 w180 ad97 (([.int .i64 ob94.bits] : List Value) ++ (cs99 ++ (([] : List Value) ++ (cs183 ++ (([.int .i64 ob94.many] : List Value)))))) := AT.eqv hat98 (by simp only [List.append_assoc]); refine ⟨fun q => absurd rfl q, ?_⟩; refine d_nil ?_; obtain ⟨c184, e185, e186, e187, h102⟩ := ARO.back3 (off := 513) (z := m + 3) (k := t25.1) (AT.eqv (ds := (([.int .i64 ob94.bits] : List Value) ++ (cs99 ++ (([] : List Value)))) ++ (cs183 ++ (([.int .i64 ob94.many] : List Value)))) hat98 (by simp only [List.append_assoc])) (by have l0_ : cs99.length = 512 := (h100.1 : cs99.length = 512); simp only [List.length_append, List.length_cons, List.length_nil] <;> omega) h102 g104.1 (by have g_ := g104.2; omega) (by rw [← qqa112]; exact h110) h178 ⟨(ne_mp bj5.2.1), (pl hm0)⟩ bj5.1
   as_aux_lemma =>
   replace h100 := AR.rc (c' := c184) (i' := 0) h100 (fun k_ hk_ => (e185 k_ (by rw [hk_]; exact ne_zm)).trans hk_); replace hat98 := AT.rc (c' := c184) (j' := j4) hat98 (fun k_ hk_ => (e185 k_ (by rw [hk_]; exact (ne_pm bj4.2))).trans hk_); replace E : Ev (fun x => (x = j4 ∨ x = j5) ∨ m ≤ x) c0 w0 c184 w180 := Ev.lent EL113 B0 (by show (j5 = j4 ∨ j5 = j5); omega) (by omega) e106 e107 E e185 e187 (by omega); replace B : CB (m + 5) c184 w180 := B.recol (fun b_ => (e186 b_).imp id (fun q_ => by rw [q_]; exact (Nat.lt_add_right _ bj5.2.1))); exact J364 c184 w180 a ad97 ob94 cs99 t138 cs183 rfl (F.sub ⟨rfl, rfl, trivial⟩) E B hat98 h100 h102 H
  refine o_val F rfl rfl rfl (by decide) (r_nil F rfl) fun a F => ?_; refine ⟨fun _ => ER.sb, ?_⟩; refine d_f ?_ ?_
  ·refine o_eff F rfl rfl rfl (by decide) (e_buildSliceF (n := 1) (e := 36) (c := c119) (k := K_api_Row) (i := 0) F [(0, .agg #[.slice A123 t117.Key.length C124, .slice A126 t117.Value.length C127, .int .i64 t117.Rev])] [.slice A123 t117.Key.length C124, .slice A126 t117.Value.length C127, .int .i64 t117.Rev] ([t117] : List api_Row) (by exact ⟨rfl, rfl, trivial⟩) (fun w => by kernel_rfl) rfl (by decide) rfl ⟨⟨A123, C124, A126, C127, rfl, (SL.fl h125 (fun q => q)), (SL.fl h128 (fun q => q))⟩, trivial⟩ (fun q => q) (m + 4)) ?_; rintro v w190 a ⟨c189, A191, C192, rfl, E193, h194, B195, hf188⟩ F; replace B := B195 _ B lm; replace ER := ER.trans E193 nx; replace h100 := h100.ev E193; replace h102 := h102.ev E193; replace hat98 := hat98.ev E193; replace h110 := h110.ev E193; replace h111 := h111.ev E193; replace E := E.n E193; refine ⟨fun _ => ER.sb, ?_⟩; refine d_f ?_ ?_
   ·obtain ⟨t138, q139, H⟩ := bind_some H; refine oc F Try.func56 (slices_Insert.calls (m := m + 5) (pl hm0) B h111 h194.r hf188 (by omega) (by omega) _ q139) ?_; rintro e w197 ⟨c196, A200, C201, rfl, E198, B, h202⟩; refine rt fun a F => ?_
    as_aux_lemma =>
    replace ER := ER.trans E198 (fun x q => by replace q : x = m + 3 := q; show x = m + 3; omega); replace h100 := h100.ev E198; replace h102 := h102.ev E198 (ne_pm bj5.2.1) ne_zm; replace hat98 := hat98.ev E198 (ne_pm bj4.2); replace h110 := h110.ev E198 (ne_pm bj4.2); replace E := E.trans E198 lc1; refine ⟨fun _ => ER.sb, ?_⟩; refine d_e ?_; refine o_val F rfl rfl rfl (by decide) (r_fieldAddr F rfl ff_75_2) fun a F => ?_; refine ⟨fun _ => ER.sb, ?_⟩; refine dq F (fun wq hS => r_indexArr3 F ua_73 sz_27 rfl rfl g104.1 (by have g_ := g104.2; omega) hat98 qqa112) ER.sb fun a F => ?_; refine d_e ?_; refine o_eff0 F rfl rfl rfl (e_storearH F rfl rfl sz_27 (AT.eqv (ds := (([.int .i64 ob94.bits] : List Value) ++ (cs99 ++ (([] : List Value)))) ++ (cs101 ++ (([.int .i64 ob94.many] : List Value)))) hat98 (by simp only [List.append_assoc])) (by have l0_ : cs99.length = 512 := (h100.1 : cs99.length = 512); simp only [List.length_append, List.length_cons, List.length_nil] <;> omega) h102 (m := t25.1.toNat) (by have g_ := g104; omega) qqa112 rfl bj5.2.2 bj4.1) ?_; rintro w204 a ⟨cs207, E205, hat98, h102, h110, Z206⟩ F; replace B := B.size Z206; replace h100 := h100.ev E205 (ne_z bj4.1); replace h202 := h202.ev E205 (ne_mp bj4.2) (ne_z bj4.1); replace E := E.trans E205 (fun x (q : x = j4) => Or.inl (Or.inl q)); replace hat98 : AT true j4 c196 w204 ad97 (([.int .i64 ob94.bits] : List Value) ++ (cs99 ++ (([] : List Value) ++ (cs207 ++ (([.int .i64 ob94.many] : List Value)))))) := AT.eqv hat98 (by simp only [List.append_assoc]); refine ⟨fun q => absurd rfl q, ?_⟩; refine d_nil ?_; obtain ⟨c208, e209, e210, e211, h102⟩ := ARO.back3 (off := 513) (z := m + 3) (k := t25.1) (AT.eqv (ds := (([.int .i64 ob94.bits] : List Value) ++ (cs99 ++ (([] : List Value)))) ++ (cs207 ++ (([.int .i64 ob94.many] : List Value)))) hat98 (by simp only [List.append_assoc])) (by have l0_ : cs99.length = 512 := (h100.1 : cs99.length = 512); simp only [List.length_append, List.length_cons, List.length_nil] <;> omega) h102 g104.1 (by have g_ := g104.2; omega) (by rw [← qqa112]; exact h110) h202 ⟨(ne_mp bj5.2.1), (pl hm0)⟩ bj5.1
    as_aux_lemma =>
    replace h100 := AR.rc (c' := c208) (i' := 0) h100 (fun k_ hk_ => (e209 k_ (by rw [hk_]; exact ne_zm)).trans hk_); replace hat98 := AT.rc (c' := c208) (j' := j4) hat98 (fun k_ hk_ => (e209 k_ (by rw [hk_]; exact (ne_pm bj4.2))).trans hk_); replace E : Ev (fun x => (x = j4 ∨ x = j5) ∨ m ≤ x) c0 w0 c208 w204 := Ev.lent EL113 B0 (by show (j5 = j4 ∨ j5 = j5); omega) (by omega) e106 e107 E e209 e211 (by omega); replace B : CB (m + 5) c208 w204 := B.recol (fun b_ => (e210 b_).imp id (fun q_ => by rw [q_]; exact (Nat.lt_add_right _ bj5.2.1))); exact J364 c208 w204 a ad97 ob94 cs99 t138 cs207 rfl (F.sub ⟨rfl, rfl, trivial⟩) E B hat98 h100 h102 H
   obtain ⟨t138, q139, H⟩ := bind_some H; refine o_val F rfl rfl rfl (by decide) (r_fieldAddr F rfl ff_75_2) fun a F => ?_; refine ⟨fun _ => ER.sb, ?_⟩; refine d_e ?_; refine oc F Try.func56 (slices_Insert.calls (m := m + 5) (pl hm0) B h111 h194.r hf188 (by omega) (by omega) _ q139) ?_; rintro e w213 ⟨c212, A216, C217, rfl, E214, B, h218⟩; refine rt fun a F => ?_; replace ER := ER.trans E214 (fun x q => by replace q : x = m + 3 := q; show x = m + 3; omega); replace h100 := h100.ev E214; replace h102 := h102.ev E214 (ne_pm bj5.2.1) ne_zm; replace hat98 := hat98.ev E214 (ne_pm bj4.2); replace h110 := h110.ev E214 (ne_pm bj4.2); replace E := E.trans E214 lc1; refine ⟨fun _ => ER.sb, ?_⟩; refine dq F (fun wq hS => r_indexArr3 F ua_73 sz_27 rfl rfl g104.1 (by have g_ := g104.2; omega) hat98 qqa112) ER.sb fun a F => ?_; refine d_e ?_; refine o_eff0 F rfl rfl rfl (e_storearH F rfl rfl sz_27 (AT.eqv (ds := (([.int .i64 ob94.bits] : List Value) ++ (cs99 ++ (([] : List Value)))) ++ (cs101 ++ (([.int .i64 ob94.many] : List Value)))) hat98 (by simp only [List.append_assoc])) (by have l0_ : cs99.length = 512 := (h100.1 : cs99.length = 512); simp only [List.length_append, List.length_cons, List.length_nil] <;> omega) h102 (m := t25.1.toNat) (by have g_ := g104; omega) qqa112 rfl bj5.2.2 bj4.1) ?_; rintro w220 a ⟨cs223, E221, hat98, h102, h110, Z222⟩ F
   as_aux_lemma =>
   replace B := B.size Z222; replace h100 := h100.ev E221 (ne_z bj4.1); replace h218 := h218.ev E221 (ne_mp bj4.2) (ne_z bj4.1); replace E := E.trans E221 (fun x (q : x = j4) => Or.inl (Or.inl q)); replace hat98 : AT true j4 c212 w220 ad97 (([.int .i64 ob94.bits] : List Value) ++ (cs99 ++ (([] : List Value) ++ (cs223 ++ (([.int .i64 ob94.many] : List Value)))))) := AT.eqv hat98 (by simp only [List.append_assoc]); refine ⟨fun q => absurd rfl q, ?_⟩; refine d_nil ?_; obtain ⟨c224, e225, e226, e227, h102⟩ := ARO.back3 (off := 513) (z := m + 3) (k := t25.1) (AT.eqv (ds := (([.int .i64 ob94.bits] : List Value) ++ (cs99 ++ (([] : List Value)))) ++ (cs223 ++ (([.int .i64 ob94.many] : List Value)))) hat98 (by simp only [List.append_assoc])) (by have l0_ : cs99.length = 512 := (h100.1 : cs99.length = 512); simp only [List.length_append, List.length_cons, List.length_nil] <;> omega) h102 g104.1 (by have g_ := g104.2; omega) (by rw [← qqa112]; exact h110) h218 ⟨(ne_mp bj5.2.1), (pl hm0)⟩ bj5.1; replace h100 := AR.rc (c' := c224) (i' := 0) h100 (fun k_ hk_ => (e225 k_ (by rw [hk_]; exact ne_zm)).trans hk_); replace hat98 := AT.rc (c' := c224) (j' := j4) hat98 (fun k_ hk_ => (e225 k_ (by rw [hk_]; exact (ne_pm bj4.2))).trans hk_); replace E : Ev (fun x => (x = j4 ∨ x = j5) ∨ m ≤ x) c0 w0 c224 w220 := Ev.lent EL113 B0 (by show (j5 = j4 ∨ j5 = j5); omega) (by omega) e106 e107 E e225 e227 (by omega); replace B : CB (m + 5) c224 w220 := B.recol (fun b_ => (e226 b_).imp id (fun q_ => by rw [q_]; exact (Nat.lt_add_right _ bj5.2.1))); exact J364 c224 w220 a ad97 ob94 cs99 t138 cs223 rfl (F.sub ⟨rfl, rfl, trivial⟩) E B hat98 h100 h102 H
  refine o_val F rfl rfl rfl (by decide) (r_fieldAddr F rfl ff_75_2) fun a F => ?_; refine ⟨fun _ => ER.sb, ?_⟩; refine d_e ?_; refine o_eff F rfl rfl rfl (by decide) (e_buildSliceF (n := 1) (e := 36) (c := c119) (k := K_api_Row) (i := 0) F [(0, .agg #[.slice A123 t117.Key.length C124, .slice A126 t117.Value.length C127, .int .i64 t117.Rev])] [.slice A123 t117.Key.length C124, .slice A126 t117.Value.length C127, .int .i64 t117.Rev] ([t117] : List api_Row) (by exact ⟨rfl, rfl, trivial⟩) (fun w => by kernel_rfl) rfl (by decide) rfl ⟨⟨A123, C124, A126, C127, rfl, (SL.fl h125 (fun q => q)), (SL.fl h128 (fun q => q))⟩, trivial⟩ (fun q => q) (m + 4)) ?_; rintro v w230 a ⟨c229, A231, C232, rfl, E233, h234, B235, hf228⟩ F; replace B := B235 _ B lm; replace ER := ER.trans E233 nx; replace h100 := h100.ev E233; replace h102 := h102.ev E233
  as_aux_lemma =>
  replace hat98 := hat98.ev E233; replace h110 := h110.ev E233; replace h111 := h111.ev E233; replace E := E.n E233; refine ⟨fun _ => ER.sb, ?_⟩; refine d_e ?_; obtain ⟨t138, q139, H⟩ := bind_some H; refine oc F Try.func56 (slices_Insert.calls (m := m + 5) (pl hm0) B h111 h234.r hf228 (by omega) (by omega) _ q139) ?_; rintro e w237 ⟨c236, A240, C241, rfl, E238, B, h242⟩; refine rt fun a F => ?_; replace ER := ER.trans E238 (fun x q => by replace q : x = m + 3 := q; show x = m + 3; omega); replace h100 := h100.ev E238; replace h102 := h102.ev E238 (ne_pm bj5.2.1) ne_zm; replace hat98 := hat98.ev E238 (ne_pm bj4.2); replace h110 := h110.ev E238 (ne_pm bj4.2); replace E := E.trans E238 lc1; refine ⟨fun _ => ER.sb, ?_⟩; refine dq F (fun wq hS => r_indexArr3 F ua_73 sz_27 rfl rfl g104.1 (by have g_ := g104.2; omega) hat98 qqa112) ER.sb fun a F => ?_; refine d_e ?_; refine o_eff0 F rfl rfl rfl (e_storearH F rfl rfl sz_27 (AT.eqv (ds := (([.int .i64 ob94.bits] : List Value) ++ (cs99 ++ (([] : List Value)))) ++ (cs101 ++ (([.int .i64 ob94.many] : List Value)))) hat98 (by simp only [List.append_assoc])) (by have l0_ : cs99.length = 512 := (h100.1 : cs99.length = 512); simp only [List.length_append, List.length_cons, List.length_nil] <;> omega) h102 (m := t25.1.toNat) (by have g_ := g104; omega) qqa112 rfl bj5.2.2 bj4.1) ?_; rintro w244 a ⟨cs247, E245, hat98, h102, h110, Z246⟩ F; replace B := B.size Z246
  as_aux_lemma =>
  replace h100 := h100.ev E245 (ne_z bj4.1); replace h242 := h242.ev E245 (ne_mp bj4.2) (ne_z bj4.1); replace E := E.trans E245 (fun x (q : x = j4) => Or.inl (Or.inl q)); replace hat98 : AT true j4 c236 w244 ad97 (([.int .i64 ob94.bits] : List Value) ++ (cs99 ++ (([] : List Value) ++ (cs247 ++ (([.int .i64 ob94.many] : List Value)))))) := AT.eqv hat98 (by simp only [List.append_assoc]); refine ⟨fun q => absurd rfl q, ?_⟩; refine d_nil ?_; obtain ⟨c248, e249, e250, e251, h102⟩ := ARO.back3 (off := 513) (z := m + 3) (k := t25.1) (AT.eqv (ds := (([.int .i64 ob94.bits] : List Value) ++ (cs99 ++ (([] : List Value)))) ++ (cs247 ++ (([.int .i64 ob94.many] : List Value)))) hat98 (by simp only [List.append_assoc])) (by have l0_ : cs99.length = 512 := (h100.1 : cs99.length = 512); simp only [List.length_append, List.length_cons, List.length_nil] <;> omega) h102 g104.1 (by have g_ := g104.2; omega) (by rw [← qqa112]; exact h110) h242 ⟨(ne_mp bj5.2.1), (pl hm0)⟩ bj5.1; replace h100 := AR.rc (c' := c248) (i' := 0) h100 (fun k_ hk_ => (e249 k_ (by rw [hk_]; exact ne_zm)).trans hk_); replace hat98 := AT.rc (c' := c248) (j' := j4) hat98 (fun k_ hk_ => (e249 k_ (by rw [hk_]; exact (ne_pm bj4.2))).trans hk_); replace E : Ev (fun x => (x = j4 ∨ x = j5) ∨ m ≤ x) c0 w0 c248 w244 := Ev.lent EL113 B0 (by show (j5 = j4 ∨ j5 = j5); omega) (by omega) e106 e107 E e249 e251 (by omega); replace B : CB (m + 5) c248 w244 := B.recol (fun b_ => (e250 b_).imp id (fun q_ => by rw [q_]; exact (Nat.lt_add_right _ bj5.2.1))); exact J364 c248 w244 a ad97 ob94 cs99 t138 cs247 rfl (F.sub ⟨rfl, rfl, trivial⟩) E B hat98 h100 h102 H
 refine o_val F rfl rfl rfl (by decide) (r_nil F rfl) fun a F => ?_; refine ⟨fun _ => ER.sb, ?_⟩; refine d_f ?_ ?_
 ·obtain ⟨t117, q118, H⟩ := bind_some H; refine oc F Try.func41 (merkle_own.calls (m := m + 5) (pl hm0) B h9 h12 _ q118) ?_; rintro e w253 ⟨c252, A256, C257, A259, C260, rfl, E254, B, h258, h261⟩; refine rt fun a F => ?_; replace ER := ER.trans E254 nx; replace h100 := h100.ev E254; replace h102 := h102.ev E254; replace hat98 := hat98.ev E254
  as_aux_lemma =>
  replace h110 := h110.ev E254; replace h111 := h111.ev E254; replace E := E.n E254; refine ⟨fun _ => ER.sb, ?_⟩; refine d_f ?_ ?_
  ·refine o_eff F rfl rfl rfl (by decide) (e_buildSliceF (n := 1) (e := 36) (c := c252) (k := K_api_Row) (i := 0) F [(0, .agg #[.slice A256 t117.Key.length C257, .slice A259 t117.Value.length C260, .int .i64 t117.Rev])] [.slice A256 t117.Key.length C257, .slice A259 t117.Value.length C260, .int .i64 t117.Rev] ([t117] : List api_Row) (by exact ⟨rfl, rfl, trivial⟩) (fun w => by kernel_rfl) rfl (by decide) rfl ⟨⟨A256, C257, A259, C260, rfl, (SL.fl h258 (fun q => q)), (SL.fl h261 (fun q => q))⟩, trivial⟩ (fun q => q) (m + 4)) ?_; rintro v w265 a ⟨c264, A266, C267, rfl, E268, h269, B270, hf263⟩ F; replace B := B270 _ B lm; replace ER := ER.trans E268 nx; replace h100 := h100.ev E268; replace h102 := h102.ev E268; replace hat98 := hat98.ev E268; replace h110 := h110.ev E268; replace h111 := h111.ev E268; replace E := E.n E268; refine ⟨fun _ => ER.sb, ?_⟩; refine d_f ?_ ?_
   ·obtain ⟨t138, q139, H⟩ := bind_some H; refine oc F Try.func56 (slices_Insert.calls (m := m + 5) (pl hm0) B h111 h269.r hf263 (by omega) (by omega) _ q139) ?_; rintro e w272 ⟨c271, A275, C276, rfl, E273, B, h277⟩; refine rt fun a F => ?_; replace ER := ER.trans E273 (fun x q => by replace q : x = m + 3 := q; show x = m + 3; omega); replace h100 := h100.ev E273; replace h102 := h102.ev E273 (ne_pm bj5.2.1) ne_zm
    as_aux_lemma =>
    replace hat98 := hat98.ev E273 (ne_pm bj4.2); replace h110 := h110.ev E273 (ne_pm bj4.2); replace E := E.trans E273 lc1; refine ⟨fun _ => ER.sb, ?_⟩; refine d_e ?_; refine o_val F rfl rfl rfl (by decide) (r_fieldAddr F rfl ff_75_2) fun a F => ?_; refine ⟨fun _ => ER.sb, ?_⟩; refine dq F (fun wq hS => r_indexArr3 F ua_73 sz_27 rfl rfl g104.1 (by have g_ := g104.2; omega) hat98 qqa112) ER.sb fun a F => ?_; refine d_e ?_; refine o_eff0 F rfl rfl rfl (e_storearH F rfl rfl sz_27 (AT.eqv (ds := (([.int .i64 ob94.bits] : List Value) ++ (cs99 ++ (([] : List Value)))) ++ (cs101 ++ (([.int .i64 ob94.many] : List Value)))) hat98 (by simp only [List.append_assoc])) (by have l0_ : cs99.length = 512 := (h100.1 : cs99.length = 512); simp only [List.length_append, List.length_cons, List.length_nil] <;> omega) h102 (m := t25.1.toNat) (by have g_ := g104; omega) qqa112 rfl bj5.2.2 bj4.1) ?_; rintro w279 a ⟨cs282, E280, hat98, h102, h110, Z281⟩ F; replace B := B.size Z281; replace h100 := h100.ev E280 (ne_z bj4.1); replace h277 := h277.ev E280 (ne_mp bj4.2) (ne_z bj4.1); replace E := E.trans E280 (fun x (q : x = j4) => Or.inl (Or.inl q)); replace hat98 : AT true j4 c271 w279 ad97 (([.int .i64 ob94.bits] : List Value) ++ (cs99 ++ (([] : List Value) ++ (cs282 ++ (([.int .i64 ob94.many] : List Value)))))) := AT.eqv hat98 (by simp only [List.append_assoc]); refine ⟨fun q => absurd rfl q, ?_⟩; refine d_nil ?_; obtain ⟨c283, e284, e285, e286, h102⟩ := ARO.back3 (off := 513) (z := m + 3) (k := t25.1) (AT.eqv (ds := (([.int .i64 ob94.bits] : List Value) ++ (cs99 ++ (([] : List Value)))) ++ (cs282 ++ (([.int .i64 ob94.many] : List Value)))) hat98 (by simp only [List.append_assoc])) (by have l0_ : cs99.length = 512 := (h100.1 : cs99.length = 512); simp only [List.length_append, List.length_cons, List.length_nil] <;> omega) h102 g104.1 (by have g_ := g104.2; omega) (by rw [← qqa112]; exact h110) h277 ⟨(ne_mp bj5.2.1), (pl hm0)⟩ bj5.1; replace h100 := AR.rc (c' := c283) (i' := 0) h100 (fun k_ hk_ => (e284 k_ (by rw [hk_]; exact ne_zm)).trans hk_); replace hat98 := AT.rc (c' := c283) (j' := j4) hat98 (fun k_ hk_ => (e284 k_ (by rw [hk_]; exact (ne_pm bj4.2))).trans hk_); replace E : Ev (fun x => (x = j4 ∨ x = j5) ∨ m ≤ x) c0 w0 c283 w279 := Ev.lent EL113 B0 (by show (j5 = j4 ∨ j5 = j5); omega) (by omega) e106 e107 E e284 e286 (by omega)
    as_aux_lemma =>
    replace B : CB (m + 5) c283 w279 := B.recol (fun b_ => (e285 b_).imp id (fun q_ => by rw [q_]; exact (Nat.lt_add_right _ bj5.2.1))); exact J364 c283 w279 a ad97 ob94 cs99 t138 cs282 rfl (F.sub ⟨rfl, rfl, trivial⟩) E B hat98 h100 h102 H
   obtain ⟨t138, q139, H⟩ := bind_some H; refine o_val F rfl rfl rfl (by decide) (r_fieldAddr F rfl ff_75_2) fun a F => ?_; refine ⟨fun _ => ER.sb, ?_⟩; refine d_e ?_; refine oc F Try.func56 (slices_Insert.calls (m := m + 5) (pl hm0) B h111 h269.r hf263 (by omega) (by omega) _ q139) ?_; rintro e w288 ⟨c287, A291, C292, rfl, E289, B, h293⟩; refine rt fun a F => ?_; replace ER := ER.trans E289 (fun x q => by replace q : x = m + 3 := q; show x = m + 3; omega); replace h100 := h100.ev E289; replace h102 := h102.ev E289 (ne_pm bj5.2.1) ne_zm; replace hat98 := hat98.ev E289 (ne_pm bj4.2); replace h110 := h110.ev E289 (ne_pm bj4.2); replace E := E.trans E289 lc1; refine ⟨fun _ => ER.sb, ?_⟩; refine dq F (fun wq hS => r_indexArr3 F ua_73 sz_27 rfl rfl g104.1 (by have g_ := g104.2; omega) hat98 qqa112) ER.sb fun a F => ?_; refine d_e ?_; refine o_eff0 F rfl rfl rfl (e_storearH F rfl rfl sz_27 (AT.eqv (ds := (([.int .i64 ob94.bits] : List Value) ++ (cs99 ++ (([] : List Value)))) ++ (cs101 ++ (([.int .i64 ob94.many] : List Value)))) hat98 (by simp only [List.append_assoc])) (by have l0_ : cs99.length = 512 := (h100.1 : cs99.length = 512); simp only [List.length_append, List.length_cons, List.length_nil] <;> omega) h102 (m := t25.1.toNat) (by have g_ := g104; omega) qqa112 rfl bj5.2.2 bj4.1) ?_; rintro w295 a ⟨cs298, E296, hat98, h102, h110, Z297⟩ F; replace B := B.size Z297; replace h100 := h100.ev E296 (ne_z bj4.1)
   as_aux_lemma =>
   replace h293 := h293.ev E296 (ne_mp bj4.2) (ne_z bj4.1); replace E := E.trans E296 (fun x (q : x = j4) => Or.inl (Or.inl q)); replace hat98 : AT true j4 c287 w295 ad97 (([.int .i64 ob94.bits] : List Value) ++ (cs99 ++ (([] : List Value) ++ (cs298 ++ (([.int .i64 ob94.many] : List Value)))))) := AT.eqv hat98 (by simp only [List.append_assoc]); refine ⟨fun q => absurd rfl q, ?_⟩; refine d_nil ?_; obtain ⟨c299, e300, e301, e302, h102⟩ := ARO.back3 (off := 513) (z := m + 3) (k := t25.1) (AT.eqv (ds := (([.int .i64 ob94.bits] : List Value) ++ (cs99 ++ (([] : List Value)))) ++ (cs298 ++ (([.int .i64 ob94.many] : List Value)))) hat98 (by simp only [List.append_assoc])) (by have l0_ : cs99.length = 512 := (h100.1 : cs99.length = 512); simp only [List.length_append, List.length_cons, List.length_nil] <;> omega) h102 g104.1 (by have g_ := g104.2; omega) (by rw [← qqa112]; exact h110) h293 ⟨(ne_mp bj5.2.1), (pl hm0)⟩ bj5.1; replace h100 := AR.rc (c' := c299) (i' := 0) h100 (fun k_ hk_ => (e300 k_ (by rw [hk_]; exact ne_zm)).trans hk_); replace hat98 := AT.rc (c' := c299) (j' := j4) hat98 (fun k_ hk_ => (e300 k_ (by rw [hk_]; exact (ne_pm bj4.2))).trans hk_); replace E : Ev (fun x => (x = j4 ∨ x = j5) ∨ m ≤ x) c0 w0 c299 w295 := Ev.lent EL113 B0 (by show (j5 = j4 ∨ j5 = j5); omega) (by omega) e106 e107 E e300 e302 (by omega); replace B : CB (m + 5) c299 w295 := B.recol (fun b_ => (e301 b_).imp id (fun q_ => by rw [q_]; exact (Nat.lt_add_right _ bj5.2.1))); exact J364 c299 w295 a ad97 ob94 cs99 t138 cs298 rfl (F.sub ⟨rfl, rfl, trivial⟩) E B hat98 h100 h102 H
  refine o_val F rfl rfl rfl (by decide) (r_fieldAddr F rfl ff_75_2) fun a F => ?_; refine ⟨fun _ => ER.sb, ?_⟩; refine d_e ?_; refine o_eff F rfl rfl rfl (by decide) (e_buildSliceF (n := 1) (e := 36) (c := c252) (k := K_api_Row) (i := 0) F [(0, .agg #[.slice A256 t117.Key.length C257, .slice A259 t117.Value.length C260, .int .i64 t117.Rev])] [.slice A256 t117.Key.length C257, .slice A259 t117.Value.length C260, .int .i64 t117.Rev] ([t117] : List api_Row) (by exact ⟨rfl, rfl, trivial⟩) (fun w => by kernel_rfl) rfl (by decide) rfl ⟨⟨A256, C257, A259, C260, rfl, (SL.fl h258 (fun q => q)), (SL.fl h261 (fun q => q))⟩, trivial⟩ (fun q => q) (m + 4)) ?_; rintro v w305 a ⟨c304, A306, C307, rfl, E308, h309, B310, hf303⟩ F; replace B := B310 _ B lm; replace ER := ER.trans E308 nx; replace h100 := h100.ev E308; replace h102 := h102.ev E308; replace hat98 := hat98.ev E308; replace h110 := h110.ev E308
  as_aux_lemma =>
  replace h111 := h111.ev E308; replace E := E.n E308; refine ⟨fun _ => ER.sb, ?_⟩; refine d_e ?_; obtain ⟨t138, q139, H⟩ := bind_some H; refine oc F Try.func56 (slices_Insert.calls (m := m + 5) (pl hm0) B h111 h309.r hf303 (by omega) (by omega) _ q139) ?_; rintro e w312 ⟨c311, A315, C316, rfl, E313, B, h317⟩; refine rt fun a F => ?_; replace ER := ER.trans E313 (fun x q => by replace q : x = m + 3 := q; show x = m + 3; omega); replace h100 := h100.ev E313; replace h102 := h102.ev E313 (ne_pm bj5.2.1) ne_zm; replace hat98 := hat98.ev E313 (ne_pm bj4.2); replace h110 := h110.ev E313 (ne_pm bj4.2); replace E := E.trans E313 lc1; refine ⟨fun _ => ER.sb, ?_⟩; refine dq F (fun wq hS => r_indexArr3 F ua_73 sz_27 rfl rfl g104.1 (by have g_ := g104.2; omega) hat98 qqa112) ER.sb fun a F => ?_; refine d_e ?_; refine o_eff0 F rfl rfl rfl (e_storearH F rfl rfl sz_27 (AT.eqv (ds := (([.int .i64 ob94.bits] : List Value) ++ (cs99 ++ (([] : List Value)))) ++ (cs101 ++ (([.int .i64 ob94.many] : List Value)))) hat98 (by simp only [List.append_assoc])) (by have l0_ : cs99.length = 512 := (h100.1 : cs99.length = 512); simp only [List.length_append, List.length_cons, List.length_nil] <;> omega) h102 (m := t25.1.toNat) (by have g_ := g104; omega) qqa112 rfl bj5.2.2 bj4.1) ?_; rintro w319 a ⟨cs322, E320, hat98, h102, h110, Z321⟩ F; replace B := B.size Z321; replace h100 := h100.ev E320 (ne_z bj4.1); replace h317 := h317.ev E320 (ne_mp bj4.2) (ne_z bj4.1)
  as_aux_lemma =>
  replace E := E.trans E320 (fun x (q : x = j4) => Or.inl (Or.inl q)); replace hat98 : AT true j4 c311 w319 ad97 (([.int .i64 ob94.bits] : List Value) ++ (cs99 ++ (([] : List Value) ++ (cs322 ++ (([.int .i64 ob94.many] : List Value)))))) := AT.eqv hat98 (by simp only [List.append_assoc]); refine ⟨fun q => absurd rfl q, ?_⟩; refine d_nil ?_; obtain ⟨c323, e324, e325, e326, h102⟩ := ARO.back3 (off := 513) (z := m + 3) (k := t25.1) (AT.eqv (ds := (([.int .i64 ob94.bits] : List Value) ++ (cs99 ++ (([] : List Value)))) ++ (cs322 ++ (([.int .i64 ob94.many] : List Value)))) hat98 (by simp only [List.append_assoc])) (by have l0_ : cs99.length = 512 := (h100.1 : cs99.length = 512); simp only [List.length_append, List.length_cons, List.length_nil] <;> omega) h102 g104.1 (by have g_ := g104.2; omega) (by rw [← qqa112]; exact h110) h317 ⟨(ne_mp bj5.2.1), (pl hm0)⟩ bj5.1; replace h100 := AR.rc (c' := c323) (i' := 0) h100 (fun k_ hk_ => (e324 k_ (by rw [hk_]; exact ne_zm)).trans hk_); replace hat98 := AT.rc (c' := c323) (j' := j4) hat98 (fun k_ hk_ => (e324 k_ (by rw [hk_]; exact (ne_pm bj4.2))).trans hk_); replace E : Ev (fun x => (x = j4 ∨ x = j5) ∨ m ≤ x) c0 w0 c323 w319 := Ev.lent EL113 B0 (by show (j5 = j4 ∨ j5 = j5); omega) (by omega) e106 e107 E e324 e326 (by omega); replace B : CB (m + 5) c323 w319 := B.recol (fun b_ => (e325 b_).imp id (fun q_ => by rw [q_]; exact (Nat.lt_add_right _ bj5.2.1))); exact J364 c323 w319 a ad97 ob94 cs99 t138 cs322 rfl (F.sub ⟨rfl, rfl, trivial⟩) E B hat98 h100 h102 H
 refine o_val F rfl rfl rfl (by decide) (r_fieldAddr F rfl ff_75_2) fun a F => ?_; refine ⟨fun _ => ER.sb, ?_⟩; refine d_e ?_; obtain ⟨t117, q118, H⟩ := bind_some H; refine oc F Try.func41 (merkle_own.calls (m := m + 5) (pl hm0) B h9 h12 _ q118) ?_; rintro e w328 ⟨c327, A331, C332, A334, C335, rfl, E329, B, h333, h336⟩; refine rt fun a F => ?_; replace ER := ER.trans E329 nx; replace h100 := h100.ev E329; replace h102 := h102.ev E329; replace hat98 := hat98.ev E329; replace h110 := h110.ev E329
 as_aux_lemma =>
 replace h111 := h111.ev E329; replace E := E.n E329; refine ⟨fun _ => ER.sb, ?_⟩; refine d_e ?_; refine o_eff F rfl rfl rfl (by decide) (e_buildSliceF (n := 1) (e := 36) (c := c327) (k := K_api_Row) (i := 0) F [(0, .agg #[.slice A331 t117.Key.length C332, .slice A334 t117.Value.length C335, .int .i64 t117.Rev])] [.slice A331 t117.Key.length C332, .slice A334 t117.Value.length C335, .int .i64 t117.Rev] ([t117] : List api_Row) (by exact ⟨rfl, rfl, trivial⟩) (fun w => by kernel_rfl) rfl (by decide) rfl ⟨⟨A331, C332, A334, C335, rfl, (SL.fl h333 (fun q => q)), (SL.fl h336 (fun q => q))⟩, trivial⟩ (fun q => q) (m + 4)) ?_; rintro v w340 a ⟨c339, A341, C342, rfl, E343, h344, B345, hf338⟩ F; replace B := B345 _ B lm; replace ER := ER.trans E343 nx; replace h100 := h100.ev E343; replace h102 := h102.ev E343; replace hat98 := hat98.ev E343; replace h110 := h110.ev E343; replace h111 := h111.ev E343; replace E := E.n E343; refine ⟨fun _ => ER.sb, ?_⟩; refine d_e ?_; obtain ⟨t138, q139, H⟩ := bind_some H; refine oc F Try.func56 (slices_Insert.calls (m := m + 5) (pl hm0) B h111 h344.r hf338 (by omega) (by omega) _ q139) ?_; rintro e w347 ⟨c346, A350, C351, rfl, E348, B, h352⟩; refine rt fun a F => ?_; replace ER := ER.trans E348 (fun x q => by replace q : x = m + 3 := q; show x = m + 3; omega); replace h100 := h100.ev E348
 as_aux_lemma =>
 replace h102 := h102.ev E348 (ne_pm bj5.2.1) ne_zm; replace hat98 := hat98.ev E348 (ne_pm bj4.2); replace h110 := h110.ev E348 (ne_pm bj4.2); replace E := E.trans E348 lc1; refine ⟨fun _ => ER.sb, ?_⟩; refine dq F (fun wq hS => r_indexArr3 F ua_73 sz_27 rfl rfl g104.1 (by have g_ := g104.2; omega) hat98 qqa112) ER.sb fun a F => ?_; refine d_e ?_; refine o_eff0 F rfl rfl rfl (e_storearH F rfl rfl sz_27 (AT.eqv (ds := (([.int .i64 ob94.bits] : List Value) ++ (cs99 ++ (([] : List Value)))) ++ (cs101 ++ (([.int .i64 ob94.many] : List Value)))) hat98 (by simp only [List.append_assoc])) (by have l0_ : cs99.length = 512 := (h100.1 : cs99.length = 512); simp only [List.length_append, List.length_cons, List.length_nil] <;> omega) h102 (m := t25.1.toNat) (by have g_ := g104; omega) qqa112 rfl bj5.2.2 bj4.1) ?_; rintro w354 a ⟨cs357, E355, hat98, h102, h110, Z356⟩ F; replace B := B.size Z356; replace h100 := h100.ev E355 (ne_z bj4.1); replace h352 := h352.ev E355 (ne_mp bj4.2) (ne_z bj4.1); replace E := E.trans E355 (fun x (q : x = j4) => Or.inl (Or.inl q)); replace hat98 : AT true j4 c346 w354 ad97 (([.int .i64 ob94.bits] : List Value) ++ (cs99 ++ (([] : List Value) ++ (cs357 ++ (([.int .i64 ob94.many] : List Value)))))) := AT.eqv hat98 (by simp only [List.append_assoc]); refine ⟨fun q => absurd rfl q, ?_⟩; refine d_nil ?_; obtain ⟨c358, e359, e360, e361, h102⟩ := ARO.back3 (off := 513) (z := m + 3) (k := t25.1) (AT.eqv (ds := (([.int .i64 ob94.bits] : List Value) ++ (cs99 ++ (([] : List Value)))) ++ (cs357 ++ (([.int .i64 ob94.many] : List Value)))) hat98 (by simp only [List.append_assoc])) (by have l0_ : cs99.length = 512 := (h100.1 : cs99.length = 512); simp only [List.length_append, List.length_cons, List.length_nil] <;> omega) h102 g104.1 (by have g_ := g104.2; omega) (by rw [← qqa112]; exact h110) h352 ⟨(ne_mp bj5.2.1), (pl hm0)⟩ bj5.1; replace h100 := AR.rc (c' := c358) (i' := 0) h100 (fun k_ hk_ => (e359 k_ (by rw [hk_]; exact ne_zm)).trans hk_); replace hat98 := AT.rc (c' := c358) (j' := j4) hat98 (fun k_ hk_ => (e359 k_ (by rw [hk_]; exact (ne_pm bj4.2))).trans hk_); replace E : Ev (fun x => (x = j4 ∨ x = j5) ∨ m ≤ x) c0 w0 c358 w354 := Ev.lent EL113 B0 (by show (j5 = j4 ∨ j5 = j5); omega) (by omega) e106 e107 E e359 e361 (by omega); replace B : CB (m + 5) c358 w354 := B.recol (fun b_ => (e360 b_).imp id (fun q_ => by rw [q_]; exact (Nat.lt_add_right _ bj5.2.1))); exact J364 c358 w354 a ad97 ob94 cs99 t138 cs357 rfl (F.sub ⟨rfl, rfl, trivial⟩) E B hat98 h100 h102 H
theorem haulagelaw10_grown.calls (k : Nat) {m : Nat} {c0 : Nat → Nat} {w0 : World} {A2 : Option Addr} {C3 : Nat} {a1 : List haulagelaw10_Change} {a5 : Int} (hm0 : 0 < m) (B0 : CB m c0 w0) (h4 : SL false K_haulagelaw10_Change 0 0 c0 w0 A2 C3 a1) (jr406 : Nat) (bjr406 : 0 < jr406 ∧ jr406 < m) (jr407 : Nat) (bjr407 : 0 < jr407 ∧ jr407 < m) (jr408 : Nat) (bjr408 : jr408 < m) (r : (Option Mer) × (List api_Row)) (H : haulagelaw10_grown.f k a1 a5 = some r) : Calls Try.prog 9 #[.slice A2 a1.length C3, .int .i64 a5] w0 (fun e w_ => ∃ (c_ : Nat → Nat) (P0_ : Option Addr) (A1_ : Option Addr) (C1_ : Nat), e = .returned (.tuple #[.pointer P0_, .slice A1_ r.2.length C1_]) ∧ Ev (fun x => False) c0 w0 c_ w_ ∧ CB m c_ w_ ∧ ME jr406 jr407 c_ w_ P0_ r.1 ∧ SL true K_api_Row jr408 0 c_ w_ A1_ C1_ r.2) := by
 unfold haulagelaw10_grown.f at H; have B := B0.mono (show m ≤ m + 8 by omega); have E : Ev (fun x => False ∨ m ≤ x) c0 w0 c0 w0 := Ev.refl; refine enter (N := 84) (l := [.slice A2 a1.length C3, .int .i64 a5]) Try.func9 rfl rfl (nb rfl) fun a F => ?_; refine sr fun K6 hK6 => qa F fun a F => qa F fun a F => nil (hK6 _ _ ?_); refine sr fun K7 hK7 => qm F fun a F => ?_; obtain ⟨t8, q9, H⟩ := bind_some H; refine qc F Try.func17 (merkle_New.calls k (m := m + 8) (pl hm0) B SL.nil (m + 1) ⟨(pl hm0), lm⟩ (m + 2) ⟨(pl hm0), lm⟩ _ q9) ?_; rintro e w11 ⟨c10, p14, rfl, E12, B, h15⟩; refine rt fun a F => ?_; replace h4 := h4.ev E12; replace E := E.n E12; refine qm F fun a F => ?_; refine qx F fun a F => ?_; refine qx F fun a F => ?_; refine qa F fun a F => qa F fun a F => nil (hK7 _ _ ?_); replace F : Fr a 84 [(0, .slice A2 a1.length C3), (6, .pointer p14), (7, .int .i64 t8.2)] := F.sub ⟨rfl, rfl, rfl, trivial⟩; refine sq fun K17 hK17 => ?_; refine sq fun K18 hK18 => ?_; have J21 : ∀ (c22 : Nat → Nat) (w23 : World) (a : Act) (b20 : Bool), Fr a 84 [(0, .slice A2 a1.length C3), (6, .pointer p14), (23, .bool b20)] → Ev (fun x => False ∨ m ≤ x) c0 w0 c22 w23 → CB (m + 8) c22 w23 → SL false K_haulagelaw10_Change 0 0 c22 w23 A2 C3 a1 → ME (m + 1) (m + 2) c22 w23 p14 t8.1 → haulagelaw10_grown.j1 k a1 t8 b20 = some r → K18 a w23 := by
  intro c22 w23 a b20 F E B h4 h15 H; unfold haulagelaw10_grown.j1 at H
  as_aux_lemma =>
  refine hK18 _ _ ?_
  by_cases hb24 : b20 = true
  ·replace H := ip hb24 H; refine wct (fb F hb24) ?_; refine sr fun K25 hK25 => qa F fun a F => qa F fun a F => nil (hK25 _ _ ?_); refine wp_ret ?_; refine thenR ?_; obtain rfl := si H; refine out2 F rfl rfl rfl ?_; exact ⟨cf (fun x_ => if x_ = m + 1 then jr406 else if x_ = m + 2 then jr407 else if x_ = m + 6 then jr408 else if x_ < m then x_ else 0) c22, none, none, 0, rfl, E.lv B0, cfb, ME.nil, SL.nil⟩
  replace H := im hb24 H; refine wcf (fb F (bfalse hb24)) (wp_skip (hK17 _ _ ?_)); refine sr fun K26 hK26 => qa F fun a F => nil (hK26 _ _ ?_); refine sq fun K27 hK27 => ?_; refine sr fun K28 hK28 => qa F fun a F => nil (hK28 _ _ ?_); refine wp_block ?_; obtain ⟨x162, HL, HR161⟩ := bind_some H; have J402 : ∀ (c403 : Nat → Nat) (w404 : World) (a : Act) (o397 : Option Mer) (l399 : List api_Row) (A400 : Option Addr) (C401 : Nat), Fr a 84 [(6, .pointer p14), (8, .slice A400 l399.length C401)] → Ev (fun x => False ∨ m ≤ x) c0 w0 c403 w404 → CB (m + 8) c403 w404 → ME (m + 1) (m + 2) c403 w404 p14 o397 → SL true K_api_Row (m + 6) 0 c403 w404 A400 C401 l399 → haulagelaw10_grown.j7 o397 l399 = some r → K27 a w404 := by
   intro c403 w404 a o397 l399 A400 C401 F E B h396 h398 H; unfold haulagelaw10_grown.j7 at H; refine hK27 _ _ ?_; refine sr fun K405 hK405 => qm F fun a F => qm F fun a F => qa F fun a F => qa F fun a F => nil (hK405 _ _ ?_); refine wp_ret ?_; obtain rfl := si H
   as_aux_lemma =>
   refine out2 F rfl rfl rfl ?_; exact ⟨cf (fun x_ => if x_ = m + 1 then jr406 else if x_ = m + 2 then jr407 else if x_ = m + 6 then jr408 else if x_ < m then x_ else 0) c403, p14, A400, C401, rfl, E.lv B0, cfb, ME.rc h396 cfk cfk cfk (by omega), SL.rc h398 cfk cfk⟩
  refine loop_fuel (I := fun n a w => ∃ (o147 : Option Mer) (l148 : List api_Row) (A149 : Option Addr) (C150 : Nat) (i152 : Int) (c : Nat → Nat), Fr a 84 [(0, .slice A2 a1.length C3), (6, .pointer p14), (8, .slice A149 l148.length C150), (9, .int .i64 i152)] ∧ Ev (fun x => False ∨ m ≤ x) c0 w0 c w ∧ CB (m + 8) c w ∧ SL false K_haulagelaw10_Change 0 0 c w A2 C3 a1 ∧ ME (m + 1) (m + 2) c w p14 o147 ∧ SL true K_api_Row (m + 6) 0 c w A149 C150 l148 ∧ loop (fun (s_ : (Option Mer) × (List api_Row) × Int) => haulagelaw10_grown.b6 k a1 s_.1 s_.2.1 s_.2.2) n (o147, l148, i152) = some x162) (k := k) ⟨t8.1, [], none, 0, 0, c22, F.sub ⟨rfl, rfl, rfl, rfl, trivial⟩, E, B, h4, h15, SL.nil, HL⟩ ?_; clear HL H E F B; intro n159 X155 hX155 a w154 ⟨o147, l148, A149, C150, i152, c153, F, E, B, h4, h146, h151, HL⟩; obtain ⟨n160, ctl158, rfl, HB, HN156, HD157⟩ := loop_some HL; have H : haulagelaw10_grown.b6 k a1 o147 l148 i152 = some ctl158 := HB; clear HB HL; unfold haulagelaw10_grown.b6 at H; refine sq fun K163 hK163 => ?_; refine sr fun K164 hK164 => qm F fun a F => qm F fun a F => ?_; refine qv F (r_lensl F Try.underlying22 rfl) fun a F => ?_; refine qv F (r_lss F rfl rfl) fun a F => ?_; refine nil (hK164 _ _ ?_)
  by_cases hb165 : i152 < (a1.length : Int)
  ·replace H := ip hb165 H; refine wct (fb F (dt hb165)) (wp_skip (hK163 _ _ ?_)); refine sq fun K166 hK166 => ?_; refine wp_block ?_; refine sr fun K167 hK167 => qm F fun a F => qm F fun a F => ?_; replace H := ifN H; obtain ⟨g168, H⟩ := H; obtain ⟨ad169, cs170, e171, h172, r173⟩ := SL.at h4 i152 g168.1 g168.2; obtain ⟨A174, C175, A177, C178, rfl, h176, h179⟩ := r173
   as_aux_lemma =>
   replace h176 := SL.fl (i' := 0) h176 (fun q => q); replace h179 := SL.fl (i' := 0) h179 (fun q => q); obtain ⟨qa180, qqa180⟩ : ∃ q, q = (ad169.add (i152.toNat * 4)) := ⟨_, rfl⟩; have h172 : AT false 0 c153 w154 qa180 [.slice A174 (((rd a1 i152).Row).Key).length C175, .slice A177 (((rd a1 i152).Row).Value).length C178, .int .i64 (((rd a1 i152).Row).Rev), .bool ((rd a1 i152).Goes)] := by rw [qqa180]; exact h172
   refine qv F (r_indexAddr' F Try.underlying22 sz_69 rfl rfl g168.1 g168.2 e171 qqa180) fun a F => ?_; refine qv F (r_loads (cs := [.slice A174 (((rd a1 i152).Row).Key).length C175, .slice A177 (((rd a1 i152).Row).Value).length C178, .int .i64 (((rd a1 i152).Row).Rev), .bool ((rd a1 i152).Goes)]) F rfl ag_69 sz_69 h172) fun a F => ?_; refine q_eff F rfl rfl (by decide) (e_alloc F zv_69 c153 (m + 3)) ?_; rintro v w183 a ⟨c182, qa61, rfl, E184, h63, B185⟩ F; replace B := B185 _ B lm; replace h4 := h4.ev E184; replace h146 := h146.ev E184; replace h151 := h151.ev E184; replace h176 := h176.ev E184; replace h179 := h179.ev E184; replace E := E.n E184; replace h63 : AT _ _ _ _ _ [.slice none 0 0, .slice none 0 0, .int .i64 0, .bool false] := h63; refine q_eff0 F rfl rfl (e_storeN0 (us := [.slice A174 (((rd a1 i152).Row).Key).length C175, .slice A177 (((rd a1 i152).Row).Value).length C178, .int .i64 (((rd a1 i152).Row).Rev), .bool ((rd a1 i152).Goes)]) F rfl rfl sz_69 h63 (nb rfl) (one_all rfl)) ?_; rintro w186 a ⟨E187, h63, Z188⟩ F; replace B := B.size Z188; replace h4 := h4.ev E187; replace h146 := h146.ev E187; replace h151 := h151.ev E187
   as_aux_lemma =>
   replace h176 := h176.ev E187; replace h179 := h179.ev E187; replace E := E.trans E187 lc1; replace h63 : AT _ _ _ _ _ [.slice A174 (((rd a1 i152).Row).Key).length C175, .slice A177 (((rd a1 i152).Row).Value).length C178, .int .i64 (((rd a1 i152).Row).Rev), .bool ((rd a1 i152).Goes)] := h63; refine nil (hK167 _ _ ?_); replace F : Fr a 84 [(0, .slice A2 a1.length C3), (6, .pointer p14), (8, .slice A149 l148.length C150), (9, .int .i64 i152), (10, .pointer (some qa61))] := F.sub ⟨rfl, rfl, rfl, rfl, rfl, trivial⟩; refine sq fun K189 hK189 => ?_; refine sr fun K190 hK190 => qf F ff_69_1 fun a F => ?_; refine ql F ag_4 h63 fun a F => ?_; refine qv F (r_not F rfl) fun a F => ?_; refine nil (hK190 _ _ ?_)
   by_cases hb191 : ((rd a1 i152).Goes) = true
   ·replace H := ip hb191 H; refine wcf (fb F (congrArg not hb191)) (wp_skip (hK189 _ _ ?_)); refine sr fun K223 hK223 => qa F fun a F => nil (hK223 _ _ ?_); refine sq fun K224 hK224 => ?_; refine sr fun K225 hK225 => qa F fun a F => nil (hK225 _ _ ?_); refine wp_block ?_; obtain ⟨x309, HL, HR308⟩ := bind_some H; have J374 : ∀ (c375 : Nat → Nat) (w376 : World) (a : Act) (l371 : List api_Row) (A372 : Option Addr) (C373 : Nat), Fr a 84 [(0, .slice A2 a1.length C3), (6, .pointer p14), (8, .slice A149 l148.length C150), (9, .int .i64 i152), (10, .pointer (some qa61)), (11, .slice A372 l371.length C373)] → Ev (fun x => False ∨ m ≤ x) c0 w0 c375 w376 → CB (m + 8) c375 w376 → AT true (m + 3) c375 w376 qa61 [.slice A174 (((rd a1 i152).Row).Key).length C175, .slice A177 (((rd a1 i152).Row).Value).length C178, .int .i64 (((rd a1 i152).Row).Rev), .bool ((rd a1 i152).Goes)] → SL false K_haulagelaw10_Change 0 0 c375 w376 A2 C3 a1 → ME (m + 1) (m + 2) c375 w376 p14 o147 → SL false (Kint .u8) 0 0 c375 w376 A174 C175 (((rd a1 i152).Row).Key) → SL true K_api_Row (m + 7) 0 c375 w376 A372 C373 l371 → haulagelaw10_grown.j5 k a1 o147 l148 i152 l371 = some ctl158 → K224 a w376 := by
     intro c375 w376 a l371 A372 C373 F E B h63 h4 h146 h176 h370 H; unfold haulagelaw10_grown.j5 at H; refine hK224 _ _ ?_
     as_aux_lemma =>
     refine sq fun K377 hK377 => ?_; refine sr fun K378 hK378 => qm F fun a F => qf F ff_69_0 fun a F => ?_; refine qv F (r_fieldAddr2 F h63 rfl ff_36_0) fun a F => ?_; refine ql F ag_23 h63 fun a F => ?_; obtain ⟨t135, q136, H⟩ := bind_some H; refine qc F Try.func31 (merkle_Tree_Delete.calls k (m := m + 8) (pl hm0) B h146 h176 ⟨(pl hm0), lm⟩ ⟨(pl hm0), lm, mm⟩ _ q136) ?_; rintro e w380 ⟨c379, rfl, E381, B, h383⟩; refine rt fun a F => ?_; replace h4 := h4.ev E381 (nor ne_zm ne_zm) (nor ne_zm ne_zm); replace h370 := h370.ev E381 (nor mm mm) (nor ne_zm ne_zm); replace E := E.trans E381 lc2; refine qm F fun a F => ?_; refine qv F (r_lensl F Try.underlying27 rfl) fun a F => ?_; refine qm F fun a F => ?_; refine qv F (r_lensl F Try.underlying27 rfl) fun a F => ?_; refine qv F (r_lss F rfl rfl) fun a F => ?_; refine qv F (r_bneq F Try.underlying4 rfl rfl) fun a F => ?_; refine nil (hK378 _ _ ?_); replace F : Fr a 84 [(0, .slice A2 a1.length C3), (6, .pointer p14), (9, .int .i64 i152), (11, .slice A372 l371.length C373), (80, .bool (!(t135.1 == (decide ((l371.length : Int) < (l148.length : Int))))))] := F.sub ⟨rfl, rfl, rfl, rfl, rfl, trivial⟩
     by_cases hb385 : (t135.1 == (decide ((l371.length : Int) < (l148.length : Int)))) = true
     ·replace H := ip hb385 H; refine wcf (fb F (congrArg not hb385)) (wp_skip (hK377 _ _ ?_)); refine reg ?_
      as_aux_lemma =>
      refine qm F fun a F => qa F fun a F => ?_; obtain ⟨c387, hc387⟩ : ∃ c', c' = fun k => if c379 k = m + 7 then m + 6 else c379 k := ⟨_, rfl⟩; replace h4 := SL.rc (c' := c387) (j' := 0) (i' := 0) h4 (fun k_ hk_ => by rw [hc387]; show (if c379 k_ = m + 7 then m + 6 else c379 k_) = 0; rw [hk_]; exact if_neg ne_zm) (fun k_ hk_ => by rw [hc387]; show (if c379 k_ = m + 7 then m + 6 else c379 k_) = 0; rw [hk_]; exact if_neg ne_zm); replace h370 := SL.rc (c' := c387) (j' := m + 6) (i' := 0) h370 (fun k_ hk_ => by rw [hc387]; show (if c379 k_ = m + 7 then m + 6 else c379 k_) = (m + 6); rw [hk_]; exact if_pos rfl) (fun k_ hk_ => by rw [hc387]; show (if c379 k_ = m + 7 then m + 6 else c379 k_) = 0; rw [hk_]; exact if_neg ne_zm); replace h383 := ME.rc (c' := c387) (j' := m + 1) (i' := m + 2) h383 (fun k_ hk_ => by rw [hc387]; show (if c379 k_ = m + 7 then m + 6 else c379 k_) = (m + 1); rw [hk_]; exact if_neg mm) (fun k_ hk_ => by rw [hc387]; show (if c379 k_ = m + 7 then m + 6 else c379 k_) = (m + 2); rw [hk_]; exact if_neg mm) (fun k_ hk_ => by rw [hc387]; show (if c379 k_ = m + 7 then m + 6 else c379 k_) = 0; rw [hk_]; exact if_neg ne_zm) (pl hm0); replace E : Ev (fun x => False ∨ m ≤ x) c0 w0 c387 w380 := E.recol B0 (fun b_ hb_ => by rw [hc387]; exact if_neg (by omega)); replace B : CB (m + 8) c387 w380 := B.recol (fun b_ => by rw [hc387]; show (if c379 b_ = m + 7 then m + 6 else c379 b_) = c379 b_ ∨ (if c379 b_ = m + 7 then m + 6 else c379 b_) < m + 8; split <;> first | exact Or.inr lm | exact Or.inl rfl); refine nil (hK166 _ _ ?_); refine reg ?_; refine qm F fun a F => ?_; refine qv F (r_add F rfl rfl) fun a F => ?_; refine qa F fun a F => nil ?_; replace H := HN156 _ (si H).symm; exact hX155 _ _ _ (Nat.lt_succ_self _) ⟨t135.2, l371, A372, C373, (IntKind.i64.wrap (i152 + 1)), c387, F.sub ⟨rfl, rfl, rfl, rfl, trivial⟩, E, B, h4, h383, h370, H⟩
     replace H := im hb385 H; refine wct (fb F (congrArg not (bfalse hb385))) ?_; refine sr fun K386 hK386 => qa F fun a F => qa F fun a F => nil (hK386 _ _ ?_); refine wp_ret ?_; refine thenR ?_; refine inbR ?_; refine thenR ?_; refine thenR ?_
     as_aux_lemma =>
     refine inbR ?_; refine thenR ?_; have hx_ := HD157 _ (si H).symm; have H := HR161; rw [← hx_] at H; replace H : some (none, []) = some r := H; obtain rfl := si H; refine out2 F rfl rfl rfl ?_; exact ⟨cf (fun x_ => if x_ = m + 1 then jr406 else if x_ = m + 2 then jr407 else if x_ = m + 6 then jr408 else if x_ < m then x_ else 0) c379, none, none, 0, rfl, E.lv B0, cfb, ME.nil, SL.nil⟩
    refine loop_fuel (I := fun n a w => ∃ (l295 : List api_Row) (A296 : Option Addr) (C297 : Nat) (i299 : Int) (c : Nat → Nat), Fr a 84 [(0, .slice A2 a1.length C3), (6, .pointer p14), (8, .slice A149 l148.length C150), (9, .int .i64 i152), (10, .pointer (some qa61)), (11, .slice A296 l295.length C297), (12, .int .i64 i299)] ∧ Ev (fun x => False ∨ m ≤ x) c0 w0 c w ∧ CB (m + 8) c w ∧ AT true (m + 3) c w qa61 [.slice A174 (((rd a1 i152).Row).Key).length C175, .slice A177 (((rd a1 i152).Row).Value).length C178, .int .i64 (((rd a1 i152).Row).Rev), .bool ((rd a1 i152).Goes)] ∧ SL false K_haulagelaw10_Change 0 0 c w A2 C3 a1 ∧ ME (m + 1) (m + 2) c w p14 o147 ∧ SL true K_api_Row (m + 6) 0 c w A149 C150 l148 ∧ SL false (Kint .u8) 0 0 c w A174 C175 (((rd a1 i152).Row).Key) ∧ SL false (Kint .u8) 0 0 c w A177 C178 (((rd a1 i152).Row).Value) ∧ SL true K_api_Row (m + 7) 0 c w A296 C297 l295 ∧ loop (fun (s_ : (List api_Row) × Int) => haulagelaw10_grown.b4 k a1 l148 i152 s_.1 s_.2) n (l295, i299) = some x309) (k := k) ⟨[], none, 0, 0, c182, F.sub ⟨rfl, rfl, rfl, rfl, rfl, rfl, rfl, trivial⟩, E, B, h63, h4, h146, h151, h176, h179, SL.nil, HL⟩ ?_; clear HL H E F B; intro n306 X302 hX302 a w301 ⟨l295, A296, C297, i299, c300, F, E, B, h63, h4, h146, h151, h176, h179, h298, HL⟩; obtain ⟨n307, ctl305, rfl, HB, HN303, HD304⟩ := loop_some HL; have H : haulagelaw10_grown.b4 k a1 l148 i152 l295 i299 = some ctl305 := HB; clear HB HL; unfold haulagelaw10_grown.b4 at H; refine sq fun K310 hK310 => ?_; refine sr fun K311 hK311 => qm F fun a F => qm F fun a F => ?_; refine qv F (r_lensl F Try.underlying27 rfl) fun a F => ?_; refine qv F (r_lss F rfl rfl) fun a F => ?_; refine nil (hK311 _ _ ?_)
    by_cases hb312 : i299 < (l148.length : Int)
    ·replace H := ip hb312 H
     as_aux_lemma =>
     refine wct (fb F (dt hb312)) (wp_skip (hK310 _ _ ?_)); refine sq fun K313 hK313 => ?_; refine wp_block ?_; refine sq fun K314 hK314 => ?_; refine regD (SB No c300 w301) 10 (.q 0 (.q 1 (.q 2 (.q 3 (.q 4 (.q 5 (.q 6 (.q 7 (.e 8 (.q 9 .nil)))))))))) Try_hm (by decide +kernel) ?_; intro w315 w1_ w2_ w3_ w4_; have E316 : Ev No c300 w301 c300 w315 := Ev.same w1_ w2_ w3_ w4_; replace B := B.same w1_; have zh63 := h63; have zh151 := h151; have ER : Ev No c300 w301 c300 w315 := Ev.same w1_ w2_ w3_ w4_; replace h63 := h63.ev E316; replace h4 := h4.ev E316; replace h146 := h146.ev E316; replace h151 := h151.ev E316; replace h176 := h176.ev E316; replace h179 := h179.ev E316; replace h298 := h298.ev E316; replace E := E.n E316; refine dm F ER.sb fun a F => ?_; refine dm F ER.sb fun a F => ?_; replace H := ifN H; obtain ⟨g317, H⟩ := H; obtain ⟨ad318, cs319, e320, h321, r322⟩ := SL.at zh151 i299 g317.1 g317.2; obtain ⟨A323, C324, A326, C327, rfl, h325, h328⟩ := r322
     as_aux_lemma =>
     replace h325 := SL.fl (i' := 0) h325 (fun q => q); obtain ⟨qa329, qqa329⟩ : ∃ q, q = (ad318.add (i299.toNat * 3)) := ⟨_, rfl⟩; have h321 : AT true (m + 6) c300 w301 qa329 [.slice A323 ((rd l148 i299).Key).length C324, .slice A326 ((rd l148 i299).Value).length C327, .int .i64 ((rd l148 i299).Rev)] := by rw [qqa329]; exact h321
     replace h325 := h325.ev ER nq nq; have zh321 := h321; refine dq F (fun wq hS => r_indexAddr' F Try.underlying27 sz_36 rfl rfl g317.1 g317.2 e320 qqa329) ER.sb fun a F => ?_; refine df F ff_36_0 ER.sb fun a F => ?_; refine dl F ag_23 zh321 nq ER.sb fun a F => ?_; refine df F ff_69_0 ER.sb fun a F => ?_; refine dq F (fun wq hS => r_fieldAddr2 F h63 rfl ff_36_0) ER.sb fun a F => ?_; refine dl F ag_23 zh63 nq ER.sb fun a F => ?_; refine d_e ?_; obtain ⟨t258, q259, H⟩ := bind_some H; refine oc F Try.func15 (haulagelaw10_same.calls k (m := m + 8) (pl hm0) B h325 h176 _ q259) ?_; rintro e w332 ⟨c331, rfl, E333, B⟩; refine rt fun a F => ?_; replace ER := ER.trans E333 nx; replace h63 := h63.ev E333; replace h4 := h4.ev E333; replace h146 := h146.ev E333; replace h151 := h151.ev E333; replace h176 := h176.ev E333
     as_aux_lemma =>
     replace h179 := h179.ev E333; replace h298 := h298.ev E333; replace E := E.n E333; refine ⟨fun _ => ER.sb, ?_⟩; refine dq F (fun wq hS => r_not F rfl) ER.sb fun a F => ?_; refine d_nil ?_; refine hK314 _ _ ?_; replace F : Fr a 84 [(0, .slice A2 a1.length C3), (6, .pointer p14), (8, .slice A149 l148.length C150), (9, .int .i64 i152), (10, .pointer (some qa61)), (11, .slice A296 l295.length C297), (12, .int .i64 i299), (62, .bool (!t258))] := F.sub ⟨rfl, rfl, rfl, rfl, rfl, rfl, rfl, rfl, trivial⟩
     by_cases hb336 : t258 = true
     ·replace H := ip hb336 H; refine wcf (fb F (congrArg not hb336)) (wp_skip (hK313 _ _ ?_)); refine reg ?_; refine qm F fun a F => ?_; refine qv F (r_add F rfl rfl) fun a F => ?_; refine qa F fun a F => nil ?_; replace H := HN303 _ (si H).symm; exact hX302 _ _ _ (Nat.lt_succ_self _) ⟨l295, A296, C297, (IntKind.i64.wrap (i299 + 1)), c331, F.sub ⟨rfl, rfl, rfl, rfl, rfl, rfl, rfl, trivial⟩, E, B, h63, h4, h146, h151, h176, h179, h298, H⟩
     replace H := im hb336 H; refine wct (fb F (congrArg not (bfalse hb336))) ?_; refine reg ?_; refine qm F fun a F => qm F fun a F => qm F fun a F => ?_; replace H := ifN H; obtain ⟨g337, H⟩ := H; obtain ⟨ad338, cs339, e340, h341, r342⟩ := SL.at h151 i299 g337.1 g337.2; obtain ⟨A343, C344, A346, C347, rfl, h345, h348⟩ := r342
     as_aux_lemma =>
     replace h345 := SL.fl (i' := 0) h345 (fun q => q); replace h348 := SL.fl (i' := 0) h348 (fun q => q); obtain ⟨qa349, qqa349⟩ : ∃ q, q = (ad338.add (i299.toNat * 3)) := ⟨_, rfl⟩; have h341 : AT true (m + 6) c331 w332 qa349 [.slice A343 ((rd l148 i299).Key).length C344, .slice A346 ((rd l148 i299).Value).length C347, .int .i64 ((rd l148 i299).Rev)] := by rw [qqa349]; exact h341
     refine qv F (r_indexAddr' F Try.underlying27 sz_36 rfl rfl g337.1 g337.2 e340 qqa349) fun a F => ?_; refine qv F (r_loads (cs := [.slice A343 ((rd l148 i299).Key).length C344, .slice A346 ((rd l148 i299).Value).length C347, .int .i64 ((rd l148 i299).Rev)]) F rfl ag_36 sz_36 h341) fun a F => ?_; refine q_eff F rfl rfl (by decide) (e_buildSlice (n := 1) (e := 36) (c := c331) (k := K_api_Row) (i := 0) F [(0, .agg #[.slice A343 ((rd l148 i299).Key).length C344, .slice A346 ((rd l148 i299).Value).length C347, .int .i64 ((rd l148 i299).Rev)])] [.slice A343 ((rd l148 i299).Key).length C344, .slice A346 ((rd l148 i299).Value).length C347, .int .i64 ((rd l148 i299).Rev)] ([(rd l148 i299)] : List api_Row) (by exact ⟨rfl, rfl, trivial⟩) (fun w => by kernel_rfl) rfl (by decide) rfl ⟨⟨A343, C344, A346, C347, rfl, (SL.fl h345 (fun q => q)), (SL.fl h348 (fun q => q))⟩, trivial⟩ (fun q => q) 0) ?_; rintro v w352 a ⟨c351, A353, C354, rfl, E355, h356, B357⟩ F; replace B := B357 _ B (pl hm0); replace h63 := h63.ev E355; replace h4 := h4.ev E355; replace h146 := h146.ev E355; replace h151 := h151.ev E355; replace h176 := h176.ev E355; replace h179 := h179.ev E355; replace h298 := h298.ev E355; replace E := E.n E355; replace H := ifN H; obtain ⟨g287, H⟩ := H; refine q_eff F rfl rfl (by decide) (e_append (k := K_api_Row) (xs := l295) (ys := [(rd l148 i299)]) (c := c351) (j := (m + 7)) (i := 0) F et_27 rfl rfl h298 h356 g287 (len_ok g287) ne_zm) ?_; rintro v w359 a ⟨c358, A360, C361, rfl, E362, h363, B364⟩ F; replace B := B364 _ B lm
     as_aux_lemma =>
     replace h63 := h63.ev E362; replace h4 := h4.ev E362; replace h146 := h146.ev E362; replace h151 := h151.ev E362; replace h176 := h176.ev E362; replace h179 := h179.ev E362; replace E := E.trans E362 lc1; refine qa F fun a F => nil (hK313 _ _ ?_); replace F : Fr a 84 [(0, .slice A2 a1.length C3), (6, .pointer p14), (8, .slice A149 l148.length C150), (9, .int .i64 i152), (10, .pointer (some qa61)), (11, .slice A360 (l295 ++ [(rd l148 i299)]).length C361), (12, .int .i64 i299)] := F.sub ⟨rfl, rfl, rfl, rfl, rfl, rfl, rfl, trivial⟩; refine reg ?_; refine qm F fun a F => ?_; refine qv F (r_add F rfl rfl) fun a F => ?_; refine qa F fun a F => nil ?_; replace H := HN303 _ (si H).symm; exact hX302 _ _ _ (Nat.lt_succ_self _) ⟨(l295 ++ [(rd l148 i299)]), A360, C361, (IntKind.i64.wrap (i299 + 1)), c358, F.sub ⟨rfl, rfl, rfl, rfl, rfl, rfl, rfl, trivial⟩, E, B, h63, h4, h146, h151, h176, h179, h363, H⟩
    replace H := im hb312 H; refine wcf (fb F (dz hb312)) ?_; refine wp_exit ?_; refine thenE ?_; refine thenE ?_; refine inbE ?_; have hx_ := HD304 _ (si H).symm; have H := HR308; rw [← hx_] at H; exact J374 c300 w301 a l295 A296 C297 (F.sub ⟨rfl, rfl, rfl, rfl, rfl, rfl, trivial⟩) E B h63 h4 h146 h176 h298 H
   as_aux_lemma =>
   replace H := im hb191 H; refine wct (fb F (congrArg not (bfalse hb191))) ?_; refine sr fun K192 hK192 => qm F fun a F => qf F ff_69_0 fun a F => ?_; refine qv F (r_loads (cs := [.slice A174 (((rd a1 i152).Row).Key).length C175, .slice A177 (((rd a1 i152).Row).Value).length C178, .int .i64 (((rd a1 i152).Row).Rev)]) F rfl ag_36 sz_36 (AT.sub h63 0 3 (nb rfl))) fun a F => ?_; obtain ⟨t73, q74, H⟩ := bind_some H; refine qc F Try.func30 (merkle_Tree_Put.calls k (m := m + 8) (pl hm0) B h146 h176 h179 ⟨(pl hm0), lm⟩ ⟨(pl hm0), lm, mm⟩ _ q74) ?_; rintro e w194 ⟨c193, rfl, E195, B, h197⟩; refine rt fun a F => ?_; replace h4 := h4.ev E195 (nor ne_zm ne_zm) (nor ne_zm ne_zm); replace h151 := h151.ev E195 (nor mm mm) (nor ne_zm ne_zm); replace h176 := h176.ev E195 (nor ne_zm ne_zm) (nor ne_zm ne_zm); replace h179 := h179.ev E195 (nor ne_zm ne_zm) (nor ne_zm ne_zm); replace h63 := h63.ev E195 (nor mm mm); replace E := E.trans E195 lc2; refine nil (hK192 _ _ ?_); refine sr fun K199 hK199 => qm F fun a F => qf F ff_69_0 fun a F => ?_; refine qv F (r_loads (cs := [.slice A174 (((rd a1 i152).Row).Key).length C175, .slice A177 (((rd a1 i152).Row).Value).length C178, .int .i64 (((rd a1 i152).Row).Rev)]) F rfl ag_36 sz_36 (AT.sub h63 0 3 (nb rfl))) fun a F => ?_; refine q_eff F rfl rfl (by decide) (e_buildSlice (n := 1) (e := 36) (c := c193) (k := K_api_Row) (i := 0) F [(0, .agg #[.slice A174 (((rd a1 i152).Row).Key).length C175, .slice A177 (((rd a1 i152).Row).Value).length C178, .int .i64 (((rd a1 i152).Row).Rev)])] [.slice A174 (((rd a1 i152).Row).Key).length C175, .slice A177 (((rd a1 i152).Row).Value).length C178, .int .i64 (((rd a1 i152).Row).Rev)] ([((rd a1 i152).Row)] : List api_Row) (by exact ⟨rfl, rfl, trivial⟩) (fun w => by kernel_rfl) rfl (by decide) rfl ⟨⟨A174, C175, A177, C178, rfl, (SL.fl h176 (fun q => q)), (SL.fl h179 (fun q => q))⟩, trivial⟩ (fun q => q) 0) ?_; rintro v w201 a ⟨c200, A202, C203, rfl, E204, h205, B206⟩ F; replace B := B206 _ B (pl hm0); replace h4 := h4.ev E204; replace h151 := h151.ev E204
   as_aux_lemma =>
   replace h197 := h197.ev E204; replace E := E.n E204; replace H := ifN H; obtain ⟨g89, H⟩ := H; refine q_eff F rfl rfl (by decide) (e_append (k := K_api_Row) (xs := l148) (ys := [((rd a1 i152).Row)]) (c := c200) (j := (m + 6)) (i := 0) F et_27 rfl rfl h151 h205 g89 (len_ok g89) ne_zm) ?_; rintro v w208 a ⟨c207, A209, C210, rfl, E211, h212, B213⟩ F; replace B := B213 _ B lm; replace h4 := h4.ev E211; replace h197 := h197.ev E211; replace E := E.trans E211 lc1; obtain ⟨t97, q98, H⟩ := bind_some H; refine qc F Try.func28 (haulagelaw10_sorted.calls k (m := m + 8) (pl hm0) B h212.r lm (m + 5) lm _ q98) ?_; rintro e w215 ⟨c214, A218, C219, rfl, E216, B, h220⟩; refine rt fun a F => ?_; replace h4 := h4.ev E216; replace h197 := h197.ev E216; replace E := E.n E216; refine qa F fun a F => ?_; obtain ⟨c222, hc222⟩ : ∃ c', c' = fun k => if c214 k = m + 5 then m + 6 else c214 k := ⟨_, rfl⟩; replace h4 := SL.rc (c' := c222) (j' := 0) (i' := 0) h4 (fun k_ hk_ => by rw [hc222]; show (if c214 k_ = m + 5 then m + 6 else c214 k_) = 0; rw [hk_]; exact if_neg ne_zm) (fun k_ hk_ => by rw [hc222]; show (if c214 k_ = m + 5 then m + 6 else c214 k_) = 0; rw [hk_]; exact if_neg ne_zm); replace h197 := ME.rc (c' := c222) (j' := m + 1) (i' := m + 2) h197 (fun k_ hk_ => by rw [hc222]; show (if c214 k_ = m + 5 then m + 6 else c214 k_) = (m + 1); rw [hk_]; exact if_neg mm) (fun k_ hk_ => by rw [hc222]; show (if c214 k_ = m + 5 then m + 6 else c214 k_) = (m + 2); rw [hk_]; exact if_neg mm) (fun k_ hk_ => by rw [hc222]; show (if c214 k_ = m + 5 then m + 6 else c214 k_) = 0; rw [hk_]; exact if_neg ne_zm) (pl hm0); replace h220 := SL.rc (c' := c222) (j' := m + 6) (i' := 0) h220 (fun k_ hk_ => by rw [hc222]; show (if c214 k_ = m + 5 then m + 6 else c214 k_) = (m + 6); rw [hk_]; exact if_pos rfl) (fun k_ hk_ => by rw [hc222]; show (if c214 k_ = m + 5 then m + 6 else c214 k_) = 0; rw [hk_]; exact if_neg ne_zm)
   as_aux_lemma =>
   replace E : Ev (fun x => False ∨ m ≤ x) c0 w0 c222 w215 := E.recol B0 (fun b_ hb_ => by rw [hc222]; exact if_neg (by omega)); replace B : CB (m + 8) c222 w215 := B.recol (fun b_ => by rw [hc222]; show (if c214 b_ = m + 5 then m + 6 else c214 b_) = c214 b_ ∨ (if c214 b_ = m + 5 then m + 6 else c214 b_) < m + 8; split <;> first | exact Or.inr lm | exact Or.inl rfl); refine nil (hK199 _ _ ?_); replace F : Fr a 84 [(0, .slice A2 a1.length C3), (6, .pointer p14), (8, .slice A218 t97.length C219), (9, .int .i64 i152)] := F.sub ⟨rfl, rfl, rfl, rfl, trivial⟩; refine wp_exit ?_; refine thenE ?_; refine inbE ?_; refine hK166 _ _ ?_; refine reg ?_; refine qm F fun a F => ?_; refine qv F (r_add F rfl rfl) fun a F => ?_; refine qa F fun a F => nil ?_; replace H := HN156 _ (si H).symm; exact hX155 _ _ _ (Nat.lt_succ_self _) ⟨t73, t97, A218, C219, (IntKind.i64.wrap (i152 + 1)), c222, F.sub ⟨rfl, rfl, rfl, rfl, trivial⟩, E, B, h4, h197, h220, H⟩
  replace H := im hb165 H; refine wcf (fb F (dz hb165)) ?_; refine wp_exit ?_; refine thenE ?_; refine thenE ?_; refine inbE ?_; have hx_ := HD157 _ (si H).symm; have H := HR161; rw [← hx_] at H; exact J402 c153 w154 a o147 l148 A149 C150 (F.sub ⟨rfl, rfl, trivial⟩) E B h146 h151 H
 as_aux_lemma =>
 refine reg ?_; refine qm F fun a F => ?_; refine qv F (r_neq F rfl rfl) fun a F => ?_; refine qm F fun a F => ?_
 by_cases hb19 : t8.2 = 0
 ·replace H := ip hb19 H; refine qy F (congrArg not (dt hb19)) ?_; refine qm F fun a F => ?_; refine qy F (congrArg not (dt hb19)) ?_; refine qv F (r_peqlA F Try.underlying26 rfl rfl (ME.isNone h15)) fun a F => ?_; refine qv F (r_pick_f F rfl (congrArg not (dt hb19)) rfl) fun a F => ?_; refine nil ?_; exact J21 c10 w11 a (Option.isNone t8.1) (F.sub ⟨rfl, rfl, rfl, trivial⟩) E B h4 h15 H
 replace H := im hb19 H; refine qn F (congrArg not (dz hb19)) fun a F => qn F (congrArg not (dz hb19)) fun a F => ?_; refine qv F (r_pick_t F rfl (congrArg not (dz hb19)) rfl) fun a F => ?_; refine nil ?_; exact J21 c10 w11 a true (F.sub ⟨rfl, rfl, rfl, trivial⟩) E B h4 h15 H
theorem haulagelaw10_round.calls {m : Nat} {c0 : Nat → Nat} {w0 : World} {a1 : Int} {a2 : Int} (hm0 : 0 < m) (B0 : CB m c0 w0) (r : Int) (H : haulagelaw10_round.f a1 a2 = some r) : Calls Try.prog 8 #[.int .i64 a1, .int .i64 a2] w0 (fun e w_ => ∃ (c_ : Nat → Nat), e = .returned (.int .i64 r) ∧ Ev (fun x => False) c0 w0 c_ w_ ∧ CB m c_ w_) := by
 unfold haulagelaw10_round.f at H; have B := B0.mono (show m ≤ m + 1 by omega); have E : Ev (fun x => False ∨ m ≤ x) c0 w0 c0 w0 := Ev.refl; refine enter (N := 15) (l := [.int .i64 a1, .int .i64 a2]) Try.func8 rfl rfl (nb rfl) fun a F => ?_; refine sr fun K3 hK3 => qa F fun a F => nil (hK3 _ _ ?_); refine sr fun K4 hK4 => qm F fun a F => qm F fun a F => ?_; replace H := ifN H; obtain ⟨g5, H⟩ := H; refine qv F (r_rem F rfl rfl g5) fun a F => ?_; refine qa F fun a F => nil (hK4 _ _ ?_); refine sq fun K6 hK6 => ?_; refine sr fun K7 hK7 => qm F fun a F => ?_; refine qv F (r_lss F rfl rfl) fun a F => ?_; refine nil (hK7 _ _ ?_)
 by_cases hb8 : (Int.tmod a1 a2) < 0
 ·replace H := ip hb8 H; refine wct (fb F (dt hb8)) ?_; refine reg ?_; refine qm F fun a F => qm F fun a F => ?_; refine qv F (r_add F rfl rfl) fun a F => ?_; refine qa F fun a F => nil (hK6 _ _ ?_); replace F : Fr a 15 [(5, .int .i64 (IntKind.i64.wrap ((Int.tmod a1 a2) + a2)))] := F.sub ⟨rfl, trivial⟩; refine sr fun K9 hK9 => qm F fun a F => qa F fun a F => nil (hK9 _ _ ?_); refine wp_ret ?_; obtain rfl := si H; refine out1 F rfl rfl ?_; exact ⟨cf (ct m) c0, rfl, E.lv B0, cfb⟩
 replace H := im hb8 H; refine wcf (fb F (dz hb8)) (wp_skip (hK6 _ _ ?_)); replace F : Fr a 15 [(5, .int .i64 (Int.tmod a1 a2))] := F.sub ⟨rfl, trivial⟩; refine sr fun K10 hK10 => qm F fun a F => qa F fun a F => nil (hK10 _ _ ?_); refine wp_ret ?_; obtain rfl := si H; refine out1 F rfl rfl ?_; exact ⟨cf (ct m) c0, rfl, E.lv B0, cfb⟩
theorem merkle_Tree_Get.calls (k : Nat) {m : Nat} {c0 : Nat → Nat} {w0 : World} {j4 : Nat} {j5 : Nat} {p2 : Option Addr} {A7 : Option Addr} {C8 : Nat} {a1 : Option Mer} {a6 : List Int} (hm0 : 0 < m) (B0 : CB m c0 w0) (h3 : ME j4 j5 c0 w0 p2 a1) (h9 : SL false (Kint .u8) 0 0 c0 w0 A7 C8 a6) (bj4 : j4 < m) (bj5 : j5 < m ∧ j5 ≠ j4) (r : api_Row × Bool) (H : merkle_Tree_Get.f k a1 a6 = some r) : Calls Try.prog 13 #[.pointer p2, .slice A7 a6.length C8] w0 (fun e w_ => ∃ (c_ : Nat → Nat) (A0_ : Option Addr) (C0_ : Nat) (A2_ : Option Addr) (C2_ : Nat), e = .returned (.tuple #[.agg #[.slice A0_ r.1.Key.length C0_, .slice A2_ r.1.Value.length C2_, .int .i64 r.1.Rev], .bool r.2]) ∧ Ev (fun x => False) c0 w0 c_ w_ ∧ CB m c_ w_ ∧ SL false (Kint .u8) 0 0 c_ w_ A0_ C0_ r.1.Key ∧ SL false (Kint .u8) 0 0 c_ w_ A2_ C2_ r.1.Value) := by
 unfold merkle_Tree_Get.f at H; have B := B0.mono (show m ≤ m + 2 by omega); have E : Ev (fun x => False ∨ m ≤ x) c0 w0 c0 w0 := Ev.refl; refine enter (N := 32) (l := [.pointer p2, .slice A7 a6.length C8]) Try.func13 rfl rfl (nb rfl) fun a F => ?_; refine sr fun K10 hK10 => ?_; refine q_eff F rfl rfl (by decide) (e_alloc F zv_36 c0 (m + 1)) ?_; rintro v w12 a ⟨c11, qa13, rfl, E14, h15, B16⟩ F; replace B := B16 _ B lm; replace h3 := h3.ev E14; replace h9 := h9.ev E14; replace E := E.n E14; replace h15 : AT _ _ _ _ _ [.slice none 0 0, .slice none 0 0, .int .i64 0] := h15; refine qa F fun a F => nil (hK10 _ _ ?_); refine sq fun K18 hK18 => ?_; refine sr fun K19 hK19 => qm F fun a F => ?_; refine qv F (r_peqlA F Try.underlying26 rfl rfl (ME.isNone h3)) fun a F => ?_; refine nil (hK19 _ _ ?_)
 by_cases hb20 : (Option.isNone a1) = true
 ·replace H := ip hb20 H; refine wct (fb F hb20) ?_; refine sr fun K21 hK21 => ?_; refine qv F (r_build (v := .agg #[.slice none 0 0, .slice none 0 0, .int .i64 0]) F [] (by exact trivial) (fun w => by kernel_rfl)) fun a F => ?_; refine q_eff0 F rfl rfl (e_storeN0 (us := [.slice none 0 0, .slice none 0 0, .int .i64 0]) F rfl rfl sz_36 h15 (nb rfl) (one_all rfl)) ?_; rintro w22 a ⟨E23, h15, Z24⟩ F; replace E := E.trans E23 lc1; replace h15 : AT _ _ _ _ _ [.slice none 0 0, .slice none 0 0, .int .i64 0] := h15; refine qa F fun a F => nil (hK21 _ _ ?_); refine wp_ret ?_; refine thenR ?_; obtain rfl := si H; refine outR2 F rfl ⟨_, rfl, lv_agg (cs := [.slice none 0 0, .slice none 0 0, .int .i64 0]) ag_36 sz_36 h15⟩ rfl ?_; exact ⟨cf (ct m) c11, none, 0, none, 0, rfl, E.lv B0, cfb, SL.nil, SL.nil⟩
 replace H := im hb20 H; refine wcf (fb F (bfalse hb20)) (wp_skip (hK18 _ _ ?_)); refine sr fun K25 hK25 => qm F fun a F => qm F fun a F => ?_; obtain ⟨t26, q27, H⟩ := bind_some H; refine qc F Try.func42 (merkle_Tree_at.calls k (m := m + 2) (pl hm0) B h3 h9 (Nat.lt_add_right _ bj4) ⟨(Nat.lt_add_right _ bj5.1), bj5.2⟩ _ q27) ?_; rintro e w29 ⟨c28, rfl, E30, B⟩; refine rt fun a F => ?_; replace h3 := h3.ev E30; replace h15 := h15.ev E30; replace E := E.n E30; refine qm F fun a F => ?_; refine qx F fun a F => ?_; refine qx F fun a F => ?_; refine qx F fun a F => ?_; refine qa F fun a F => qa F fun a F => qa F fun a F => nil (hK25 _ _ ?_); replace F : Fr a 32 [(0, .pointer p2), (4, .pointer (some qa13)), (6, .int .i64 t26.1), (7, .int .i64 t26.2.1), (8, .bool t26.2.2)] := F.sub ⟨rfl, rfl, rfl, rfl, rfl, trivial⟩; refine sq fun K33 hK33 => ?_; refine sr fun K34 hK34 => qm F fun a F => ?_; refine qv F (r_not F rfl) fun a F => ?_; refine nil (hK34 _ _ ?_)
 by_cases hb35 : t26.2.2 = true
 ·replace H := ip hb35 H; refine wcf (fb F (congrArg not hb35)) (wp_skip (hK33 _ _ ?_)); refine sr fun K40 hK40 => qm F fun a F => qm F fun a F => ?_; obtain ⟨ob41, e42, H⟩ := bind_some H; have z43 := h3; rw [e42] at z43; obtain ⟨ad44, cs46, cs48, rfl, hat45, h47, h49⟩ := ME.some z43; refine qi F fun a F => ?_; refine qf F ff_75_2 fun a F => ?_; replace H := ifN H; obtain ⟨g51, H⟩ := H; obtain ⟨cs53, h54, r55⟩ := ARO.at (off := 513) (AT.eqv (ds := (([.int .i64 ob41.bits] : List Value) ++ (cs46 ++ (([] : List Value)))) ++ (cs48 ++ (([.int .i64 ob41.many] : List Value)))) hat45 (by simp only [List.append_assoc])) (by have l0_ : cs46.length = 512 := (h47.1 : cs46.length = 512); simp only [List.length_append, List.length_cons, List.length_nil] <;> omega) h49 t26.1 g51.1 (by have g_ := g51.2; omega); obtain ⟨A57, C58, rfl, h59⟩ := r55; obtain ⟨qa56, qqa56⟩ : ∃ q, q = (ad44.add (513 + t26.1.toNat * 1)) := ⟨_, rfl⟩; have h54 : AT true j4 c28 w29 qa56 [.slice A57 (rd ob41.rows t26.1).length C58] := by rw [qqa56]; exact h54
  refine qv F (r_indexArr3 F ua_73 sz_27 rfl rfl g51.1 (by have g_ := g51.2; omega) hat45 qqa56) fun a F => ?_; refine qv F (r_load F rfl ag_27 (AT.cell0 h54 rfl)) fun a F => ?_; refine qm F fun a F => ?_; replace H := ifN H; obtain ⟨g61, H⟩ := H; obtain ⟨ad62, cs63, e64, h65, r66⟩ := SL.at h59 t26.2.1 g61.1 g61.2; obtain ⟨A67, C68, A70, C71, rfl, h69, h72⟩ := r66; replace h69 := SL.fl (i' := 0) h69 (fun q => q); replace h72 := SL.fl (i' := 0) h72 (fun q => q); obtain ⟨qa73, qqa73⟩ : ∃ q, q = (ad62.add (t26.2.1.toNat * 3)) := ⟨_, rfl⟩; have h65 : AT true j5 c28 w29 qa73 [.slice A67 ((rd (rd ob41.rows t26.1) t26.2.1).Key).length C68, .slice A70 ((rd (rd ob41.rows t26.1) t26.2.1).Value).length C71, .int .i64 ((rd (rd ob41.rows t26.1) t26.2.1).Rev)] := by rw [qqa73]; exact h65
  refine qv F (r_indexAddr' F Try.underlying27 sz_36 rfl rfl g61.1 g61.2 e64 qqa73) fun a F => ?_; refine qv F (r_loads (cs := [.slice A67 ((rd (rd ob41.rows t26.1) t26.2.1).Key).length C68, .slice A70 ((rd (rd ob41.rows t26.1) t26.2.1).Value).length C71, .int .i64 ((rd (rd ob41.rows t26.1) t26.2.1).Rev)]) F rfl ag_36 sz_36 h65) fun a F => ?_; obtain ⟨t75, q76, H⟩ := bind_some H; refine qc F Try.func41 (merkle_own.calls (m := m + 2) (pl hm0) B h69 h72 _ q76) ?_; rintro e w78 ⟨c77, A81, C82, A84, C85, rfl, E79, B, h83, h86⟩; refine rt fun a F => ?_; replace h15 := h15.ev E79; replace E := E.n E79; refine q_eff0 F rfl rfl (e_storeN0 (us := [.slice A81 t75.Key.length C82, .slice A84 t75.Value.length C85, .int .i64 t75.Rev]) F rfl rfl sz_36 h15 (nb rfl) (one_all rfl)) ?_; rintro w88 a ⟨E89, h15, Z90⟩ F; replace h83 := h83.ev E89; replace h86 := h86.ev E89; replace E := E.trans E89 lc1; replace h15 : AT _ _ _ _ _ [.slice A81 t75.Key.length C82, .slice A84 t75.Value.length C85, .int .i64 t75.Rev] := h15; refine qa F fun a F => nil (hK40 _ _ ?_); replace F : Fr a 32 [(4, .pointer (some qa13)), (5, .bool true)] := F.sub ⟨rfl, rfl, trivial⟩; refine wp_ret ?_; obtain rfl := si H; refine outR2 F rfl ⟨_, rfl, lv_agg (cs := [.slice A81 t75.Key.length C82, .slice A84 t75.Value.length C85, .int .i64 t75.Rev]) ag_36 sz_36 h15⟩ rfl ?_; exact ⟨cf (ct m) c77, A81, C82, A84, C85, rfl, E.lv B0, cfb, SL.rc h83 cfk cfk, SL.rc h86 cfk cfk⟩
 replace H := im hb35 H; refine wct (fb F (congrArg not (bfalse hb35))) ?_; refine sr fun K36 hK36 => ?_; refine qv F (r_build (v := .agg #[.slice none 0 0, .slice none 0 0, .int .i64 0]) F [] (by exact trivial) (fun w => by kernel_rfl)) fun a F => ?_; refine q_eff0 F rfl rfl (e_storeN0 (us := [.slice none 0 0, .slice none 0 0, .int .i64 0]) F rfl rfl sz_36 h15 (nb rfl) (one_all rfl)) ?_; rintro w37 a ⟨E38, h15, Z39⟩ F; replace E := E.trans E38 lc1; replace h15 : AT _ _ _ _ _ [.slice none 0 0, .slice none 0 0, .int .i64 0] := h15; refine qa F fun a F => nil (hK36 _ _ ?_); refine wp_ret ?_; refine thenR ?_; obtain rfl := si H; refine outR2 F rfl ⟨_, rfl, lv_agg (cs := [.slice none 0 0, .slice none 0 0, .int .i64 0]) ag_36 sz_36 h15⟩ rfl ?_; exact ⟨cf (ct m) c28, none, 0, none, 0, rfl, E.lv B0, cfb, SL.nil, SL.nil⟩
theorem haulagelaw10_MerkleSound.calls (k : Nat) {m : Nat} {c0 : Nat → Nat} {w0 : World} {A2 : Option Addr} {C3 : Nat} {A7 : Option Addr} {C8 : Nat} {A11 : Option Addr} {C12 : Nat} {cs14 : List Value} {a1 : List haulagelaw10_Change} {a5 : Int} {a6 : List Int} {a10 : merkle_Proof} (hm0 : 0 < m) (B0 : CB m c0 w0) (h4 : SL false K_haulagelaw10_Change 0 0 c0 w0 A2 C3 a1) (h9 : SL false (Kint .u8) 0 0 c0 w0 A7 C8 a6) (h13 : SL false K_api_Row 0 0 c0 w0 A11 C12 a10.Rows) (h15 : AR (Kint .u64) 0 c0 w0 cs14 8 a10.Path) (r : Bool) (H : haulagelaw10_MerkleSound.f k a1 a5 a6 a10 = some r) : Calls Try.prog 4 #[.slice A2 a1.length C3, .int .i64 a5, .slice A7 a6.length C8, .agg (([.slice A11 a10.Rows.length C12] : List Value) ++ (cs14 ++ (([] : List Value)))).toArray] w0 (fun e w_ => ∃ (c_ : Nat → Nat), e = .returned (.bool r) ∧ Ev (fun x => False) c0 w0 c_ w_ ∧ CB m c_ w_) := by
 unfold haulagelaw10_MerkleSound.f at H; have B := B0.mono (show m ≤ m + 7 by omega); have E : Ev (fun x => False ∨ m ≤ x) c0 w0 c0 w0 := Ev.refl; refine enter (N := 72) (l := [.slice A2 a1.length C3, .int .i64 a5, .slice A7 a6.length C8, .agg (([.slice A11 a10.Rows.length C12] : List Value) ++ (cs14 ++ (([] : List Value)))).toArray]) Try.func4 rfl rfl (nb rfl) fun a F => ?_; refine sr fun K16 hK16 => ?_; refine q_eff F rfl rfl (by decide) (e_box F (v := .agg (([.slice A11 a10.Rows.length C12] : List Value) ++ (cs14 ++ (([] : List Value)))).toArray) rfl c0 (m + 1)) ?_; rintro v w18 a ⟨c17, qa19, rfl, E20, h21, B22⟩ F; replace B := B22 _ B lm; replace h4 := h4.ev E20; replace h9 := h9.ev E20; replace h13 := h13.ev E20; replace h15 := h15.ev E20; replace E := E.n E20; replace h21 : AT _ _ _ _ _ (([.slice A11 a10.Rows.length C12] : List Value) ++ (cs14 ++ (([] : List Value)))) := h21; refine qa F fun a F => nil (hK16 _ _ ?_); refine sq fun K24 hK24 => ?_; refine sr fun K25 hK25 => ?_; obtain ⟨t26, q27, H⟩ := bind_some H; refine qc F Try.func7 (haulagelaw10_awake.calls k (m := m + 7) (pl hm0) B _ q27) ?_; rintro e w29 ⟨c28, rfl, E30, B⟩; refine rt fun a F => ?_; replace h4 := h4.ev E30; replace h9 := h9.ev E30; replace h13 := h13.ev E30; replace h15 := h15.ev E30; replace h21 := h21.ev E30; replace E := E.n E30; refine qv F (r_not F rfl) fun a F => ?_; refine nil (hK25 _ _ ?_)
 by_cases hb33 : t26 = true
 ·replace H := ip hb33 H; refine wcf (fb F (congrArg not hb33)) (wp_skip (hK24 _ _ ?_)); refine sr fun K35 hK35 => qm F fun a F => ?_; obtain ⟨t36, q37, H⟩ := bind_some H; refine qc F Try.func8 (haulagelaw10_round.calls (m := m + 7) (pl hm0) B _ q37) ?_; rintro e w39 ⟨c38, rfl, E40, B⟩; refine rt fun a F => ?_; replace h4 := h4.ev E40; replace h9 := h9.ev E40; replace h13 := h13.ev E40; replace h15 := h15.ev E40; replace h21 := h21.ev E40; replace E := E.n E40; refine qv F (r_add F rfl rfl) fun a F => ?_; refine qa F fun a F => nil (hK35 _ _ ?_); replace F : Fr a 72 [(0, .slice A2 a1.length C3), (2, .slice A7 a6.length C8), (7, .pointer (some qa19)), (9, .int .i64 (IntKind.i64.wrap (1 + t36)))] := F.sub ⟨rfl, rfl, rfl, rfl, trivial⟩; refine sr fun K43 hK43 => qm F fun a F => qm F fun a F => ?_; obtain ⟨t44, q45, H⟩ := bind_some H; refine qc F Try.func9 (haulagelaw10_grown.calls k (m := m + 7) (pl hm0) B h4 (m + 2) ⟨(pl hm0), lm⟩ (m + 3) ⟨(pl hm0), lm⟩ (m + 4) lm _ q45) ?_; rintro e w47 ⟨c46, p50, A52, C53, rfl, E48, B, h51, h54⟩; refine rt fun a F => ?_; replace h9 := h9.ev E48; replace h13 := h13.ev E48; replace h15 := h15.ev E48; replace h21 := h21.ev E48; replace E := E.n E48; refine qm F fun a F => ?_; refine qx F fun a F => ?_; refine qx F fun a F => ?_; refine qa F fun a F => qa F fun a F => nil (hK43 _ _ ?_); replace F : Fr a 72 [(2, .slice A7 a6.length C8), (7, .pointer (some qa19)), (9, .int .i64 (IntKind.i64.wrap (1 + t36))), (10, .pointer p50)] := F.sub ⟨rfl, rfl, rfl, rfl, trivial⟩; refine sq fun K56 hK56 => ?_; refine sr fun K57 hK57 => qm F fun a F => ?_; refine qv F (r_peqlA F Try.underlying26 rfl rfl (ME.isNone h51)) fun a F => ?_; refine nil (hK57 _ _ ?_)
  by_cases hb58 : (Option.isNone t44.1) = true
  ·replace H := ip hb58 H; refine wct (fb F hb58) ?_; refine sr fun K59 hK59 => qa F fun a F => nil (hK59 _ _ ?_); refine wp_ret ?_; refine thenR ?_; obtain rfl := si H; refine out1 F rfl rfl ?_; exact ⟨cf (ct m) c46, rfl, E.lv B0, cfb⟩
  replace H := im hb58 H; refine wcf (fb F (bfalse hb58)) (wp_skip (hK56 _ _ ?_)); refine sq fun K60 hK60 => ?_; have J140 : ∀ (c141 : Nat → Nat) (w142 : World) (a : Act) (qa85 : Addr) (t70 : api_Row × Bool × Int) (A134 : Option Addr) (C135 : Nat) (A137 : Option Addr) (C138 : Nat), Fr a 72 [(2, .slice A7 a6.length C8), (7, .pointer (some qa19)), (9, .int .i64 (IntKind.i64.wrap (1 + t36))), (10, .pointer p50), (12, .pointer (some qa85)), (13, .bool t70.2.1), (14, .int .i64 t70.2.2)] → Ev (fun x => False ∨ m ≤ x) c0 w0 c141 w142 → CB (m + 7) c141 w142 → AT true (m + 1) c141 w142 qa19 (([.slice A11 a10.Rows.length C12] : List Value) ++ (cs14 ++ (([] : List Value)))) → AT true (m + 5) c141 w142 qa85 [.slice A134 t70.1.Key.length C135, .slice A137 t70.1.Value.length C138, .int .i64 t70.1.Rev] → SL false (Kint .u8) 0 0 c141 w142 A7 C8 a6 → SL false K_api_Row 0 0 c141 w142 A11 C12 a10.Rows → AR (Kint .u64) 0 c141 w142 cs14 8 a10.Path → ME (m + 2) (m + 3) c141 w142 p50 t44.1 → SL false (Kint .u8) 0 0 c141 w142 A134 C135 t70.1.Key → SL false (Kint .u8) 0 0 c141 w142 A137 C138 t70.1.Value → haulagelaw10_MerkleSound.j1 k a6 a10 t36 t44 t70 = some r → K60 a w142 := by
   intro c141 w142 a qa85 t70 A134 C135 A137 C138 F E B h21 h87 h9 h13 h15 h51 h136 h139 H; unfold haulagelaw10_MerkleSound.j1 at H; refine hK60 _ _ ?_; refine sq fun K143 hK143 => ?_; refine sr fun K144 hK144 => qm F fun a F => ?_; refine qv F (r_neq F rfl rfl) fun a F => ?_; refine nil (hK144 _ _ ?_)
   by_cases hb145 : t70.2.2 = 0
   ·replace H := ip hb145 H; refine wcf (fb F (congrArg not (dt hb145))) (wp_skip (hK143 _ _ ?_)); refine sr fun K156 hK156 => qm F fun a F => qm F fun a F => ?_; obtain ⟨t157, q158, H⟩ := bind_some H; refine qc F Try.func13 (merkle_Tree_Get.calls k (m := m + 7) (pl hm0) B h51 h9 lm ⟨lm, mm⟩ _ q158) ?_; rintro e w160 ⟨c159, A163, C164, A166, C167, rfl, E161, B, h165, h168⟩; refine rt fun a F => ?_; replace h21 := h21.ev E161; replace h87 := h87.ev E161; replace h9 := h9.ev E161; replace h13 := h13.ev E161; replace h15 := h15.ev E161; replace h51 := h51.ev E161; replace h136 := h136.ev E161; replace h139 := h139.ev E161; replace E := E.n E161; refine qm F fun a F => ?_; refine qx F fun a F => ?_; refine qx F fun a F => ?_; refine q_eff F rfl rfl (by decide) (e_alloc F zv_36 c159 (m + 6)) ?_; rintro v w171 a ⟨c170, qa172, rfl, E173, h174, B175⟩ F; replace B := B175 _ B lm; replace h21 := h21.ev E173; replace h87 := h87.ev E173; replace h9 := h9.ev E173; replace h13 := h13.ev E173; replace h15 := h15.ev E173; replace h51 := h51.ev E173; replace h136 := h136.ev E173; replace h139 := h139.ev E173; replace h165 := h165.ev E173; replace h168 := h168.ev E173; replace E := E.n E173; replace h174 : AT _ _ _ _ _ [.slice none 0 0, .slice none 0 0, .int .i64 0] := h174; refine q_eff0 F rfl rfl (e_storeN0 (us := [.slice A163 t157.1.Key.length C164, .slice A166 t157.1.Value.length C167, .int .i64 t157.1.Rev]) F rfl rfl sz_36 h174 (nb rfl) (one_all rfl)) ?_; rintro w177 a ⟨E178, h174, Z179⟩ F; replace B := B.size Z179; replace h21 := h21.ev E178; replace h87 := h87.ev E178; replace h9 := h9.ev E178; replace h13 := h13.ev E178; replace h15 := h15.ev E178; replace h51 := h51.ev E178; replace h136 := h136.ev E178; replace h139 := h139.ev E178; replace h165 := h165.ev E178; replace h168 := h168.ev E178; replace E := E.trans E178 lc1; replace h174 : AT _ _ _ _ _ [.slice A163 t157.1.Key.length C164, .slice A166 t157.1.Value.length C167, .int .i64 t157.1.Rev] := h174; refine qa F fun a F => nil (hK156 _ _ ?_); replace F : Fr a 72 [(2, .slice A7 a6.length C8), (7, .pointer (some qa19)), (9, .int .i64 (IntKind.i64.wrap (1 + t36))), (10, .pointer p50), (12, .pointer (some qa85)), (13, .bool t70.2.1), (15, .pointer (some qa172)), (16, .bool t157.2)] := F.sub ⟨rfl, rfl, rfl, rfl, rfl, rfl, rfl, rfl, trivial⟩; refine sq fun K180 hK180 => ?_; refine sq fun K181 hK181 => ?_; have J191 : ∀ (c192 : Nat → Nat) (w193 : World) (a : Act) (b190 : Bool), Fr a 72 [(2, .slice A7 a6.length C8), (7, .pointer (some qa19)), (9, .int .i64 (IntKind.i64.wrap (1 + t36))), (10, .pointer p50), (66, .bool b190)] → Ev (fun x => False ∨ m ≤ x) c0 w0 c192 w193 → CB (m + 7) c192 w193 → AT true (m + 1) c192 w193 qa19 (([.slice A11 a10.Rows.length C12] : List Value) ++ (cs14 ++ (([] : List Value)))) → SL false (Kint .u8) 0 0 c192 w193 A7 C8 a6 → SL false K_api_Row 0 0 c192 w193 A11 C12 a10.Rows → AR (Kint .u64) 0 c192 w193 cs14 8 a10.Path → ME (m + 2) (m + 3) c192 w193 p50 t44.1 → haulagelaw10_MerkleSound.j2 k a6 a10 t36 t44 b190 = some r → K181 a w193 := by
     intro c192 w193 a b190 F E B h21 h9 h13 h15 h51 H; unfold haulagelaw10_MerkleSound.j2 at H; refine hK181 _ _ ?_
     by_cases hb194 : b190 = true
     ·replace H := ip hb194 H; refine wct (fb F hb194) ?_; refine sr fun K195 hK195 => qa F fun a F => nil (hK195 _ _ ?_); refine wp_ret ?_; refine thenR ?_; obtain rfl := si H; refine out1 F rfl rfl ?_; exact ⟨cf (ct m) c192, rfl, E.lv B0, cfb⟩
     replace H := im hb194 H; refine wcf (fb F (bfalse hb194)) (wp_skip (hK180 _ _ ?_)); refine sr fun K196 hK196 => qm F fun a F => qm F fun a F => qm F fun a F => ?_; refine qv F (r_loadsS (cs := (([.slice A11 a10.Rows.length C12] : List Value) ++ (cs14 ++ (([] : List Value))))) F rfl ag_33 sz_33 (by have l0_ : cs14.length = 8 := (h15.1 : cs14.length = 8); simp only [List.length_append, List.length_cons, List.length_nil] <;> omega) h21) fun a F => ?_; obtain ⟨t197, q198, H⟩ := bind_some H; refine qc F Try.func16 (haulagelaw10_clash.calls k (m := m + 7) (pl hm0) B h51 h9 h13 h15 lm ⟨lm, mm⟩ _ q198) ?_; rintro e w200 ⟨c199, rfl, E201, B⟩; refine rt fun a F => ?_; replace E := E.n E201; refine qa F fun a F => nil (hK196 _ _ ?_); replace F : Fr a 72 [(8, .bool t197)] := F.sub ⟨rfl, trivial⟩; refine wp_ret ?_; obtain rfl := si H; refine out1 F rfl rfl ?_; exact ⟨cf (ct m) c199, rfl, E.lv B0, cfb⟩
    refine reg ?_; refine qm F fun a F => qm F fun a F => ?_; refine qv F (r_beql F Try.underlying4 rfl rfl) fun a F => ?_; refine qm F fun a F => ?_
    by_cases hb182 : (t70.2.1 == t157.2) = true
    ·replace H := ip hb182 H; refine qy F hb182 ?_; refine qv F (r_loads (cs := [.slice A134 t70.1.Key.length C135, .slice A137 t70.1.Value.length C138, .int .i64 t70.1.Rev]) F rfl ag_36 sz_36 h87) fun a F => ?_; refine qy F hb182 ?_; refine qv F (r_loads (cs := [.slice A163 t157.1.Key.length C164, .slice A166 t157.1.Value.length C167, .int .i64 t157.1.Rev]) F rfl ag_36 sz_36 h174) fun a F => ?_; obtain ⟨t183, q184, H⟩ := bind_some H; refine qy F hb182 ?_; refine qc F Try.func14 (haulagelaw10_sameRow.calls k (m := m + 7) (pl hm0) B h136 h139 h165 h168 _ q184) ?_; rintro e w186 ⟨c185, rfl, E187, B⟩; refine rt fun a F => ?_; replace h21 := h21.ev E187; replace h9 := h9.ev E187; replace h13 := h13.ev E187; replace h15 := h15.ev E187; replace h51 := h51.ev E187; replace E := E.n E187; refine qv F (r_pick_t F rfl hb182 rfl) fun a F => ?_; refine nil ?_; exact J191 c185 w186 a t183 (F.sub ⟨rfl, rfl, rfl, rfl, rfl, trivial⟩) E B h21 h9 h13 h15 h51 H
    replace H := im hb182 H; refine qn F (bfalse hb182) fun a F => qn F (bfalse hb182) fun a F => qn F (bfalse hb182) fun a F => ?_; refine qv F (r_pick_f F rfl (bfalse hb182) rfl) fun a F => ?_; refine nil ?_; exact J191 c170 w177 a false (F.sub ⟨rfl, rfl, rfl, rfl, rfl, trivial⟩) E B h21 h9 h13 h15 h51 H
   replace H := im hb145 H; refine wct (fb F (congrArg not (dz hb145))) ?_; refine sr fun K146 hK146 => qm F fun a F => ?_; refine qv F (r_eql F rfl rfl) fun a F => ?_; refine qm F fun a F => ?_
   by_cases hb147 : t70.2.2 = 101
   ·replace H := ip hb147 H; refine qy F (dt hb147) ?_; refine qm F fun a F => ?_; refine qy F (dt hb147) ?_; refine qv F (r_not F rfl) fun a F => ?_; refine qv F (r_pick_t F rfl (dt hb147) rfl) fun a F => ?_; refine qm F fun a F => ?_
    by_cases hb148 : t70.2.1 = true
    ·replace H := ip hb148 H; refine qn F (congrArg not hb148) fun a F => qn F (congrArg not hb148) fun a F => qn F (congrArg not hb148) fun a F => ?_; refine qv F (r_pick_f F rfl (congrArg not hb148) rfl) fun a F => ?_; refine qa F fun a F => nil (hK146 _ _ ?_); replace F : Fr a 72 [(8, .bool false)] := F.sub ⟨rfl, trivial⟩; refine wp_ret ?_; refine thenR ?_; obtain rfl := si H; refine out1 F rfl rfl ?_; exact ⟨cf (ct m) c141, rfl, E.lv B0, cfb⟩
    replace H := im hb148 H; refine qy F (congrArg not (bfalse hb148)) ?_; refine qv F (r_loads (cs := [.slice A134 t70.1.Key.length C135, .slice A137 t70.1.Value.length C138, .int .i64 t70.1.Rev]) F rfl ag_36 sz_36 h87) fun a F => ?_; refine qy F (congrArg not (bfalse hb148)) ?_; refine qv F (r_build (v := .agg #[.slice none 0 0, .slice none 0 0, .int .i64 0]) F [] (by exact trivial) (fun w => by kernel_rfl)) fun a F => ?_; obtain ⟨t149, q150, H⟩ := bind_some H; refine qy F (congrArg not (bfalse hb148)) ?_; refine qc F Try.func14 (haulagelaw10_sameRow.calls k (m := m + 7) (a8 := api_Row.mk [] [] 0) (pl hm0) B h136 h139 SL.nil SL.nil _ q150) ?_; rintro e w152 ⟨c151, rfl, E153, B⟩; refine rt fun a F => ?_; replace E := E.n E153; refine qv F (r_pick_t F rfl (congrArg not (bfalse hb148)) rfl) fun a F => ?_; refine qa F fun a F => nil (hK146 _ _ ?_); replace F : Fr a 72 [(8, .bool t149)] := F.sub ⟨rfl, trivial⟩; refine wp_ret ?_; refine thenR ?_; obtain rfl := si H; refine out1 F rfl rfl ?_; exact ⟨cf (ct m) c151, rfl, E.lv B0, cfb⟩
   replace H := im hb147 H; refine qn F (dz hb147) fun a F => qn F (dz hb147) fun a F => ?_; refine qv F (r_pick_f F rfl (dz hb147) rfl) fun a F => ?_; refine qm F fun a F => qn F rfl fun a F => qn F rfl fun a F => qn F rfl fun a F => ?_; refine qp F fun a F => ?_; refine qa F fun a F => nil (hK146 _ _ ?_); replace F : Fr a 72 [(8, .bool false)] := F.sub ⟨rfl, trivial⟩; refine wp_ret ?_; refine thenR ?_; obtain rfl := si H; refine out1 F rfl rfl ?_; exact ⟨cf (ct m) c141, rfl, E.lv B0, cfb⟩
  refine regD (SB (fun x => x = m + 5) c46 w47) 14 (.q 0 (.q 2 (.q 3 (.q 4 (.f 1 (.f 5 (.q 6 (.q 7 (.q 8 (.q 9 (.e 10 (.e 11 (.q 12 (.q 13 .nil)))))))) 10 (.e 5 (.q 6 (.q 7 (.q 8 (.q 9 (.e 11 (.q 12 (.q 13 .nil))))))))) 10 (.e 1 (.e 5 (.q 6 (.q 7 (.q 8 (.q 9 (.e 11 (.q 12 (.q 13 .nil)))))))))))))) Try_hm (by decide +kernel) ?_; intro w61 w1_ w2_ w3_ w4_; have E62 : Ev No c46 w47 c46 w61 := Ev.same w1_ w2_ w3_ w4_; replace B := B.same w1_; have zh21 := h21; have ER : Ev (fun x => x = m + 5) c46 w47 c46 w61 := Ev.same w1_ w2_ w3_ w4_; replace h9 := h9.ev E62; replace h13 := h13.ev E62; replace h15 := h15.ev E62; replace h21 := h21.ev E62; replace h51 := h51.ev E62; replace E := E.n E62; refine dm F ER.sb fun a F => ?_; refine dm F ER.sb fun a F => ?_; refine dm F ER.sb fun a F => ?_; refine dq F (fun wq hS => r_loadsS (cs := (([.slice A11 a10.Rows.length C12] : List Value) ++ (cs14 ++ (([] : List Value))))) F rfl ag_33 sz_33 (by have l0_ : cs14.length = 8 := (h15.1 : cs14.length = 8); simp only [List.length_append, List.length_cons, List.length_nil] <;> omega) (AT.ev zh21 hS mm)) ER.sb fun a F => ?_; refine d_f ?_ ?_
  ·obtain ⟨t63, q64, H⟩ := bind_some H; refine oc F Try.func12 (merkle_Tree_Root.calls (m := m + 7) (pl hm0) B h51 lm ⟨lm, mm⟩ _ q64) ?_; rintro e w66 ⟨c65, rfl, E67, B⟩; refine rt fun a F => ?_; replace ER := ER.trans E67 nx; replace h9 := h9.ev E67; replace h13 := h13.ev E67; replace h15 := h15.ev E67; replace h21 := h21.ev E67; replace h51 := h51.ev E67; replace E := E.n E67; refine ⟨fun _ => ER.sb, ?_⟩; refine d_f ?_ ?_
   ·obtain ⟨t70, q71, H⟩ := bind_some H; refine oc F Try.func11 (merkle_Check.calls k (m := m + 7) (pl hm0) B h9 h13 h15 _ q71) ?_; rintro e w73 ⟨c72, A76, C77, A79, C80, rfl, E74, B, h78, h81⟩; refine rt fun a F => ?_; replace ER := ER.trans E74 nx; replace h9 := h9.ev E74; replace h13 := h13.ev E74; replace h15 := h15.ev E74; replace h21 := h21.ev E74; replace h51 := h51.ev E74; replace E := E.n E74; refine ⟨fun _ => ER.sb, ?_⟩; refine dm F ER.sb fun a F => ?_; refine dq F (fun wq hS => r_extract F rfl rfl) ER.sb fun a F => ?_; refine dq F (fun wq hS => r_extract F rfl rfl) ER.sb fun a F => ?_; refine dq F (fun wq hS => r_extract F rfl rfl) ER.sb fun a F => ?_; refine d_e ?_; refine o_eff F rfl rfl rfl (by decide) (e_alloc F zv_36 c72 (m + 5)) ?_; rintro v w84 a ⟨c83, qa85, rfl, E86, h87, B88⟩ F; replace B := B88 _ B lm; replace ER := ER.trans E86 nx; replace h9 := h9.ev E86; replace h13 := h13.ev E86; replace h15 := h15.ev E86; replace h21 := h21.ev E86; replace h51 := h51.ev E86; replace h78 := h78.ev E86; replace h81 := h81.ev E86; replace E := E.n E86; replace h87 : AT _ _ _ _ _ [.slice none 0 0, .slice none 0 0, .int .i64 0] := h87; refine ⟨fun _ => ER.sb, ?_⟩; refine d_e ?_; refine o_eff0 F rfl rfl rfl (e_storeN0 (us := [.slice A76 t70.1.Key.length C77, .slice A79 t70.1.Value.length C80, .int .i64 t70.1.Rev]) F rfl rfl sz_36 h87 (nb rfl) (one_all rfl)) ?_; rintro w90 a ⟨E91, h87, Z92⟩ F; replace B := B.size Z92; replace ER := ER.trans E91 (fun x q => by replace q : x = m + 5 := q; show x = m + 5; omega); replace h9 := h9.ev E91; replace h13 := h13.ev E91; replace h15 := h15.ev E91; replace h21 := h21.ev E91; replace h51 := h51.ev E91; replace h78 := h78.ev E91; replace h81 := h81.ev E91; replace E := E.trans E91 lc1; replace h87 : AT _ _ _ _ _ [.slice A76 t70.1.Key.length C77, .slice A79 t70.1.Value.length C80, .int .i64 t70.1.Rev] := h87; refine ⟨fun _ => ER.sb, ?_⟩; refine da F ER.sb fun a F => ?_; refine da F ER.sb fun a F => ?_; refine d_nil ?_; exact J140 c83 w90 a qa85 t70 A76 C77 A79 C80 (F.sub ⟨rfl, rfl, rfl, rfl, rfl, rfl, rfl, trivial⟩) E B h21 h87 h9 h13 h15 h51 h78 h81 H
   obtain ⟨t70, q71, H⟩ := bind_some H; refine o_eff F rfl rfl rfl (by decide) (e_alloc F zv_36 c65 (m + 5)) ?_; rintro v w94 a ⟨c93, qa85, rfl, E95, h87, B96⟩ F; replace B := B96 _ B lm; replace ER := ER.trans E95 nx; replace h9 := h9.ev E95; replace h13 := h13.ev E95; replace h15 := h15.ev E95; replace h21 := h21.ev E95; replace h51 := h51.ev E95; replace E := E.n E95; replace h87 : AT _ _ _ _ _ [.slice none 0 0, .slice none 0 0, .int .i64 0] := h87; refine ⟨fun _ => ER.sb, ?_⟩; refine d_e ?_; refine oc F Try.func11 (merkle_Check.calls k (m := m + 7) (pl hm0) B h9 h13 h15 _ q71) ?_; rintro e w98 ⟨c97, A101, C102, A104, C105, rfl, E99, B, h103, h106⟩; refine rt fun a F => ?_; replace ER := ER.trans E99 nx; replace h9 := h9.ev E99; replace h13 := h13.ev E99; replace h15 := h15.ev E99; replace h21 := h21.ev E99; replace h51 := h51.ev E99; replace h87 := h87.ev E99; replace E := E.n E99; refine ⟨fun _ => ER.sb, ?_⟩; refine dm F ER.sb fun a F => ?_; refine dq F (fun wq hS => r_extract F rfl rfl) ER.sb fun a F => ?_; refine dq F (fun wq hS => r_extract F rfl rfl) ER.sb fun a F => ?_; refine dq F (fun wq hS => r_extract F rfl rfl) ER.sb fun a F => ?_; refine d_e ?_; refine o_eff0 F rfl rfl rfl (e_storeN0 (us := [.slice A101 t70.1.Key.length C102, .slice A104 t70.1.Value.length C105, .int .i64 t70.1.Rev]) F rfl rfl sz_36 h87 (nb rfl) (one_all rfl)) ?_; rintro w108 a ⟨E109, h87, Z110⟩ F; replace B := B.size Z110; replace ER := ER.trans E109 (fun x q => by replace q : x = m + 5 := q; show x = m + 5; omega); replace h9 := h9.ev E109; replace h13 := h13.ev E109; replace h15 := h15.ev E109; replace h21 := h21.ev E109; replace h51 := h51.ev E109; replace h103 := h103.ev E109; replace h106 := h106.ev E109; replace E := E.trans E109 lc1; replace h87 : AT _ _ _ _ _ [.slice A101 t70.1.Key.length C102, .slice A104 t70.1.Value.length C105, .int .i64 t70.1.Rev] := h87; refine ⟨fun _ => ER.sb, ?_⟩; refine da F ER.sb fun a F => ?_; refine da F ER.sb fun a F => ?_; refine d_nil ?_; exact J140 c97 w108 a qa85 t70 A101 C102 A104 C105 (F.sub ⟨rfl, rfl, rfl, rfl, rfl, rfl, rfl, trivial⟩) E B h21 h87 h9 h13 h15 h51 h103 h106 H
  refine o_eff F rfl rfl rfl (by decide) (e_alloc F zv_36 c46 (m + 5)) ?_; rintro v w112 a ⟨c111, qa85, rfl, E113, h87, B114⟩ F; replace B := B114 _ B lm; replace ER := ER.trans E113 nx; replace h9 := h9.ev E113; replace h13 := h13.ev E113; replace h15 := h15.ev E113; replace h21 := h21.ev E113; replace h51 := h51.ev E113; replace E := E.n E113; replace h87 : AT _ _ _ _ _ [.slice none 0 0, .slice none 0 0, .int .i64 0] := h87; refine ⟨fun _ => ER.sb, ?_⟩; refine d_e ?_; obtain ⟨t63, q64, H⟩ := bind_some H; refine oc F Try.func12 (merkle_Tree_Root.calls (m := m + 7) (pl hm0) B h51 lm ⟨lm, mm⟩ _ q64) ?_; rintro e w116 ⟨c115, rfl, E117, B⟩; refine rt fun a F => ?_; replace ER := ER.trans E117 nx; replace h9 := h9.ev E117; replace h13 := h13.ev E117; replace h15 := h15.ev E117; replace h21 := h21.ev E117; replace h51 := h51.ev E117; replace h87 := h87.ev E117; replace E := E.n E117; refine ⟨fun _ => ER.sb, ?_⟩; refine d_e ?_; obtain ⟨t70, q71, H⟩ := bind_some H; refine oc F Try.func11 (merkle_Check.calls k (m := m + 7) (pl hm0) B h9 h13 h15 _ q71) ?_; rintro e w121 ⟨c120, A124, C125, A127, C128, rfl, E122, B, h126, h129⟩; refine rt fun a F => ?_; replace ER := ER.trans E122 nx; replace h9 := h9.ev E122; replace h13 := h13.ev E122; replace h15 := h15.ev E122; replace h21 := h21.ev E122; replace h51 := h51.ev E122; replace h87 := h87.ev E122; replace E := E.n E122; refine ⟨fun _ => ER.sb, ?_⟩; refine dm F ER.sb fun a F => ?_; refine dq F (fun wq hS => r_extract F rfl rfl) ER.sb fun a F => ?_; refine dq F (fun wq hS => r_extract F rfl rfl) ER.sb fun a F => ?_; refine dq F (fun wq hS => r_extract F rfl rfl) ER.sb fun a F => ?_; refine d_e ?_; refine o_eff0 F rfl rfl rfl (e_storeN0 (us := [.slice A124 t70.1.Key.length C125, .slice A127 t70.1.Value.length C128, .int .i64 t70.1.Rev]) F rfl rfl sz_36 h87 (nb rfl) (one_all rfl)) ?_; rintro w131 a ⟨E132, h87, Z133⟩ F; replace B := B.size Z133; replace ER := ER.trans E132 (fun x q => by replace q : x = m + 5 := q; show x = m + 5; omega); replace h9 := h9.ev E132; replace h13 := h13.ev E132; replace h15 := h15.ev E132; replace h21 := h21.ev E132; replace h51 := h51.ev E132; replace h126 := h126.ev E132; replace h129 := h129.ev E132; replace E := E.trans E132 lc1; replace h87 : AT _ _ _ _ _ [.slice A124 t70.1.Key.length C125, .slice A127 t70.1.Value.length C128, .int .i64 t70.1.Rev] := h87; refine ⟨fun _ => ER.sb, ?_⟩; refine da F ER.sb fun a F => ?_; refine da F ER.sb fun a F => ?_; refine d_nil ?_; exact J140 c120 w131 a qa85 t70 A124 C125 A127 C128 (F.sub ⟨rfl, rfl, rfl, rfl, rfl, rfl, rfl, trivial⟩) E B h21 h87 h9 h13 h15 h51 h126 h129 H
 replace H := im hb33 H; refine wct (fb F (congrArg not (bfalse hb33))) ?_; refine sr fun K34 hK34 => qa F fun a F => nil (hK34 _ _ ?_); refine wp_ret ?_; refine thenR ?_; obtain rfl := si H; refine out1 F rfl rfl ?_; exact ⟨cf (ct m) c28, rfl, E.lv B0, cfb⟩
end Go.Proofs.Ytdnaoecfnjalgaa.G
namespace Go.Proofs.Ytdnaoecfnjalgaa.G
open Go Go.ChangeShapes Go.WideShapes
set_option linter.unusedVariables false
set_option linter.unusedSimpArgs false
theorem bulk_one {H : Type} (d : DataW H) : 1 ≤ Rows.uptoBulk d := by
 cases d with
 | lit l => cases l <;> simp [Rows.uptoBulk]
 | nil => simp [Rows.uptoBulk]
 | ptr d => simp [Rows.uptoBulk]
 | slice elems spare => simp [Rows.uptoBulk]
 | agg parts => simp [Rows.uptoBulk]
 | iface t d => simp [Rows.uptoBulk]
 | map entries => simp [Rows.uptoBulk]
 | held h => simp [Rows.uptoBulk]
theorem bulk_slice {H : Type} (elems spare : List (DataW H)) : Rows.uptoBulkAll elems + 1 ≤ Rows.uptoBulk (.slice elems spare) := by
 simp only [Rows.uptoBulk]
 omega
theorem bulk_agg {H : Type} (parts : List (DataW H)) : Rows.uptoBulkAll parts + 1 ≤ Rows.uptoBulk (.agg parts) := by
 simp only [Rows.uptoBulk]
 omega
theorem bulk_all {H : Type} : ∀ l : List (DataW H), Rows.uptoBulkAll l = (l.map Rows.uptoBulk).sum
 | [] => by simp [Rows.uptoBulkAll]
 | d :: l => by simp [Rows.uptoBulkAll, bulk_all l]
def c0 : Nat → Nat := fun _ => 0
def Opens {α : Type} (P : Program) (w : World) (t : TypeId) (e : K α) (wt : α → Nat) (ok : α → Prop) : Prop :=
 ∀ (H : Type) (enc : TypeId × Value → H) (fuel : Nat) (cs : List Value) (x : DataW H × List MemPlace), DataW.trod enc P w 0 (fun _ => true) true fuel t cs = some x → ∃ y, e.rep 0 c0 w cs y ∧ wt y ≤ Rows.uptoBulk x.1 ∧ ok y
section
variable {α : Type} {P : Program} {w : World} {t u : TypeId} {e : K α} {wt : α → Nat} {ok : α → Prop}
theorem opens_int {k : IntKind} (ht : P.underlying t = some (.int k)) : Opens P w t (Kint k) (fun _ => 1) (fun n => (Lit.int k n).wf = true) := by
 intro H enc fuel cs x h
 obtain ⟨n, rfl, rfl, hw⟩ := DataW.trod_int ht h
 exact ⟨n, rfl, bulk_one _, hw⟩
theorem opens_bool (ht : P.underlying t = some .bool) : Opens P w t Kbool (fun _ => 1) (fun _ => True) := by
 intro H enc fuel cs x h
 obtain ⟨n, rfl, rfl⟩ := DataW.trod_bool ht h
 exact ⟨n, rfl, bulk_one _, trivial⟩
theorem at_cell {p : Addr} {v : Value} (h : w.cell? p = some v) : p = ⟨p.block, p.off, none⟩ ∧ ∃ cur ty fz, w.heap[p.block]? = some (.cells cur ty fz) ∧ cur[p.off]? = some v := by
 obtain ⟨b, off, spot⟩ := p
 simp only [World.cell?] at h
 split at h
 ·rename_i c ty fz hb
  cases spot with
  | some s => simp at h
  | none => exact ⟨rfl, c, ty, fz, hb, by simpa using h⟩
 ·cases h
theorem at_cells {p : Addr} {n : Nat} {cs : List Value} (hn : cs.length = n) (hp : 0 < n) (h : ∀ i, i < n → w.cell? (p.add i) = cs[i]?) : AT false 0 c0 w p cs := by
 have h0 := h 0 hp
 have e0 : p.add 0 = p := by simp [Addr.add]
 rw [e0, List.getElem?_eq_getElem (by omega)] at h0
 obtain ⟨ep, cur, ty, fz, hb, hc⟩ := at_cell h0
 refine ⟨p.block, p.off, cur, ty, fz, ep, hb, rfl, fun k hk => ?_, fun q => by cases q⟩
 have hk' := h k (by omega)
 rw [ep, add_eq] at hk'
 simp only [World.cell?, hb] at hk'
 simpa using hk'
theorem sum_le {β γ : Type} (f : β → Nat) (g : γ → Nat) : ∀ (l : List β) (m : List γ), l.length = m.length → (∀ i (h : i < l.length) (h' : i < m.length), f l[i] ≤ g m[i]) → (l.map f).sum ≤ (m.map g).sum
 | [], [], _, _ => Nat.le_refl _
 | [], _ :: _, h, _ => by simp at h
 | _ :: _, [], h, _ => by simp at h
 | a :: l, b :: m, h, hh => by
  simp only [List.map_cons, List.sum_cons]
  have h0 := hh 0 (by simp) (by simp)
  simp only [List.getElem_cons_zero] at h0
  have := sum_le f g l m (by simpa using h) (fun i h1 h2 => by
   have := hh (i + 1) (by simp; omega) (by simp; omega)
   simpa using this)
  omega
theorem open_sl [Inhabited α] (ht : P.underlying t = some (.slice u)) (hc : P.cellsOf u = e.sz) (hu : Opens P w u e wt ok) {H : Type} {enc : TypeId × Value → H} {fuel : Nat} {cs : List Value} {x : DataW H × List MemPlace}
  (h : DataW.trod enc P w 0 (fun _ => true) true fuel t cs = some x) :
  ∃ A cap xs, cs = [.slice A xs.length cap] ∧ SL false e 0 0 c0 w A cap xs ∧ (xs.map wt).sum + 1 ≤ Rows.uptoBulk x.1 ∧ ∀ y ∈ xs, ok y := by
 rcases Deep.open_slice ht h with ⟨rfl, rfl⟩ | ⟨a, len, cap, m, n, D, Pl, rfl, _, hl, hm, hmm, rfl, hx⟩
 ·exact ⟨none, 0, [], rfl, SL.nil, by simp [Rows.uptoBulk], fun y hy => by cases hy⟩
 simp only [if_true] at hmm
 subst hmm
 have hp := e.pos
 rw [hc] at hx
 have each : ∀ i, i < m → ∃ y : List Value × α, (y.1.length = e.sz ∧ ∀ k, k < e.sz → w.cell? ((a.add (i * e.sz)).add k) = y.1[k]?) ∧ e.rep 0 c0 w y.1 y.2 ∧ wt y.2 ≤ Rows.uptoBulk (D i) ∧ ok y.2 := by
  intro i hi
  obtain ⟨cs', h1, h2⟩ := hx i hi
  obtain ⟨_, g1, g2⟩ := World.cells?_some h1
  obtain ⟨y, g3, g4, g5⟩ := hu H enc n cs' _ h2
  exact ⟨(cs', y), ⟨g1, g2⟩, g3, g4, g5⟩
 obtain ⟨y, hy⟩ := Deep.choose_lt each
 let V : Nat → Value := fun q => (y (q / e.sz)).1.getD (q % e.sz) default
 have hV : ∀ i k, k < e.sz → V (i * e.sz + k) = (y i).1.getD k default := by
  intro i k hk
  show (y ((i * e.sz + k) / e.sz)).1.getD ((i * e.sz + k) % e.sz) default = _
  rw [Nat.mul_comm, Nat.mul_add_div hp, Nat.div_eq_of_lt hk, Nat.add_zero, Nat.mul_add_mod, Nat.mod_eq_of_lt hk]
 let cs := (List.range (m * e.sz)).map V
 have hcs : cs.length = m * e.sz := by simp [cs]
 have hcell : ∀ q, q < m * e.sz → w.cell? (a.add q) = cs[q]? := by
  intro q hq
  have hi : q / e.sz < m := (Nat.div_lt_iff_lt_mul hp).2 hq
  have hk : q % e.sz < e.sz := Nat.mod_lt _ hp
  obtain ⟨⟨g1, g2⟩, _⟩ := hy _ hi
  have g := g2 _ hk
  have e1 : (a.add (q / e.sz * e.sz)).add (q % e.sz) = a.add q := by
   have e2 : q / e.sz * e.sz + q % e.sz = q := Nat.div_add_mod' q e.sz
   obtain ⟨b, off, s⟩ := a
   simp only [Addr.add]
   split <;> split <;> split <;> simp_all <;> omega
  rw [e1] at g
  rw [g]
  simp only [cs, List.getElem?_map, List.getElem?_range hq, Option.map_some]
  show _ = some ((y (q / e.sz)).1.getD (q % e.sz) default)
  rw [List.getD_eq_getElem?_getD, List.getElem?_eq_getElem (by omega)]
  rfl
 refine ⟨some a, m, (List.range len).map fun i => (y i).2, by simp, ⟨cs, by simpa using hl, hm, hcs, ?_, fun n hn => ?_⟩, ?_, ?_⟩
 ·rcases Nat.eq_zero_or_pos (m * e.sz) with q | q
  ·left; exact List.length_eq_zero_iff.1 (by omega)
  ·right; exact ⟨a, rfl, at_cells hcs q hcell⟩
 ·simp only [List.length_map, List.length_range] at hn
  obtain ⟨⟨g1, _⟩, g3, _, _⟩ := hy n (by omega)
  have e1 : (cs.drop (n * e.sz)).take e.sz = (y n).1 := by
   apply List.ext_getElem?
   intro k
   by_cases hk : k < e.sz
   ·have hq : n * e.sz + k < m * e.sz := by
     have : (n + 1) * e.sz ≤ m * e.sz := Nat.mul_le_mul_right _ (by omega)
     rw [Nat.succ_mul] at this; omega
    rw [List.getElem?_take_of_lt hk, List.getElem?_drop]
    simp only [cs, List.getElem?_map, List.getElem?_range hq, Option.map_some]
    rw [hV n k hk, List.getD_eq_getElem?_getD, List.getElem?_eq_getElem (by omega)]
    rfl
   ·rw [List.getElem?_eq_none (by simp; omega), List.getElem?_eq_none (by omega)]
  rw [e1]
  simpa using g3
 ·refine Nat.le_trans (Nat.succ_le_succ ?_) (bulk_slice _ _)
  rw [bulk_all]
  rw [List.map_map, List.map_map]
  have := sum_le (fun i => wt (y i).2) (fun i => Rows.uptoBulk (D i)) (List.range len) (List.range len) rfl (fun i h1 h2 => by
   simp only [List.length_range] at h1
   simp only [List.getElem_range]
   exact (hy i (by omega)).2.2.1)
  exact this
 ·intro z hz
  obtain ⟨i, hi, rfl⟩ := List.mem_map.1 hz
  exact (hy i (by have := List.mem_range.1 hi; omega)).2.2.2
theorem opens_slice [Inhabited α] (ht : P.underlying t = some (.slice u)) (hc : P.cellsOf u = e.sz) (hu : Opens P w u e wt ok) : Opens P w t (Kslice e) (fun xs => (xs.map wt).sum + 1) (fun xs => ∀ y ∈ xs, ok y) := by
 intro H enc fuel cs x h
 obtain ⟨A, cap, xs, h1, h2, h3, h4⟩ := open_sl ht hc hu h
 exact ⟨xs, ⟨A, cap, h1, h2⟩, h3, h4⟩
end
end Go.Proofs.Ytdnaoecfnjalgaa.G
namespace Go.Proofs.Ytdnaoecfnjalgaa.G
open Go Go.ChangeShapes Go.WideShapes
set_option linter.unusedVariables false
theorem row_own : ownKnob Try.prog.godebug = none := by kernel_rfl
theorem row_laidOut : laidOutB Try.prog = true := by kernel_rfl
def intok (n : Int) : Prop := (Lit.int .i64 n).wf = true
theorem intok.range {n : Int} (h : intok n) : -9223372036854775808 ≤ n ∧ n ≤ 9223372036854775807 := by simpa [intok, Lit.wf, IntKind.min, IntKind.max, IntKind.signed, IntKind.bits] using h
def byteok (n : Int) : Prop := (Lit.int .u8 n).wf = true
def bytesok (xs : List Int) : Prop := ∀ n ∈ xs, byteok n
theorem byteok.range {n : Int} (h : byteok n) : 0 ≤ n ∧ n ≤ 255 := by simpa [byteok, Lit.wf, IntKind.min, IntKind.max, IntKind.signed, IntKind.bits] using h
theorem sum_one {α : Type} (xs : List α) : (xs.map fun _ => 1).sum = xs.length := by
 induction xs with
 | nil => rfl
 | cons x xs ih => simp [ih]; omega
theorem mem_sum {α : Type} (f : α → Nat) : ∀ {xs : List α} {x : α}, x ∈ xs → f x ≤ (xs.map f).sum
 | y :: xs, x, h => by
  rcases List.mem_cons.1 h with e | h
  ·subst e; simp
  ·have := mem_sum f h; simp only [List.map_cons, List.sum_cons]; omega
theorem len_sum {α : Type} (f : α → Nat) (hf : ∀ x, 1 ≤ f x) : ∀ xs : List α, xs.length ≤ (xs.map f).sum
 | [] => Nat.le_refl _
 | x :: xs => by have := len_sum f hf xs; have := hf x; simp only [List.map_cons, List.sum_cons, List.length_cons]; omega
theorem cells_3 : Try.prog.cellsOf 3 = 1 := by kernel_rfl
theorem cells_4 : Try.prog.cellsOf 4 = 1 := by kernel_rfl
theorem cells_5 : Try.prog.cellsOf 5 = 1 := by kernel_rfl
theorem cells_23 : Try.prog.cellsOf 23 = 1 := by kernel_rfl
theorem cells_36 : Try.prog.cellsOf 36 = 3 := by kernel_rfl
theorem cells_69 : Try.prog.cellsOf 69 = 4 := by kernel_rfl
theorem opens_bytes {w : World} : Opens Try.prog w 23 (Kslice (Kint .u8)) (fun xs => xs.length + 1) bytesok := by
 intro H enc fuel cs x h
 obtain ⟨y, h1, h2, h3⟩ := opens_slice (e := Kint .u8) Try.underlying23 cells_5 (opens_int Try.underlying5) H enc fuel cs x h
 have h2' : (y.map fun _ => 1).sum + 1 ≤ Rows.uptoBulk x.1 := h2
 rw [sum_one] at h2'
 exact ⟨y, h1, h2', h3⟩
abbrev wt_api_Row (o : api_Row) : Nat := o.Key.length + o.Value.length + 1
def ok_api_Row (o : api_Row) : Prop := bytesok o.Key ∧ bytesok o.Value ∧ intok o.Rev
set_option maxRecDepth 100000 in
theorem opens_api_Row {w : World} : Opens Try.prog w 36 K_api_Row wt_api_Row ok_api_Row := by
 intro H enc fuel cs x h
 obtain ⟨xs, n, rfl, rfl, hl, hxl, hf⟩ := DataW.trod_struct Try.underlying36 h
 rw [cells_36] at hl
 match cs, hl with
 | [v0, v1, v2], _ =>
  match xs, hxl with
  | [x0, x1, x2], _ =>
   have g0 : DataW.trod enc Try.prog w 0 (fun _ => true) true n 23 (([v0, v1, v2].drop 0).take (Try.prog.cellsOf 23)) = some x0 := hf 0 _ rfl
   rw [cells_23] at g0
   replace g0 : DataW.trod enc Try.prog w 0 (fun _ => true) true n 23 [v0] = some x0 := g0
   obtain ⟨y0, ⟨A0, C0, e0, s0⟩, b0, k0⟩ := opens_bytes (w := w) H enc n _ _ g0
   have g1 : DataW.trod enc Try.prog w 0 (fun _ => true) true n 23 (([v0, v1, v2].drop 1).take (Try.prog.cellsOf 23)) = some x1 := hf 1 _ rfl
   rw [cells_23] at g1
   replace g1 : DataW.trod enc Try.prog w 0 (fun _ => true) true n 23 [v1] = some x1 := g1
   obtain ⟨y1, ⟨A1, C1, e1, s1⟩, b1, k1⟩ := opens_bytes (w := w) H enc n _ _ g1
   have g2 : DataW.trod enc Try.prog w 0 (fun _ => true) true n 3 (([v0, v1, v2].drop 2).take (Try.prog.cellsOf 3)) = some x2 := hf 2 _ rfl
   rw [cells_3] at g2
   replace g2 : DataW.trod enc Try.prog w 0 (fun _ => true) true n 3 [v2] = some x2 := g2
   obtain ⟨y2, r2, -, k2⟩ := opens_int (w := w) Try.underlying3 H enc n _ _ g2
   obtain rfl := List.head_eq_of_cons_eq e0
   obtain rfl := List.head_eq_of_cons_eq e1
   obtain rfl : v2 = .int .i64 y2 := List.head_eq_of_cons_eq r2
   refine ⟨⟨y0, y1, y2⟩, ⟨A0, C0, A1, C1, rfl, s0, s1⟩, ?_, ⟨k0, k1, k2⟩⟩
   refine Nat.le_trans ?_ (bulk_agg _)
   simp only [List.map_cons, List.map_nil, Rows.uptoBulkAll]
   have q0 : y0.length + 1 ≤ Rows.uptoBulk x0.1 := b0
   have q1 : y1.length + 1 ≤ Rows.uptoBulk x1.1 := b1
   have q2 := bulk_one x2.1
   show y0.length + y1.length + 1 ≤ _
   omega
theorem wt_api_Row_pos (o : api_Row) : 1 ≤ wt_api_Row o := by unfold wt_api_Row; omega
abbrev wt_haulagelaw10_Change (o : haulagelaw10_Change) : Nat := wt_api_Row o.Row + 1
def ok_haulagelaw10_Change (o : haulagelaw10_Change) : Prop := ok_api_Row o.Row
set_option maxRecDepth 100000 in
theorem opens_haulagelaw10_Change {w : World} : Opens Try.prog w 69 K_haulagelaw10_Change wt_haulagelaw10_Change ok_haulagelaw10_Change := by
 intro H enc fuel cs x h
 obtain ⟨xs, n, rfl, rfl, hl, hxl, hf⟩ := DataW.trod_struct Try.underlying69 h
 rw [cells_69] at hl
 match cs, hl with
 | [v0, v1, v2, v3], _ =>
  match xs, hxl with
  | [x0, x1], _ =>
   have g0 : DataW.trod enc Try.prog w 0 (fun _ => true) true n 36 (([v0, v1, v2, v3].drop 0).take (Try.prog.cellsOf 36)) = some x0 := hf 0 _ rfl
   rw [cells_36] at g0
   replace g0 : DataW.trod enc Try.prog w 0 (fun _ => true) true n 36 [v0, v1, v2] = some x0 := g0
   obtain ⟨y0, ⟨m0_0, m0_1, m0_2, m0_3, e0, s0_0, s0_1⟩, b0, k0⟩ := opens_api_Row (w := w) H enc n _ _ g0
   have g1 : DataW.trod enc Try.prog w 0 (fun _ => true) true n 4 (([v0, v1, v2, v3].drop 3).take (Try.prog.cellsOf 4)) = some x1 := hf 1 _ rfl
   rw [cells_4] at g1
   replace g1 : DataW.trod enc Try.prog w 0 (fun _ => true) true n 4 [v3] = some x1 := g1
   obtain ⟨y1, r1, -, -⟩ := opens_bool (w := w) Try.underlying4 H enc n _ _ g1
   simp only [List.cons.injEq, and_true] at e0
   obtain ⟨rfl, rfl, rfl⟩ := e0
   obtain rfl : v3 = .bool y1 := List.head_eq_of_cons_eq r1
   refine ⟨⟨y0, y1⟩, ⟨m0_0, m0_1, m0_2, m0_3, rfl, s0_0, s0_1⟩, ?_, k0⟩
   refine Nat.le_trans ?_ (bulk_agg _)
   simp only [List.map_cons, List.map_nil, Rows.uptoBulkAll]
   have q0 : wt_api_Row y0 ≤ Rows.uptoBulk x0.1 := b0
   have q1 := bulk_one x1.1
   show wt_api_Row y0 + 1 ≤ _
   omega
theorem wt_haulagelaw10_Change_pos (o : haulagelaw10_Change) : 1 ≤ wt_haulagelaw10_Change o := by unfold wt_haulagelaw10_Change; omega
theorem arg_changes {H : Type} {enc : TypeId × Value → H} {w : World} {v : Value} {d : DataW H} {p : List MemPlace} (hv : ∃ a len cap, v = .slice a len cap) (h : DataW.Trod enc Try.prog w 0 (fun _ => true) true 22 v d p) :
  ∃ A C xs, v = .slice A xs.length C ∧ SL false K_haulagelaw10_Change 0 0 c0 w A C xs ∧ (xs.map wt_haulagelaw10_Change).sum + 1 ≤ Rows.uptoBulk d ∧ ∀ o ∈ xs, ok_haulagelaw10_Change o := by
 obtain ⟨a, len, cap, rfl⟩ := hv
 obtain ⟨fuel, hf⟩ := h
 obtain ⟨A, C, xs, e, h1, h2, h3⟩ := open_sl (e := K_haulagelaw10_Change) Try.underlying22 cells_69 opens_haulagelaw10_Change hf
 refine ⟨A, C, xs, ?_, h1, h2, h3⟩
 have e' : [Value.slice a len cap] = [.slice A xs.length C] := e
 exact List.head_eq_of_cons_eq e'
theorem arg_key {H : Type} {enc : TypeId × Value → H} {w : World} {v : Value} {d : DataW H} {p : List MemPlace} (hv : ∃ a len cap, v = .slice a len cap) (h : DataW.Trod enc Try.prog w 0 (fun _ => true) true 23 v d p) :
  ∃ A C xs, v = .slice A xs.length C ∧ SL false (Kint .u8) 0 0 c0 w A C xs ∧ (xs.map (fun _ => 1)).sum + 1 ≤ Rows.uptoBulk d ∧ ∀ o ∈ xs, (fun n => (Lit.int .u8 n).wf = true) o := by
 obtain ⟨a, len, cap, rfl⟩ := hv
 obtain ⟨fuel, hf⟩ := h
 obtain ⟨A, C, xs, e, h1, h2, h3⟩ := open_sl (e := (Kint .u8)) Try.underlying23 cells_5 (opens_int Try.underlying5) hf
 refine ⟨A, C, xs, ?_, h1, h2, h3⟩
 have e' : [Value.slice a len cap] = [.slice A xs.length C] := e
 exact List.head_eq_of_cons_eq e'
end Go.Proofs.Ytdnaoecfnjalgaa.G
namespace Go.Proofs.Ytdnaoecfnjalgaa.G
open Go
set_option linter.unusedVariables false
set_option linter.unusedSimpArgs false
theorem wr {n : Int} (h0 : -1000000000000000000 ≤ n) (h1 : n ≤ 1000000000000000000) : IntKind.i64.wrap n = n := by rw [IntKind.wrap_i64]; omega
theorem loop_next {S X : Type} {f : S → Option (Ctl S X)} {n : Nat} {s s' : S} (h : f s = some (.next s')) : loop f (n + 1) s = loop f n s' := by
 show (f s).bind _ = _; rw [h]; rfl
theorem loop_done {S X : Type} {f : S → Option (Ctl S X)} {n : Nat} {s : S} {x : X} (h : f s = some (.done x)) : loop f (n + 1) s = some x := by
 show (f s).bind _ = _; rw [h]; rfl
abbrev Fuel (k : Nat) : Prop := 1099511627776 ≤ k
theorem bind_eq {α β : Type} {x : Option α} {f : α → Option β} {a : α} (h : x = some a) : x.bind f = f a := by rw [h]; rfl
theorem shr7u (n : Nat) : shr .u64 (n : Int) 7 = ((n / 128 : Nat) : Int) := by
 unfold shr
 have : (2 : Int) ^ (min (7 : Int).toNat IntKind.u64.bits) = 128 := by decide
 rw [this, Int.fdiv_eq_ediv_of_nonneg _ (by omega)]
 omega
def nmF : Nat → Nat → Nat
 | 0, _ => 0
 | f + 1, n => if n ≤ 127 then 0 else nmF f (n / 128) + 1
theorem nmF_le : ∀ f n, nmF f n ≤ f
 | 0, _ => Nat.le_refl _
 | f + 1, n => by
  have := nmF_le f (n / 128)
  unfold nmF; split <;> omega
theorem rd_eq {α : Type} [Inhabited α] {xs : List α} {i : Nat} (h : i < xs.length) : rd xs (i : Int) = xs[i] := by
 unfold rd
 rw [Int.toNat_natCast, List.getD_eq_getElem?_getD, List.getElem?_eq_getElem h]
 rfl
theorem take_one {α : Type} {xs : List α} {i : Nat} (h : i < xs.length) : xs.take (i + 1) = xs.take i ++ [xs[i]] := by
 rw [List.take_add_one, List.getElem?_eq_getElem h]; rfl
theorem wrS (i : Nat) (h : i < 1000000000000) : IntKind.i64.wrap ((i : Int) + 1) = ((i + 1 : Nat) : Int) := by rw [wr (by omega) (by omega)]; omega
theorem loop_inv {S X : Type} {f : S → Option (Ctl S X)} {I : Nat → S → Prop} {P : X → Prop} {N : Nat}
  (step : ∀ i s, i < N → I i s → (∃ s', f s = some (.next s') ∧ I (i + 1) s') ∨ (∃ x, f s = some (.done x) ∧ P x))
  (last : ∀ s, I N s → ∃ x, f s = some (.done x) ∧ P x) : ∀ (n i : Nat) (s : S) (m : Nat), I i s → i + n = N → n < m → ∃ x, loop f m s = some x ∧ P x
 | _, _, _, 0, _, _, h => absurd h (by omega)
 | 0, i, s, m + 1, hI, hN, _ => by
  obtain rfl : i = N := by omega
  obtain ⟨x, h1, h2⟩ := last s hI
  exact ⟨x, loop_done h1, h2⟩
 | n + 1, i, s, m + 1, hI, hN, hm => by
  rcases step i s (by omega) hI with ⟨s', h1, h2⟩ | ⟨x, h1, h2⟩
  ·rw [loop_next h1]
   exact loop_inv step last n (i + 1) s' m h2 (by omega) (by omega)
  ·exact ⟨x, loop_done h1, h2⟩
def fmP : Nat → Nat → List Int
 | 0, _ => []
 | f + 1, n => if n ≤ 127 then [] else bor .u8 (IntKind.u8.wrap n) 128 :: fmP f (n / 128)
def fmL : Nat → Nat → Nat
 | 0, n => n
 | f + 1, n => if n ≤ 127 then n else fmL f (n / 128)
theorem fmP_len : ∀ f n, (fmP f n).length = nmF f n
 | 0, _ => rfl
 | f + 1, n => by
  unfold fmP nmF
  split
  ·rfl
  ·rw [List.length_cons, fmP_len f]
theorem form_loop : ∀ (f n k : Nat) (l : List Int), n < 128 ^ f → f < k → l.length + f < 1000 → loop (fun (s_ : Int × List Int) => parcel_form.b1 s_.1 s_.2) k ((n : Int), l) = some ((fmL f n : Int), l ++ fmP f n)
 | _, _, 0, _, _, h, _ => absurd h (by omega)
 | 0, n, k + 1, l, h, _, _ => by
  have : n = 0 := by simpa using h
  subst this
  rw [loop_done (x := ((0 : Int), l))]
  ·simp [fmP, fmL]
  ·simp [parcel_form.b1]
 | f + 1, n, k + 1, l, h, hk, hs => by
  by_cases c : n ≤ 127
  ·rw [loop_done (x := ((n : Int), l))]
   ·simp [fmP, fmL, c]
   ·unfold parcel_form.b1; rw [if_neg (by omega)]
  ·have hd : n / 128 < 128 ^ f := by rw [Nat.pow_succ] at h; omega
   rw [loop_next (s' := (((n / 128 : Nat) : Int), l ++ [bor .u8 (IntKind.u8.wrap n) 128]))]
   ·rw [form_loop f (n / 128) k _ hd (by omega) (by simp; omega)]
    simp [fmP, fmL, c]
   ·unfold parcel_form.b1
    rw [if_pos (by omega), if_pos (by simp; omega), shr7u]
theorem wru {n : Int} (h0 : 0 ≤ n) (h1 : n < 9223372036854775808) : IntKind.u64.wrap n = n := by
 simp only [IntKind.wrap, IntKind.bits, IntKind.signed]; simp; omega
abbrev W (room : Int) (b : List Int) : Option Wri := some ⟨room, b, [], 0⟩
theorem lay_eq {room : Int} {b a : List Int} (h1 : (b.length + a.length : Nat) ≤ room) (h2 : room ≤ 1000000000000) : parcel_Writer_lay.f (W room b) a = some (W room (b ++ a)) := by
 unfold parcel_Writer_lay.f parcel_Writer_whole.f
 simp only [Option.isNone_some, Bool.false_eq_true, if_false, Option.bind_some, decide_true, if_true]
 rw [wr (by omega) (by omega), if_neg (by omega), if_pos (by omega)]
theorem concat_eq {k : Nat} (hk : Fuel k) {x y : List Int} (h : x.length + y.length < 2000000000000) : slices_Concat.f k [x, y] = some (x ++ y) := by
 have h24 : 1099511627776 ≤ k := hk
 obtain ⟨q, rfl⟩ : ∃ q, k = q + 1 + 1 + 1 := ⟨k - 3, by omega⟩
 unfold slices_Concat.f
 have e1 : loop (fun (s_ : Int × Int) => slices_Concat.b1 [x, y] s_.1 s_.2) (q + 1 + 1 + 1) (0, 0) = some ((x.length + y.length : Nat) : Int) := by
  rw [loop_next (s' := ((x.length : Int), (1 : Int)))]
  ·rw [loop_next (s' := (((x.length + y.length : Nat) : Int), (2 : Int)))]
   ·refine loop_done ?_
    simp [slices_Concat.b1]
   ·have r1 : rd [x, y] 1 = y := rfl
    have w1 : IntKind.i64.wrap ((x.length : Int) + (y.length : Int)) = ((x.length + y.length : Nat) : Int) := by rw [wr (by omega) (by omega)]; omega
    unfold slices_Concat.b1
    simp only [r1, w1]
    rw [if_pos (by simp), if_pos (by simp), if_neg (by omega)]
    rfl
  ·have r1 : rd [x, y] 0 = x := rfl
   have w1 : IntKind.i64.wrap (0 + (x.length : Int)) = (x.length : Int) := by rw [wr (by omega) (by omega)]; omega
   unfold slices_Concat.b1
   simp only [r1, w1]
   rw [if_pos (by simp), if_pos (by simp), if_neg (by omega)]
   rfl
 rw [bind_eq e1]
 unfold slices_Concat.j2
 have e2 : slices_Grow.f [] ((x.length + y.length : Nat) : Int) = some [] := by
  unfold slices_Grow.f; rw [if_pos ⟨by omega, by omega, rfl⟩]
 rw [bind_eq e2]
 have e3 : loop (fun (s_ : (List Int) × Int) => slices_Concat.b3 [x, y] s_.1 s_.2) (q + 1 + 1 + 1) ([], 0) = some (x ++ y) := by
  rw [loop_next (s' := (x, (1 : Int)))]
  ·rw [loop_next (s' := (x ++ y, (2 : Int)))]
   ·refine loop_done ?_
    simp [slices_Concat.b3]
   ·have r1 : rd [x, y] 1 = y := rfl
    unfold slices_Concat.b3
    simp only [r1]
    rw [if_pos (by simp), if_pos (by simp), if_pos (by omega)]
    rfl
  ·have r1 : rd [x, y] 0 = x := rfl
   unfold slices_Concat.b3
   simp only [r1]
   rw [if_pos (by simp), if_pos (by simp), if_pos (by simp; omega)]
   rfl
 rw [bind_eq e3]
 rfl
theorem done_eq {room : Int} {b : List Int} (h : b.length ≤ 1000000000000) : parcel_Writer_Done.f (W room b) = some (b, 0) := by
 unfold parcel_Writer_Done.f
 simp only [Option.isNone_some, Bool.false_eq_true, if_false, Option.bind_some, if_true, List.length_nil]
 rw [if_neg (by omega), if_pos (by omega)]
 simp
theorem u64_range (x : Int) : ∃ n : Nat, IntKind.u64.wrap x = (n : Int) ∧ n < 18446744073709551616 := by
 refine ⟨(IntKind.u64.wrap x).toNat, ?_, ?_⟩ <;> simp only [IntKind.wrap, IntKind.bits, IntKind.signed] <;> simp <;> omega
theorem down_tot {k : Nat} (hk : Fuel k) (x : Int) : ∃ l, parcel_downuint64.f k (List.replicate 8 (0 : Int)) x = some l ∧ l.length = 8 := by
 have h24 : 1099511627776 ≤ k := hk
 unfold parcel_downuint64.f
 have L := loop_inv (f := fun (s_ : (List Int) × Int × Int) => parcel_downuint64.b1 (List.replicate 8 (0 : Int)) s_.1 s_.2.1 s_.2.2) (I := fun i s => s.1.length = 8 ∧ s.2.2 = (i : Int)) (P := fun l => l.length = 8) (N := 8) ?_ ?_ 8 0 (List.replicate 8 (0 : Int), x, 0) k ⟨rfl, rfl⟩ rfl (by omega)
 ·obtain ⟨l, e, h⟩ := L
  rw [bind_eq e]
  exact ⟨l, by unfold parcel_downuint64.j2; rw [if_pos (by rw [h]; rfl)], h⟩
 ·rintro i ⟨l, y, j⟩ hi ⟨hl, hj⟩
  left
  simp only at hj hl; subst hj
  simp only [parcel_downuint64.b1]
  rw [if_pos (by simp; omega), if_pos (by omega), wrS i (by omega)]
  exact ⟨_, rfl, by simpa using hl, rfl⟩
 ·rintro ⟨l, y, j⟩ ⟨hl, hj⟩
  simp only at hj hl; subst hj
  simp only [parcel_downuint64.b1]
  rw [if_neg (by simp)]
  exact ⟨_, rfl, hl⟩
def brange (xs : List Int) : Prop := ∀ n ∈ xs, 0 ≤ n ∧ n ≤ 255
def cm : List Int → List Int → Bool
 | [], [] => false
 | [], _ :: _ => true
 | _ :: _, [] => false
 | a :: x, b :: y => if a = b then cm x y else decide (a < b)
theorem comes_loop (a b : List Int) (ha : a.length < 4000000) : ∀ (n i m : Nat), i + n = a.length → n < m → i ≤ b.length →
  (∃ x, loop (fun (s_ : Int) => haulagelaw10_comes.b2 a b s_) m (i : Int) = some x ∧ (match x with | .inl _ => haulagelaw10_comes.j3 a b | .inr q => some q) = some (cm (a.drop i) (b.drop i)))
 | _, _, 0, _, h, _ => absurd h (by omega)
 | 0, i, m + 1, h, _, hb => by
  refine ⟨Sum.inl (), loop_done ?_, ?_⟩
  ·unfold haulagelaw10_comes.b2 haulagelaw10_comes.j1
   rw [if_neg (by omega), if_neg (by simp)]
  ·show haulagelaw10_comes.j3 a b = _
   unfold haulagelaw10_comes.j3
   rw [List.drop_of_length_le (by omega)]
   congr 1
   by_cases c : i < b.length
   ·rw [List.drop_eq_getElem_cons c, decide_eq_true (by omega)]; rfl
   ·rw [List.drop_of_length_le (by omega), decide_eq_false (by omega)]; rfl
 | n + 1, i, m + 1, h, hm, hb => by
  have hi : i < a.length := by omega
  rw [List.drop_eq_getElem_cons hi]
  by_cases c : i < b.length
  ·rw [List.drop_eq_getElem_cons c]
   by_cases e : a[i] = b[i]
   ·rw [loop_next (s' := ((i + 1 : Nat) : Int))]
    ·have := comes_loop a b ha n (i + 1) m (by omega) (by omega) (by omega)
     simp only [cm, e, if_true]
     exact this
    ·unfold haulagelaw10_comes.b2 haulagelaw10_comes.j1
     rw [if_pos (by omega), if_pos (by simp; omega), if_pos (by omega), if_pos (by omega), rd_eq hi, rd_eq c, if_pos e, wrS i (by omega)]
   ·refine ⟨Sum.inr (decide (a[i] < b[i])), loop_done ?_, ?_⟩
    ·unfold haulagelaw10_comes.b2 haulagelaw10_comes.j1
     rw [if_pos (by omega), if_pos (by simp; omega), if_pos (by omega), if_pos (by omega), rd_eq hi, rd_eq c, if_neg e, if_pos (by omega), if_pos (by omega)]
    ·simp only [cm, if_neg e]
  ·refine ⟨Sum.inl (), loop_done ?_, ?_⟩
   ·unfold haulagelaw10_comes.b2 haulagelaw10_comes.j1
    rw [if_pos (by omega), if_neg (by simp; omega)]
   ·show haulagelaw10_comes.j3 a b = _
    unfold haulagelaw10_comes.j3
    rw [List.drop_of_length_le (show b.length ≤ i by omega)]
    congr 1
    rw [decide_eq_false (by omega)]; rfl
theorem comes_eq {k : Nat} (hk : Fuel k) (a b : List Int) (ha : a.length < 4000000) : haulagelaw10_comes.f k a b = some (cm a b) := by
 have h24 : 1099511627776 ≤ k := hk
 obtain ⟨x, e, h⟩ := comes_loop a b ha a.length 0 k (by omega) (by omega) (Nat.zero_le _)
 unfold haulagelaw10_comes.f
 rw [show (0 : Int) = ((0 : Nat) : Int) from rfl, bind_eq e]
 rw [List.drop_zero, List.drop_zero] at h
 cases x <;> exact h
theorem same_loop (a b : List Int) (hl : a.length = b.length) : ∀ (n i m : Nat), i + n = a.length → n < m → a.length < 4000000000 →
  loop (fun (s_ : Int) => haulagelaw10_same.b1 a b s_) m (i : Int) = some (if a.drop i = b.drop i then Sum.inl () else Sum.inr false)
 | _, _, 0, _, h, _ => absurd h (by omega)
 | 0, i, m + 1, h, _, _ => by
  refine loop_done ?_
  unfold haulagelaw10_same.b1
  rw [if_neg (by omega), if_pos]
  rw [List.drop_of_length_le (by omega), List.drop_of_length_le (by omega)]
 | n + 1, i, m + 1, h, hm, hb => by
  have hi : i < a.length := by omega
  have hj : i < b.length := by omega
  rw [List.drop_eq_getElem_cons hi, List.drop_eq_getElem_cons hj]
  by_cases c : a[i] = b[i]
  ·rw [loop_next (s' := ((i + 1 : Nat) : Int)), same_loop a b hl n (i + 1) m (by omega) (by omega) hb]
   ·simp only [c, List.cons.injEq, true_and]
   ·unfold haulagelaw10_same.b1
    rw [if_pos (by omega), if_pos (by omega), if_pos (by omega), rd_eq hi, rd_eq hj, if_pos c, wrS i (by omega)]
  ·rw [if_neg (by simp only [List.cons.injEq, c, false_and, not_false_eq_true])]
   refine loop_done ?_
   unfold haulagelaw10_same.b1
   rw [if_pos (by omega), if_pos (by omega), if_pos (by omega), rd_eq hi, rd_eq hj, if_neg c]
theorem same_eq {k : Nat} (hk : Fuel k) (a b : List Int) (h : a.length < 4000000000 ∨ b.length < 4000000000) : haulagelaw10_same.f k a b = some (decide (a = b)) := by
 have h24 : 1099511627776 ≤ k := hk
 unfold haulagelaw10_same.f
 by_cases c : a.length = b.length
 ·rw [if_pos (by omega), show (0 : Int) = ((0 : Nat) : Int) from rfl, bind_eq (same_loop a b c a.length 0 k (by omega) (by omega) (by omega))]
  simp only [List.drop_zero]
  by_cases e : a = b
  ·simp [e, haulagelaw10_same.j2]
  ·simp [e]
 ·rw [if_neg (by omega), decide_eq_false (fun e => c (by rw [e]))]
theorem cm_irr : ∀ a : List Int, cm a a = false
 | [] => rfl
 | a :: x => by simp only [cm, if_true]; exact cm_irr x
theorem cm_tr : ∀ {a b c : List Int}, cm a b = true → cm b c = true → cm a c = true
 | [], [], _, h, _ => by cases h
 | [], _ :: _, [], _, h => by simp [cm] at h
 | [], _ :: _, _ :: _, _, _ => rfl
 | _ :: _, [], _, h, _ => by simp [cm] at h
 | _ :: _, _ :: _, [], _, h => by simp [cm] at h
 | a :: x, b :: y, c :: z, h1, h2 => by
  simp only [cm] at h1 h2 ⊢
  by_cases e1 : a = b
  ·subst e1
   rw [if_pos rfl] at h1
   by_cases e2 : a = c
   ·subst e2
    rw [if_pos rfl] at h2 ⊢
    exact cm_tr h1 h2
   ·rw [if_neg e2] at h2 ⊢; exact h2
  ·rw [if_neg e1] at h1
   by_cases e2 : b = c
   ·subst e2; rw [if_neg e1]; exact h1
   ·rw [if_neg e2] at h2
    simp only [decide_eq_true_eq] at h1 h2
    rw [if_neg (by omega)]
    simp only [decide_eq_true_eq]; omega
theorem cm_tri : ∀ {a b : List Int}, cm a b = false → cm b a = false → a = b
 | [], [], _, _ => rfl
 | [], _ :: _, h, _ => by simp [cm] at h
 | _ :: _, [], _, h => by simp [cm] at h
 | a :: x, b :: y, h1, h2 => by
  simp only [cm] at h1 h2
  by_cases e : a = b
  ·subst e
   rw [if_pos rfl] at h1 h2
   rw [cm_tri h1 h2]
  ·rw [if_neg e] at h1
   rw [if_neg (fun q => e q.symm)] at h2
   simp only [decide_eq_false_iff_not] at h1 h2
   omega
theorem cm_asym {a b : List Int} (h : cm a b = true) : cm b a = false := by
 cases e : cm b a with
 | false => rfl
 | true => have := cm_tr h e; rw [cm_irr] at this; cases this
theorem cm_ne {a b : List Int} (h : cm a b = true) : a ≠ b := by rintro rfl; rw [cm_irr] at h; cases h
theorem cm_first : ∀ (a b : List Int) (i : Nat) (ha : i < a.length) (hb : i < b.length), (∀ j (h1 : j < i), a[j] = b[j]) → a[i] ≠ b[i] → cm a b = decide (a[i] < b[i])
 | [], _, i, ha, _, _, _ => absurd ha (by simp)
 | _ :: _, [], i, _, hb, _, _ => absurd hb (by simp)
 | a :: x, b :: y, 0, _, _, _, h => by
  simp only [List.getElem_cons_zero] at h ⊢
  simp only [cm, if_neg h]
 | a :: x, b :: y, i + 1, ha, hb, h1, h => by
  have h0 := h1 0 (by omega)
  simp only [List.getElem_cons_zero] at h0
  simp only [List.getElem_cons_succ] at h ⊢
  simp only [cm, if_pos h0]
  exact cm_first x y i (by simpa using ha) (by simpa using hb) (fun j hj => by have := h1 (j + 1) (by omega); simpa using this) h
theorem cm_none : ∀ (a b : List Int), (∀ j (h1 : j < a.length) (h2 : j < b.length), a[j] = b[j]) → cm a b = decide (a.length < b.length) ∧ (a.length = b.length → a = b)
 | [], [], _ => ⟨rfl, fun _ => rfl⟩
 | [], _ :: _, _ => ⟨by simp [cm], fun h => by simp at h⟩
 | _ :: _, [], _ => ⟨by simp [cm], fun h => by simp at h⟩
 | a :: x, b :: y, h => by
  have h0 := h 0 (by simp) (by simp)
  simp only [List.getElem_cons_zero] at h0
  obtain ⟨h1, h2⟩ := cm_none x y (fun j a b => by have := h (j + 1) (by simpa using a) (by simpa using b); simpa using this)
  refine ⟨?_, fun e => ?_⟩
  ·simp only [cm, if_pos h0, h1, List.length_cons]
   exact decide_eq_decide.2 (by omega)
  ·rw [h0, h2 (by simpa using e)]
theorem bs_get {l : List Int} (h : brange l) {i : Nat} (hi : i < l.length) : (bs l)[i]! = UInt8.ofNat l[i].toNat := by
 have hs : (bs l).size = l.length := by simp [bs, ByteArray.size]
 rw [getElem!_pos (bs l) i (by omega)]
 show (bs l).data[i]'(by simp [bs]; omega) = _
 simp [bs]
theorem bs_size (l : List Int) : (bs l).size = l.length := by simp [bs, ByteArray.size]
theorem u8_lt {x y : Int} (hx : 0 ≤ x ∧ x ≤ 255) (hy : 0 ≤ y ∧ y ≤ 255) : (UInt8.ofNat x.toNat < UInt8.ofNat y.toNat) ↔ x < y := by
 rw [UInt8.lt_iff_toNat_lt]
 simp only [UInt8.toNat_ofNat']
 omega
theorem u8_eq {x y : Int} (hx : 0 ≤ x ∧ x ≤ 255) (hy : 0 ≤ y ∧ y ≤ 255) : (UInt8.ofNat x.toNat = UInt8.ofNat y.toNat) ↔ x = y := by
 rw [← UInt8.toNat_inj]
 simp only [UInt8.toNat_ofNat']
 omega
theorem cmp_eq {a b : List Int} (ha : brange a) (hb : brange b) : Extern.BytealgCompare.cmp (bs a) (bs b) = if cm a b = true then -1 else if a = b then 0 else 1 := by
 unfold Extern.BytealgCompare.cmp
 rw [bs_size, bs_size]
 have hA : ∀ i (h : i < a.length), 0 ≤ a[i] ∧ a[i] ≤ 255 := fun i h => ha _ (List.getElem_mem h)
 have hB : ∀ i (h : i < b.length), 0 ≤ b[i] ∧ b[i] ≤ 255 := fun i h => hb _ (List.getElem_mem h)
 have key : ∀ i, i < min a.length b.length → (((bs a)[i]! != (bs b)[i]!) = true ↔ ∃ (h1 : i < a.length) (h2 : i < b.length), a[i] ≠ b[i]) := by
  intro i hi
  rw [bs_get ha (by omega), bs_get hb (by omega)]
  simp only [bne_iff_ne, ne_eq]
  rw [u8_eq (hA i (by omega)) (hB i (by omega))]
  exact ⟨fun h => ⟨by omega, by omega, h⟩, fun ⟨_, _, h⟩ => h⟩
 cases hf : (List.range (min a.length b.length)).find? fun i => (bs a)[i]! != (bs b)[i]! with
 | some i =>
  rw [List.find?_range_eq_some] at hf
  obtain ⟨h1, h2, h3⟩ := hf
  have hi : i < min a.length b.length := by simpa using h2
  obtain ⟨g1, g2, g3⟩ := (key i hi).1 h1
  have hc := cm_first a b i g1 g2 (fun j hj => by
   have := h3 j hj
   have hj' : j < min a.length b.length := by omega
   have h4 : ¬ ((bs a)[j]! != (bs b)[j]!) = true := by simpa using this
   rw [key j hj'] at h4
   have h1 : j < a.length := by omega
   have h2 : j < b.length := by omega
   exact Decidable.byContradiction fun q => h4 ⟨h1, h2, q⟩) g3
  simp only
  rw [bs_get ha g1, bs_get hb g2]
  by_cases c : a[i] < b[i]
  ·rw [if_pos ((u8_lt (hA i g1) (hB i g2)).2 c), if_pos (by rw [hc]; simpa using c)]
  ·rw [if_neg (fun q => c ((u8_lt (hA i g1) (hB i g2)).1 q)), if_neg (by rw [hc]; simpa using c), if_neg (fun e => g3 (by subst e; rfl))]
 | none =>
  rw [List.find?_eq_none] at hf
  obtain ⟨h1, h2⟩ := cm_none a b (fun j g1 g2 => by
   have hj' : j < min a.length b.length := by omega
   have h4 := hf j (List.mem_range.2 hj')
   rw [key j hj'] at h4
   exact Decidable.byContradiction fun q => h4 ⟨g1, g2, q⟩)
  simp only
  rw [h1]
  rcases Nat.lt_trichotomy a.length b.length with c | c | c
  ·have n1 : ¬ b.length < a.length := by omega
   simp [c, n1]
  ·have e := h2 c
   subst e
   simp
  ·have n1 : ¬ a.length < b.length := by omega
   have ne : a ≠ b := fun q => by rw [q] at c; omega
   simp [c, n1, ne]
theorem byKey_eq {r s : api_Row} (h1 : brange r.Key) (h2 : brange s.Key) : merkle_byKey.f r s = some (if cm r.Key s.Key = true then -1 else if r.Key = s.Key then 0 else 1) := by
 unfold merkle_byKey.f bytes_Compare.f
 rw [Option.bind_some, cmp_eq h1 h2]
theorem sameRow_eq {k : Nat} (hk : Fuel k) (r s : api_Row) (h1 : r.Key.length < 4000000000) (h2 : r.Value.length < 4000000000) : haulagelaw10_sameRow.f k r s = some (decide (r = s)) := by
 unfold haulagelaw10_sameRow.f
 rw [bind_eq (same_eq hk _ _ (.inl h1))]
 obtain ⟨a, b, c⟩ := r
 obtain ⟨a', b', c'⟩ := s
 simp only [api_Row.mk.injEq]
 by_cases e1 : a = a'
 ·rw [if_pos (by simpa using e1), bind_eq (same_eq hk _ _ (.inl h2))]
  by_cases e2 : b = b'
  ·rw [if_pos (by simpa using e2)]; simp [e1, e2]
  ·rw [if_neg (by simpa using e2)]; simp [e2]
 ·rw [if_neg (by simpa using e1)]; simp [e1]
theorem nmF_small : ∀ (f j n : Nat), n < 128 ^ (j + 1) → nmF f n ≤ j
 | 0, _, _, _ => Nat.zero_le _
 | f + 1, 0, n, h => by
  have : n < 128 := by simpa using h
  unfold nmF
  rw [if_pos (by omega)]
  exact Nat.le_refl _
 | f + 1, j + 1, n, h => by
  unfold nmF
  split
  ·omega
  ·have h2 : n / 128 < 128 ^ (j + 1) := by rw [Nat.pow_succ] at h; omega
   have := nmF_small f j (n / 128) h2
   omega
def fx (n : Nat) : List Int := fmP 10 n ++ [IntKind.u8.wrap (fmL 10 n)]
theorem fx_len (n : Nat) : (fx n).length = nmF 10 n + 1 := by unfold fx; rw [List.length_append, fmP_len]; rfl
theorem form_fx {k n : Nat} (hk : Fuel k) (hn : n < 18446744073709551616) : parcel_form.f k (n : Int) = some (fx n) := by
 have h24 : 1099511627776 ≤ k := hk
 have := nmF_le 10 n
 unfold parcel_form.f
 rw [if_pos (by decide), bind_eq (form_loop 10 n k _ (by omega) (by omega) (by simp))]
 unfold parcel_form.j2
 simp only [Int.toNat_zero, List.replicate_zero, List.nil_append]
 rw [if_pos (by rw [fmP_len]; simp; omega)]
 rfl
theorem Byte_eq {room : Int} {b : List Int} {x : Int} (h0 : 0 ≤ x) (h1 : x ≤ 255) (h2 : ((b.length + 1 : Nat) : Int) ≤ room) (h3 : room ≤ 1000000000000) : parcel_Writer_Byte.f (W room b) x = some (W room (b ++ [IntKind.u8.wrap x])) := by
 unfold parcel_Writer_Byte.f parcel_Writer_Byte.j1
 rw [if_neg (by omega), decide_eq_false (by omega), if_neg (by simp), bind_eq (lay_eq (by simpa using h2) h3)]
theorem Text_fx {k : Nat} (hk : Fuel k) {room : Int} {b a : List Int} (h1 : ((b.length + (fx a.length).length + a.length : Nat) : Int) ≤ room) (h2 : room ≤ 1000000000000) :
  parcel_Writer_Text.f k (W room b) a = some (W room (b ++ (fx a.length ++ a))) := by
 have hl := fx_len a.length
 have hn := nmF_le 10 a.length
 have e : ((b.length + (fx a.length ++ a).length : Nat) : Int) ≤ room := by rw [List.length_append]; omega
 unfold parcel_Writer_Text.f
 rw [wru (by omega) (by omega), bind_eq (form_fx hk (by omega)), bind_eq (concat_eq hk (by omega)), bind_eq (lay_eq e h2)]
def zz (x : Int) : Nat := (bxor .u64 (shl .u64 (IntKind.u64.wrap x) 1) (IntKind.u64.wrap (shr .i64 x 63))).toNat
theorem zz_eq (x : Int) : bxor .u64 (shl .u64 (IntKind.u64.wrap x) 1) (IntKind.u64.wrap (shr .i64 x 63)) = (zz x : Int) ∧ zz x < 18446744073709551616 := by
 obtain ⟨n, e, hn⟩ := u64_range (BitVec.ofInt 64 (shl .u64 (IntKind.u64.wrap x) 1) ^^^ BitVec.ofInt 64 (IntKind.u64.wrap (shr .i64 x 63))).toNat
 have e2 : bxor .u64 (shl .u64 (IntKind.u64.wrap x) 1) (IntKind.u64.wrap (shr .i64 x 63)) = (n : Int) := e
 unfold zz
 rw [e2]
 exact ⟨by simp, by simpa using hn⟩
theorem Int_eq {k : Nat} (hk : Fuel k) {room : Int} {b : List Int} (x : Int) (h1 : ((b.length + (fx (zz x)).length : Nat) : Int) ≤ room) (h2 : room ≤ 1000000000000) : parcel_Writer_Int.f k (W room b) x = some (W room (b ++ fx (zz x))) := by
 obtain ⟨e, h⟩ := zz_eq x
 unfold parcel_Writer_Int.f parcel_Writer_Num.f
 rw [e, bind_eq (form_fx hk h), bind_eq (lay_eq h1 h2)]
 rfl
def fnS (h b : Int) : Int := IntKind.u64.wrap ((bxor .u64 h (IntKind.u64.wrap b)) * 1099511628211)
def FN (l : List Int) : Int := l.foldl fnS 14695981039346656037
theorem fnS_range (h b : Int) : 0 ≤ fnS h b ∧ fnS h b < 18446744073709551616 := by
 obtain ⟨n, e, hn⟩ := u64_range ((bxor .u64 h (IntKind.u64.wrap b)) * 1099511628211)
 unfold fnS
 rw [e]; omega
theorem FN_range (l : List Int) : 0 ≤ FN l ∧ FN l < 18446744073709551616 := by
 have key : ∀ (l : List Int) (h : Int), 0 ≤ h ∧ h < 18446744073709551616 → 0 ≤ l.foldl fnS h ∧ l.foldl fnS h < 18446744073709551616 := by
  intro l
  induction l with
  | nil => intro h hh; exact hh
  | cons b l ih => intro h hh; exact ih _ (fnS_range h b)
 exact key l _ (by omega)
theorem fnv_eq {k : Nat} (hk : Fuel k) (p : List Int) (hp : p.length ≤ 1000000000) : seal_FNV.f k [p] = some (FN p) := by
 have h24 : 1099511627776 ≤ k := hk
 unfold seal_FNV.f
 have L := loop_inv (f := fun (s_ : Int × Int) => seal_FNV.b3 k [p] s_.1 s_.2) (I := fun i s => s.2 = (i : Int) ∧ s.1 = if i = 0 then 14695981039346656037 else FN p) (P := fun x => x = FN p) (N := 1) ?_ ?_ 1 0 (14695981039346656037, 0) k ⟨rfl, rfl⟩ rfl (by omega)
 ·obtain ⟨x, e, rfl⟩ := L
  rw [bind_eq e]; rfl
 ·rintro i ⟨h, j⟩ hi ⟨hj, hh⟩
  left
  simp only at hj hh; subst hj
  obtain rfl : i = 0 := by omega
  rw [if_pos rfl] at hh
  subst hh
  have e0 : rd [p] ((0 : Nat) : Int) = p := rfl
  have M := loop_inv (f := fun (s_ : Int × Int) => seal_FNV.b1 [p] ((0 : Nat) : Int) s_.1 s_.2) (I := fun i s => s.2 = (i : Int) ∧ s.1 = (p.take i).foldl fnS 14695981039346656037) (P := fun x => x = FN p) (N := p.length) ?_ ?_ p.length 0 (14695981039346656037, 0) k ⟨rfl, rfl⟩ (by omega) (by omega)
  ·obtain ⟨x, e, rfl⟩ := M
   simp only [seal_FNV.b3]
   rw [if_pos (by simp), if_pos (by simp), bind_eq e]
   exact ⟨_, rfl, rfl, rfl⟩
  ·rintro i ⟨h, j⟩ hi ⟨hj, hh⟩
   left
   simp only at hj hh; subst hj
   simp only [seal_FNV.b1]
   rw [e0, if_pos (by omega), if_pos (by omega), wrS i (by omega), rd_eq hi]
   refine ⟨_, rfl, rfl, ?_⟩
   rw [take_one hi, List.foldl_append, ← hh]; rfl
  ·rintro ⟨h, j⟩ ⟨hj, hh⟩
   simp only at hj hh; subst hj
   simp only [seal_FNV.b1]
   rw [e0, if_neg (by omega)]
   rw [List.take_length] at hh
   exact ⟨_, rfl, hh⟩
 ·rintro ⟨h, j⟩ ⟨hj, hh⟩
  simp only at hj hh; subst hj
  simp only [seal_FNV.b3]
  rw [if_neg (by simp)]
  exact ⟨_, rfl, hh⟩
def mk (bits n : Int) : Int := n % 2 ^ bits.toNat
theorem cut_eq {bits n : Int} (h1 : 1 ≤ bits) (h2 : bits ≤ 64) (h0 : 0 ≤ n) (hn : n < 18446744073709551616) : shr .u64 (shl .u64 n (IntKind.i64.wrap (64 - bits))) (IntKind.i64.wrap (64 - bits)) = mk bits n := by
 obtain ⟨n, rfl⟩ := Int.eq_ofNat_of_zero_le h0
 obtain ⟨s, hs⟩ : ∃ s : Nat, (s : Int) = 64 - bits := ⟨(64 - bits).toNat, by omega⟩
 have hb : bits.toNat = 64 - s := by omega
 rw [wr (by omega) (by omega), ← hs]
 unfold shl shr mk
 have hm : min s 64 = s := by omega
 simp only [Int.toNat_natCast, IntKind.bits, hm, hb]
 have e1 : IntKind.u64.wrap ((n : Int) * 2 ^ s) = ((n * 2 ^ s % 2 ^ 64 : Nat) : Int) := by
  simp only [IntKind.wrap, IntKind.bits, IntKind.signed]
  simp
 rw [e1]
 have e2 : (2 : Int) ^ s = ((2 ^ s : Nat) : Int) := by simp
 have e3 : (2 : Int) ^ (64 - s) = ((2 ^ (64 - s) : Nat) : Int) := by simp
 rw [e2, e3, Int.fdiv_eq_ediv_of_nonneg _ (Int.natCast_nonneg _)]
 have hp : 2 ^ 64 = 2 ^ (64 - s) * 2 ^ s := by rw [← Nat.pow_add]; congr 1; omega
 rw [hp, Nat.mul_mod_mul_right]
 rw [← Int.natCast_ediv, Nat.mul_div_cancel _ (Nat.two_pow_pos s), ← Int.natCast_emod]
theorem band_mask {n : Nat} {b : Nat} (hb : b ≤ 63) (hn : n < 18446744073709551616) : band .u64 (n : Int) ((2 ^ b - 1 : Nat) : Int) = ((n % 2 ^ b : Nat) : Int) := by
 have hlt : 2 ^ b < 2 ^ 64 := Nat.pow_lt_pow_right (by decide) (by omega)
 have hp := Nat.two_pow_pos b
 have hmod : n % 2 ^ b < 2 ^ b := Nat.mod_lt _ hp
 have e0 : (18446744073709551616 : Nat) = 2 ^ 64 := by decide
 unfold band
 have e1 : (BitVec.ofInt IntKind.u64.bits (n : Int) &&& BitVec.ofInt IntKind.u64.bits ((2 ^ b - 1 : Nat) : Int)).toNat = n % 2 ^ b := by
  rw [BitVec.toNat_and]
  simp only [BitVec.ofInt_natCast, BitVec.toNat_ofNat, IntKind.bits]
  rw [Nat.mod_eq_of_lt (by omega), Nat.mod_eq_of_lt (by omega), Nat.and_two_pow_sub_one_eq_mod]
 rw [e1]
 simp only [IntKind.wrap, IntKind.bits, IntKind.signed]
 simp
 have h2 : ((n % 2 ^ b : Nat) : Int) < 18446744073709551616 := by omega
 have h3 : ((n % 2 ^ b : Nat) : Int) = (n : Int) % 2 ^ b := by simp
 rw [← h3]
 exact Int.emod_eq_of_lt (by omega) h2
theorem mask_eq {bits n : Int} (h1 : 1 ≤ bits) (h2 : bits ≤ 64) (h0 : 0 ≤ n) (hn : n < 18446744073709551616) : haulagelaw10_mask.f n bits = some (mk bits n) := by
 obtain ⟨n, rfl⟩ := Int.eq_ofNat_of_zero_le h0
 unfold haulagelaw10_mask.f mk
 by_cases c : 64 ≤ bits
 ·obtain rfl : bits = 64 := by omega
  rw [if_pos c, Int.emod_eq_of_lt h0 (by simpa using hn)]
 ·obtain ⟨b, rfl⟩ := Int.eq_ofNat_of_zero_le (show 0 ≤ bits by omega)
  have e1 : IntKind.u64.wrap (b : Int) = b := wru (by omega) (by omega)
  have hb : b ≤ 63 := by omega
  have hlt : 2 ^ b < 2 ^ 64 := Nat.pow_lt_pow_right (by decide) (by omega)
  have hp := Nat.two_pow_pos b
  have e2 : shl .u64 1 (b : Int) = ((2 ^ b : Nat) : Int) := by
   unfold shl
   have hm : min b 64 = b := by omega
   simp only [Int.toNat_natCast, IntKind.bits, hm, Int.one_mul]
   have e3 : (2 : Int) ^ b = ((2 ^ b : Nat) : Int) := by simp
   rw [e3]
   simp only [IntKind.wrap, IntKind.bits, IntKind.signed]
   simp only [Bool.false_eq_true, if_false, false_and, Bool.and_false, Bool.false_and]
   have e0 : (2 : Int) ^ 64 = ((2 ^ 64 : Nat) : Int) := by simp
   first
    | exact Int.emod_eq_of_lt (by omega) (by omega)
    | (simp; exact Int.emod_eq_of_lt (by omega) (by omega))
  have e4 : IntKind.u64.wrap (((2 ^ b : Nat) : Int) - 1) = ((2 ^ b - 1 : Nat) : Int) := by
   have e5 : ((2 ^ b : Nat) : Int) - 1 = ((2 ^ b - 1 : Nat) : Int) := by omega
   have hm : ((2 ^ b : Nat) : Int) < 18446744073709551616 := by
    have : (18446744073709551616 : Nat) = 2 ^ 64 := by decide
    omega
   rw [e5]
   simp only [IntKind.wrap, IntKind.bits, IntKind.signed]
   simp only [Bool.false_eq_true, if_false, false_and, Bool.and_false, Bool.false_and]
   first
    | exact Int.emod_eq_of_lt (by omega) (by omega)
    | (simp; exact Int.emod_eq_of_lt (by omega) (by omega))
  rw [if_neg c, e1, if_pos (by omega), e2, e4, band_mask hb (by omega)]
  simp
def dk (k : Nat) (x : Int) : List Int := (parcel_downuint64.f k (List.replicate 8 (0 : Int)) x).getD []
theorem dk_eq {k : Nat} (hk : Fuel k) (x : Int) : parcel_downuint64.f k (List.replicate 8 (0 : Int)) x = some (dk k x) ∧ (dk k x).length = 8 := by
 obtain ⟨l, e, h⟩ := down_tot hk x
 unfold dk
 rw [e]
 exact ⟨rfl, h⟩
theorem Fixed_eq {k : Nat} (hk : Fuel k) {room : Int} {b : List Int} (x : Int) (h2 : ((b.length + 8 : Nat) : Int) ≤ room) (h3 : room ≤ 1000000000000) : parcel_Writer_Fixed.f k (W room b) x 8 = some (W room (b ++ dk k x)) := by
 obtain ⟨e, h⟩ := dk_eq hk x
 unfold parcel_Writer_Fixed.f parcel_Writer_Fixed.j1
 rw [if_neg (by omega), decide_eq_false (by omega), if_neg (by simp), if_pos (by omega), if_neg (by omega), if_neg (by omega), if_neg (by omega)]
 have e8 : (8 : Int).toNat = 8 := rfl
 rw [e8, bind_eq e, bind_eq (lay_eq (by rw [h]; exact h2) h3)]
def rowB (r : api_Row) : List Int := [IntKind.u8.wrap 1] ++ (fx r.Key.length ++ r.Key) ++ (fx r.Value.length ++ r.Value) ++ fx (zz r.Rev)
def hRow (bits : Int) (r : api_Row) : Int := mk bits (FN (rowB r))
def hPair (k : Nat) (bits a b : Int) : Int := mk bits (FN ([IntKind.u8.wrap 3] ++ dk k a ++ dk k b))
def bkB (k : Nat) (bits : Int) (R : List api_Row) : List Int := [IntKind.u8.wrap 2] ++ R.flatMap fun r => dk k (hRow bits r)
def hBk (k : Nat) (bits : Int) (R : List api_Row) : Int := mk bits (FN (bkB k bits R))
abbrev okb (bits : Int) : Prop := 1 ≤ bits ∧ bits ≤ 64
def RB (r : api_Row) : Prop := r.Key.length ≤ 2097152 ∧ r.Value.length ≤ 2097152 ∧ brange r.Key
theorem cutW {k : Nat} (hk : Fuel k) {bits room : Int} (hb : okb bits) {l : List Int} (hl : l.length ≤ 1000000000) : merkle_cut.f k (W room l) bits = some (mk bits (FN l)) := by
 obtain ⟨h0, h1⟩ := FN_range l
 unfold merkle_cut.f
 rw [bind_eq (done_eq (by omega)), bind_eq (fnv_eq hk l hl), if_pos (by rw [wr (by omega) (by omega)]; omega), if_pos (by rw [wr (by omega) (by omega)]; omega), cut_eq hb.1 hb.2 h0 h1]
theorem row_writes {k : Nat} (hk : Fuel k) {r : api_Row} (h : RB r) {x : Int} (hx : (r.Key.length : Int) + r.Value.length + 31 ≤ x) (hx2 : x ≤ 1000000000000) :
  ∃ w1 w2 w3, parcel_New.f x = some (W x []) ∧ parcel_Writer_Byte.f (W x []) 1 = some w1 ∧ parcel_Writer_Text.f k w1 r.Key = some w2 ∧ parcel_Writer_Text.f k w2 r.Value = some w3 ∧ parcel_Writer_Int.f k w3 r.Rev = some (W x (rowB r)) ∧ (rowB r).length ≤ 1000000000 := by
 obtain ⟨h1, h2, _⟩ := h
 have l1 := fx_len r.Key.length; have l2 := fx_len r.Value.length; have l3 := fx_len (zz r.Rev)
 have n1 := nmF_small 10 3 r.Key.length (by omega)
 have n2 := nmF_small 10 3 r.Value.length (by omega)
 have n3 := nmF_le 10 (zz r.Rev)
 refine ⟨_, _, _, ?_, Byte_eq (by omega) (by omega) (by simp; omega) hx2, Text_fx hk (by simp; omega) hx2, Text_fx hk (by simp; omega) hx2, ?_, ?_⟩
 ·unfold parcel_New.f
  rw [Int.max_eq_left (by omega)]
 ·rw [Int_eq hk r.Rev (by simp; omega) hx2]
  rfl
 ·unfold rowB
  simp only [List.length_append, List.length_singleton]
  omega
theorem ofRow_eq {k : Nat} (hk : Fuel k) {bits : Int} (hb : okb bits) {r : api_Row} (h : RB r) : merkle_ofRow.f k r bits = some (hRow bits r) := by
 have h1 := h.1; have h2 := h.2.1
 have e : IntKind.i64.wrap ((IntKind.i64.wrap ((r.Key.length : Int) + (r.Value.length : Int))) + 31) = (r.Key.length : Int) + r.Value.length + 31 := by
  rw [wr (n := (r.Key.length : Int) + (r.Value.length : Int)) (by omega) (by omega), wr (by omega) (by omega)]
 obtain ⟨w1, w2, w3, e0, e1, e2, e3, e4, hl⟩ := row_writes hk h (x := (r.Key.length : Int) + r.Value.length + 31) (by omega) (by omega)
 unfold merkle_ofRow.f
 rw [e, bind_eq e0, bind_eq e1, bind_eq e2, bind_eq e3, bind_eq e4, bind_eq (cutW hk hb hl)]
 rfl
theorem ofRow_law {k : Nat} (hk : Fuel k) {bits : Int} (hb : okb bits) {r : api_Row} (h : RB r) : haulagelaw10_ofRow.f k r bits = some (hRow bits r) := by
 have h1 := h.1; have h2 := h.2.1
 have e : IntKind.i64.wrap ((IntKind.i64.wrap ((r.Key.length : Int) + (r.Value.length : Int))) + 40) = (r.Key.length : Int) + r.Value.length + 40 := by
  rw [wr (n := (r.Key.length : Int) + (r.Value.length : Int)) (by omega) (by omega), wr (by omega) (by omega)]
 obtain ⟨w1, w2, w3, e0, e1, e2, e3, e4, hl⟩ := row_writes hk h (x := (r.Key.length : Int) + r.Value.length + 40) (by omega) (by omega)
 obtain ⟨g0, g1⟩ := FN_range (rowB r)
 unfold haulagelaw10_ofRow.f
 rw [e, bind_eq e0, bind_eq e1, bind_eq e2, bind_eq e3, bind_eq e4, bind_eq (done_eq (by omega)), bind_eq (fnv_eq hk _ hl), bind_eq (mask_eq hb.1 hb.2 g0 g1)]
 rfl
theorem pair_writes {k : Nat} (hk : Fuel k) (a b : Int) : ∃ w1 w2, parcel_New.f 17 = some (W 17 []) ∧ parcel_Writer_Byte.f (W 17 []) 3 = some w1 ∧ parcel_Writer_Fixed.f k w1 a 8 = some w2 ∧ parcel_Writer_Fixed.f k w2 b 8 = some (W 17 ([IntKind.u8.wrap 3] ++ dk k a ++ dk k b)) ∧ ([IntKind.u8.wrap 3] ++ dk k a ++ dk k b).length ≤ 1000000000 := by
 have l1 := (dk_eq hk a).2; have l2 := (dk_eq hk b).2
 refine ⟨_, _, ?_, Byte_eq (by omega) (by omega) (by simp) (by omega), Fixed_eq hk a (by simp) (by omega), ?_, ?_⟩
 ·unfold parcel_New.f
  rw [Int.max_eq_left (by omega)]
 ·rw [Fixed_eq hk b (by simp [l1]) (by omega)]
  rfl
 ·simp only [List.length_append, List.length_singleton]; omega
theorem ofPair_eq {k : Nat} (hk : Fuel k) {bits : Int} (hb : okb bits) (a b : Int) : merkle_ofPair.f k a b bits = some (hPair k bits a b) := by
 obtain ⟨w1, w2, e0, e1, e2, e3, hl⟩ := pair_writes hk a b
 unfold merkle_ofPair.f
 rw [bind_eq e0, bind_eq e1, bind_eq e2, bind_eq e3, bind_eq (cutW hk hb hl)]
 rfl
theorem ofPair_law {k : Nat} (hk : Fuel k) {bits : Int} (hb : okb bits) (a b : Int) : haulagelaw10_ofPair.f k a b bits = some (hPair k bits a b) := by
 obtain ⟨w1, w2, e0, e1, e2, e3, hl⟩ := pair_writes hk a b
 obtain ⟨g0, g1⟩ := FN_range ([IntKind.u8.wrap 3] ++ dk k a ++ dk k b)
 unfold haulagelaw10_ofPair.f
 rw [bind_eq e0, bind_eq e1, bind_eq e2, bind_eq e3, bind_eq (done_eq (by omega)), bind_eq (fnv_eq hk _ hl), bind_eq (mask_eq hb.1 hb.2 g0 g1)]
 rfl
theorem flat8 {k : Nat} (hk : Fuel k) (bits : Int) : ∀ R : List api_Row, (R.flatMap fun r => dk k (hRow bits r)).length = 8 * R.length
 | [] => rfl
 | r :: R => by
  rw [List.flatMap_cons, List.length_append, flat8 hk bits R, (dk_eq hk _).2, List.length_cons]; omega
theorem bkB_len {k : Nat} (hk : Fuel k) (bits : Int) (R : List api_Row) : (bkB k bits R).length = 8 * R.length + 1 := by
 unfold bkB
 rw [List.length_append, flat8 hk, List.length_singleton]; omega
abbrev RL (R : List api_Row) : Prop := R.length ≤ 4194304 ∧ ∀ r ∈ R, RB r
theorem ofBucket_eq {k : Nat} (hk : Fuel k) {bits : Int} (hb : okb bits) {R : List api_Row} (hR : RL R) : merkle_ofBucket.f k R bits = some (hBk k bits R) := by
 have h24 : 1099511627776 ≤ k := hk
 obtain ⟨hl, hR⟩ := hR
 have ex : IntKind.i64.wrap (1 + (IntKind.i64.wrap (8 * (R.length : Int)))) = 1 + 8 * (R.length : Int) := by rw [wr (n := 8 * (R.length : Int)) (by omega) (by omega), wr (by omega) (by omega)]
 have e0 : parcel_New.f (1 + 8 * (R.length : Int)) = some (W (1 + 8 * (R.length : Int)) []) := by
  unfold parcel_New.f
  rw [Int.max_eq_left (by omega)]
 unfold merkle_ofBucket.f
 rw [ex, bind_eq e0, bind_eq (Byte_eq (x := 2) (by omega) (by omega) (by simp; omega) (by omega))]
 have L := loop_inv (f := fun (s_ : (Option Wri) × Int) => merkle_ofBucket.b1 k R bits s_.1 s_.2) (I := fun i s => s.1 = W (1 + 8 * (R.length : Int)) (bkB k bits (R.take i)) ∧ s.2 = (i : Int)) (P := fun w => w = W (1 + 8 * (R.length : Int)) (bkB k bits R)) (N := R.length) ?_ ?_ R.length 0 (W (1 + 8 * (R.length : Int)) ([] ++ [IntKind.u8.wrap 2]), 0) k ⟨rfl, rfl⟩ (by omega) (by omega)
 ·obtain ⟨w, e, rfl⟩ := L
  rw [bind_eq e]
  unfold merkle_ofBucket.j2
  rw [bind_eq (cutW (l := bkB k bits R) hk hb (by rw [bkB_len hk]; omega))]
  rfl
 ·rintro i ⟨w, j⟩ hi ⟨hw, hj⟩
  left
  simp only at hj hw; subst hj hw
  have hlen : (R.take i).length = i := by simp; omega
  simp only [merkle_ofBucket.b1]
  rw [if_pos (by omega), if_pos (by omega), rd_eq hi, bind_eq (ofRow_eq hk hb (hR _ (List.getElem_mem hi))), bind_eq (Fixed_eq hk _ (by rw [bkB_len hk, hlen]; omega) (by omega)), wrS i (by omega)]
  refine ⟨_, rfl, ?_, rfl⟩
  simp only [bkB]
  rw [take_one hi, List.flatMap_append, List.append_assoc]
  simp
 ·rintro ⟨w, j⟩ ⟨hw, hj⟩
  simp only at hj hw; subst hj hw
  simp only [merkle_ofBucket.b1]
  rw [if_neg (by omega), List.take_length]
  exact ⟨_, rfl, rfl⟩
theorem ofRows_law {k : Nat} (hk : Fuel k) {bits : Int} (hb : okb bits) {R : List api_Row} (hR : RL R) : haulagelaw10_ofRows.f k R bits = some (hBk k bits R) := by
 have h24 : 1099511627776 ≤ k := hk
 obtain ⟨hl, hR⟩ := hR
 have ex : IntKind.i64.wrap ((IntKind.i64.wrap (8 * (R.length : Int))) + 1) = 1 + 8 * (R.length : Int) := by rw [wr (n := 8 * (R.length : Int)) (by omega) (by omega), wr (by omega) (by omega)]; omega
 have e0 : parcel_New.f (1 + 8 * (R.length : Int)) = some (W (1 + 8 * (R.length : Int)) []) := by
  unfold parcel_New.f
  rw [Int.max_eq_left (by omega)]
 obtain ⟨g0, g1⟩ := FN_range (bkB k bits R)
 have hbl := bkB_len hk bits R
 unfold haulagelaw10_ofRows.f
 rw [ex, bind_eq e0, bind_eq (Byte_eq (x := 2) (by omega) (by omega) (by simp; omega) (by omega))]
 have L := loop_inv (f := fun (s_ : (Option Wri) × Int) => haulagelaw10_ofRows.b1 k R bits s_.1 s_.2) (I := fun i s => s.1 = W (1 + 8 * (R.length : Int)) (bkB k bits (R.take i)) ∧ s.2 = (i : Int)) (P := fun w => w = W (1 + 8 * (R.length : Int)) (bkB k bits R)) (N := R.length) ?_ ?_ R.length 0 (W (1 + 8 * (R.length : Int)) ([] ++ [IntKind.u8.wrap 2]), 0) k ⟨rfl, rfl⟩ (by omega) (by omega)
 ·obtain ⟨w, e, rfl⟩ := L
  rw [bind_eq e]
  unfold haulagelaw10_ofRows.j2
  rw [bind_eq (done_eq (b := bkB k bits R) (by omega)), bind_eq (fnv_eq hk (bkB k bits R) (by omega)), bind_eq (mask_eq hb.1 hb.2 g0 g1)]
  rfl
 ·rintro i ⟨w, j⟩ hi ⟨hw, hj⟩
  left
  simp only at hj hw; subst hj hw
  have hlen : (R.take i).length = i := by simp; omega
  simp only [haulagelaw10_ofRows.b1]
  rw [if_pos (by omega), if_pos (by omega), rd_eq hi, bind_eq (ofRow_law hk hb (hR _ (List.getElem_mem hi))), bind_eq (Fixed_eq hk _ (by rw [bkB_len hk, hlen]; omega) (by omega)), wrS i (by omega)]
  refine ⟨_, rfl, ?_, rfl⟩
  simp only [bkB]
  rw [take_one hi, List.flatMap_append, List.append_assoc]
  simp
 ·rintro ⟨w, j⟩ ⟨hw, hj⟩
  simp only at hj hw; subst hj hw
  simp only [haulagelaw10_ofRows.b1]
  rw [if_neg (by omega), List.take_length]
  exact ⟨_, rfl, rfl⟩
def bkt (p : List Int) : Nat := (FN p % 256).toNat
theorem bkt_lt (p : List Int) : bkt p < 256 := by unfold bkt; omega
theorem bucket_eq {k : Nat} (hk : Fuel k) {p : List Int} (hp : p.length ≤ 1000000000) : merkle_bucket.f k p = some (bkt p : Int) := by
 obtain ⟨h0, h1⟩ := FN_range p
 have e : IntKind.u8.wrap (FN p) = (bkt p : Int) := by
  unfold bkt
  simp only [IntKind.wrap, IntKind.bits, IntKind.signed]
  simp
  omega
 have := bkt_lt p
 unfold merkle_bucket.f
 rw [bind_eq (fnv_eq hk p hp), e, wr (by omega) (by omega)]
theorem bucket_law {k : Nat} (hk : Fuel k) {p : List Int} (hp : p.length ≤ 1000000000) : haulagelaw10_bucket.f k p = some (256 + (bkt p : Int)) := by
 obtain ⟨h0, h1⟩ := FN_range p
 obtain ⟨n, hn⟩ := Int.eq_ofNat_of_zero_le h0
 have e : band .u64 (FN p) 255 = (bkt p : Int) := by
  have h2 := band_mask (n := n) (b := 8) (by omega) (by omega)
  rw [hn]
  have e1 : ((2 ^ 8 - 1 : Nat) : Int) = 255 := by decide
  rw [e1] at h2
  rw [h2]
  unfold bkt
  rw [hn]
  omega
 have := bkt_lt p
 unfold haulagelaw10_bucket.f
 rw [bind_eq (fnv_eq hk p hp), e, wr (n := (bkt p : Int)) (by omega) (by omega), wr (by omega) (by omega)]
def Srt (R : List api_Row) : Prop := R.Pairwise fun a b => cm a.Key b.Key = true
def lo (key : List Int) (R : List api_Row) : List api_Row := R.filter fun r => cm r.Key key
def hi (key : List Int) (R : List api_Row) : List api_Row := R.filter fun r => cm key r.Key
def md (key : List Int) (R : List api_Row) : List api_Row := R.filter fun r => decide (r.Key = key)
def putL (r : api_Row) (R : List api_Row) : List api_Row := lo r.Key R ++ r :: hi r.Key R
def delL (key : List Int) (R : List api_Row) : List api_Row := R.filter fun r => !decide (r.Key = key)
theorem filter_none {α : Type} {p : α → Bool} {l : List α} (h : ∀ x ∈ l, p x = false) : l.filter p = [] := by
 rw [List.filter_eq_nil_iff]; intro x hx; rw [h x hx]; exact Bool.false_ne_true
theorem filter_all {α : Type} {p : α → Bool} {l : List α} (h : ∀ x ∈ l, p x = true) : l.filter p = l := List.filter_eq_self.2 h
theorem Srt.split (key : List Int) : ∀ {R : List api_Row}, Srt R → R = lo key R ++ (md key R ++ hi key R) ∧ (md key R = [] ∨ ∃ x, md key R = [x] ∧ x.Key = key)
 | [], _ => ⟨rfl, .inl rfl⟩
 | r :: R, h => by
  have hr : ∀ x ∈ R, cm r.Key x.Key = true := (List.pairwise_cons.1 h).1
  have hR : Srt R := (List.pairwise_cons.1 h).2
  obtain ⟨h1, h2⟩ := Srt.split key hR
  cases c : cm r.Key key with
  | true =>
   have e1 : lo key (r :: R) = r :: lo key R := by simp [lo, c]
   have e2 : md key (r :: R) = md key R := by simp [md, cm_ne c]
   have e3 : hi key (r :: R) = hi key R := by simp [hi, cm_asym c]
   rw [e1, e2, e3]
   exact ⟨by rw [List.cons_append, ← h1], h2⟩
  | false =>
   have e1 : lo key (r :: R) = [] := by
    apply filter_none
    intro x hx
    rcases List.mem_cons.1 hx with rfl | hx
    ·exact c
    ·cases e : cm x.Key key with
     | false => rfl
     | true => have := cm_tr (hr x hx) e; rw [c] at this; cases this
   rw [e1, List.nil_append]
   by_cases e : r.Key = key
   ·have g : ∀ x ∈ R, cm key x.Key = true := fun x hx => e ▸ hr x hx
    have e2 : md key (r :: R) = [r] := by
     unfold md
     rw [List.filter_cons_of_pos (by simpa using e), filter_none]
     intro x hx
     have := cm_ne (g x hx)
     simpa using fun q => this q.symm
    have e3 : hi key (r :: R) = R := by
     unfold hi
     rw [List.filter_cons_of_neg (by rw [e, cm_irr]; exact Bool.false_ne_true), filter_all g]
    rw [e2, e3]
    exact ⟨rfl, .inr ⟨r, rfl, e⟩⟩
   ·have g0 : cm key r.Key = true := by
     cases q : cm key r.Key with
     | true => rfl
     | false => exact absurd (cm_tri c q) e
    have g : ∀ x ∈ r :: R, cm key x.Key = true := by
     intro x hx
     rcases List.mem_cons.1 hx with rfl | hx
     ·exact g0
     ·exact cm_tr g0 (hr x hx)
    have e2 : md key (r :: R) = [] := by
     apply filter_none
     intro x hx
     have := cm_ne (g x hx)
     simpa using fun q => this q.symm
    have e3 : hi key (r :: R) = r :: R := filter_all g
    rw [e2, e3]
    exact ⟨rfl, .inl rfl⟩
theorem lo_mem {key : List Int} {R : List api_Row} {x : api_Row} : x ∈ lo key R ↔ x ∈ R ∧ cm x.Key key = true := by simp [lo]
theorem hi_mem {key : List Int} {R : List api_Row} {x : api_Row} : x ∈ hi key R ↔ x ∈ R ∧ cm key x.Key = true := by simp [hi]
theorem Srt.filter {R : List api_Row} (h : Srt R) (p : api_Row → Bool) : Srt (R.filter p) := List.Pairwise.filter p h
theorem putL_srt {r : api_Row} {R : List api_Row} (h : Srt R) : Srt (putL r R) := by
 unfold putL
 refine List.pairwise_append.2 ⟨h.filter _, List.pairwise_cons.2 ⟨fun x hx => (hi_mem.1 hx).2, h.filter _⟩, fun a ha b hb => ?_⟩
 have h1 := (lo_mem.1 ha).2
 rcases List.mem_cons.1 hb with rfl | hb
 ·exact h1
 ·exact cm_tr h1 (hi_mem.1 hb).2
theorem putL_mem {r x : api_Row} {R : List api_Row} (h : x ∈ putL r R) : x = r ∨ x ∈ R := by
 rcases List.mem_append.1 h with h | h
 ·exact .inr (lo_mem.1 h).1
 ·rcases List.mem_cons.1 h with h | h
  ·exact .inl h
  ·exact .inr (hi_mem.1 h).1
theorem delL_eq {key : List Int} {R : List api_Row} (h : Srt R) : delL key R = lo key R ++ hi key R := by
 obtain ⟨h1, h2⟩ := h.split key
 have e1 : ∀ l : List api_Row, (∀ x ∈ l, x.Key ≠ key) → delL key l = l := fun l hl => filter_all fun x hx => by simpa using hl x hx
 have e2 : ∀ a b : List api_Row, delL key (a ++ b) = delL key a ++ delL key b := fun a b => List.filter_append ..
 have e3 : delL key R = delL key (lo key R ++ (md key R ++ hi key R)) := congrArg _ h1
 rw [e3, e2, e2, e1 _ (fun x hx => cm_ne (lo_mem.1 hx).2), e1 (hi key R) (fun x hx q => cm_ne (hi_mem.1 hx).2 q.symm)]
 congr 1
 have : delL key (md key R) = [] := filter_none fun x hx => by
  have : x.Key = key := by simpa using (List.mem_filter.1 hx).2
  simp [this]
 rw [this, List.nil_append]
theorem lo_len {key : List Int} {R : List api_Row} (h : Srt R) : (lo key R).length + (md key R).length + (hi key R).length = R.length := by
 have := congrArg List.length (h.split key).1
 simp only [List.length_append] at this
 omega
theorem idx_lt {key : List Int} {R : List api_Row} (h : Srt R) {q : Nat} (hq : q < R.length) : cm R[q].Key key = decide (q < (lo key R).length) := by
 obtain ⟨h1, h2⟩ := h.split key
 have e : R[q]? = (lo key R ++ (md key R ++ hi key R))[q]? := congrArg (fun l => l[q]?) h1
 rw [List.getElem?_eq_getElem hq] at e
 by_cases c : q < (lo key R).length
 ·rw [List.getElem?_append_left c, List.getElem?_eq_getElem c] at e
  rw [Option.some.inj e, (lo_mem.1 (List.getElem_mem c)).2, decide_eq_true c]
 ·rw [List.getElem?_append_right (by omega)] at e
  have hm : R[q] ∈ md key R ++ hi key R := List.mem_of_getElem? e.symm
  rw [decide_eq_false c]
  rcases List.mem_append.1 hm with hm | hm
  ·have : R[q].Key = key := by simpa using (List.mem_filter.1 hm).2
   rw [this, cm_irr]
  ·exact cm_asym (hi_mem.1 hm).2
theorem at_lo {key : List Int} {R : List api_Row} (h : Srt R) :
  (md key R = [] ∧ R = lo key R ++ hi key R ∧ ∀ (q : (lo key R).length < R.length), R[(lo key R).length].Key ≠ key) ∨
  (∃ x, md key R = [x] ∧ x.Key = key ∧ R = lo key R ++ x :: hi key R ∧ ∃ (q : (lo key R).length < R.length), R[(lo key R).length] = x) := by
 obtain ⟨h1, h2⟩ := h.split key
 rcases h2 with h2 | ⟨x, h2, hx⟩
 ·refine .inl ⟨h2, by rw [h2, List.nil_append] at h1; exact h1, fun q e => ?_⟩
  have hm : R[(lo key R).length] ∈ md key R := List.mem_filter.2 ⟨List.getElem_mem q, by simpa using e⟩
  rw [h2] at hm; cases hm
 ·rw [h2] at h1
  have hl := congrArg List.length h1
  simp only [List.length_append, List.length_cons, List.length_nil] at hl
  refine .inr ⟨x, h2, hx, h1, by omega, ?_⟩
  have e : R[(lo key R).length]? = (lo key R ++ ([x] ++ hi key R))[(lo key R).length]? := congrArg (fun l => l[(lo key R).length]?) h1
  rw [List.getElem?_eq_getElem (by omega), List.getElem?_append_right (by omega)] at e
  simpa using e
theorem mid_eq {i j : Nat} (h : i + j < 1000000000000) : IntKind.i64.wrap (shr .u64 (IntKind.u64.wrap (IntKind.i64.wrap ((i : Int) + (j : Int)))) 1) = (((i + j) / 2 : Nat) : Int) := by
 rw [wr (n := (i : Int) + (j : Int)) (by omega) (by omega), wru (by omega) (by omega)]
 unfold shr
 have : (2 : Int) ^ (min (1 : Int).toNat IntKind.u64.bits) = 2 := by decide
 rw [this, Int.fdiv_eq_ediv_of_nonneg _ (by omega), wr (by omega) (by omega)]
 omega
theorem search_loop {R : List api_Row} (hl : R.length ≤ 100000000000) (hs : Srt R) (hb : ∀ r ∈ R, brange r.Key) {t : api_Row} (ht : brange t.Key) : ∀ (n i j m : Nat), j - i ≤ n → n < m → i ≤ (lo t.Key R).length → (lo t.Key R).length ≤ j → j ≤ R.length →
  loop (fun (s_ : Int × Int) => slices_BinarySearchFunc.b1 R t s_.1 s_.2) m ((i : Int), (j : Int)) = some ((lo t.Key R).length : Int)
 | _, _, _, 0, _, h, _, _, _ => absurd h (by omega)
 | n, i, j, m + 1, hn, hm, h1, h2, h3 => by
  by_cases c : i < j
  ·obtain ⟨n, rfl⟩ : ∃ n', n = n' + 1 := ⟨n - 1, by omega⟩
   have hq : (i + j) / 2 < R.length := by omega
   have e0 := mid_eq (i := i) (j := j) (by omega)
   have ek := byKey_eq (hb _ (List.getElem_mem hq)) ht
   rw [idx_lt hs hq] at ek
   by_cases d : (i + j) / 2 < (lo t.Key R).length
   ·rw [loop_next (s' := ((((i + j) / 2 + 1 : Nat) : Int), (j : Int)))]
    ·exact search_loop hl hs hb ht n _ j m (by omega) (by omega) (by omega) h2 h3
    ·unfold slices_BinarySearchFunc.b1
     simp only
     rw [if_pos (by omega), e0, if_pos (by omega), rd_eq hq, bind_eq ek, if_pos (by rw [if_pos (by simpa using d)]; omega), wrS _ (by omega)]
   ·rw [loop_next (s' := ((i : Int), (((i + j) / 2 : Nat) : Int)))]
    ·exact search_loop hl hs hb ht n i _ m (by omega) (by omega) h1 (by omega) (by omega)
    ·unfold slices_BinarySearchFunc.b1
     simp only
     rw [if_pos (by omega), e0, if_pos (by omega), rd_eq hq, bind_eq ek, if_neg (by rw [if_neg (by simpa using d)]; split <;> omega)]
  ·have e : i = (lo t.Key R).length := by omega
   refine loop_done ?_
   unfold slices_BinarySearchFunc.b1
   simp only
   rw [if_neg (by omega), e]
def has (key : List Int) (R : List api_Row) : Bool := !(md key R).isEmpty
theorem search_eq {k : Nat} (hk : Fuel k) {R : List api_Row} (hl : R.length ≤ 100000000000) (hs : Srt R) (hb : ∀ r ∈ R, brange r.Key) {t : api_Row} (ht : brange t.Key) : slices_BinarySearchFunc.f k R t = some (((lo t.Key R).length : Int), has t.Key R) := by
 have h24 : 1099511627776 ≤ k := hk
 have hlen := lo_len (key := t.Key) hs
 unfold slices_BinarySearchFunc.f
 rw [show ((0 : Int), (R.length : Int)) = (((0 : Nat) : Int), (R.length : Int)) from rfl, bind_eq (search_loop hl hs hb ht R.length 0 R.length k (by omega) (by omega) (Nat.zero_le _) (by omega) (Nat.le_refl _))]
 unfold slices_BinarySearchFunc.j2 has
 rcases at_lo (key := t.Key) hs with ⟨h1, h2, h3⟩ | ⟨x, h1, hx, h2, q, h3⟩
 ·rw [h1]
  by_cases c : (lo t.Key R).length < R.length
  ·have ek := byKey_eq (hb _ (List.getElem_mem c)) ht
   rw [if_pos (by omega), if_pos (by omega), rd_eq c, bind_eq ek, if_neg (h3 c)]
   split <;> simp
  ·rw [if_neg (by omega)]; rfl
 ·rw [h1]
  have ek := byKey_eq (hb _ (List.getElem_mem q)) ht
  rw [if_pos (by omega), if_pos (by omega), rd_eq q, bind_eq ek, h3, hx, cm_irr]
  simp
theorem rising_eq {k : Nat} (hk : Fuel k) {R : List api_Row} (hl : R.length ≤ 100000000000) (hb : ∀ r ∈ R, brange r.Key) : ∃ b, merkle_rising.f k R = some b ∧ (b = true ↔ Srt R) := by
 have h24 : 1099511627776 ≤ k := hk
 unfold merkle_rising.f
 have L := loop_inv (f := fun (s_ : Int) => merkle_rising.b1 R s_) (I := fun i s => s = ((i + 1 : Nat) : Int) ∧ ∀ q (h : q + 1 < R.length), q < i → cm R[q].Key R[q + 1].Key = true) (P := fun x => (x = .inl () ∧ Srt R) ∨ (x = .inr false ∧ ¬ Srt R)) (N := R.length) ?_ ?_ R.length 0 1 k ⟨rfl, fun q _ h => absurd h (by omega)⟩ (by omega) (by omega)
 ·obtain ⟨x, e, ⟨rfl, h⟩ | ⟨rfl, h⟩⟩ := L
  ·rw [bind_eq e]; exact ⟨true, rfl, by simp [h]⟩
  ·rw [bind_eq e]; exact ⟨false, rfl, by simp [h]⟩
 ·rintro i _ hi ⟨rfl, hq⟩
  simp only [merkle_rising.b1]
  by_cases c : i + 1 < R.length
  ·have ek := byKey_eq (hb _ (List.getElem_mem (show i < R.length by omega))) (hb _ (List.getElem_mem c))
   have e1 : IntKind.i64.wrap (((i + 1 : Nat) : Int) - 1) = ((i : Nat) : Int) := by rw [wr (by omega) (by omega)]; omega
   rw [if_pos (by omega), e1, if_pos (by omega), if_pos (by omega), rd_eq (by omega : i < R.length), rd_eq c, bind_eq ek]
   cases d : cm R[i].Key R[i + 1].Key with
   | true =>
    rw [if_pos rfl, if_neg (by omega), wrS (i + 1) (by omega)]
    refine .inl ⟨_, rfl, rfl, fun q h hqi => ?_⟩
    rcases Nat.lt_or_ge q i with g | g
    ·exact hq q h g
    ·obtain rfl : q = i := by omega
     exact d
   | false =>
    rw [if_pos (by rw [if_neg (by simp)]; split <;> omega)]
    refine .inr ⟨_, rfl, .inr ⟨rfl, fun h => ?_⟩⟩
    have := List.pairwise_iff_getElem.1 h i (i + 1) (by omega) c (by omega)
    rw [d] at this; cases this
  ·rw [if_neg (by omega)]
   refine .inr ⟨_, rfl, .inl ⟨rfl, ?_⟩⟩
   refine List.pairwise_iff_getElem.2 fun a b ha hb hab => ?_
   have key : ∀ d (h : a + d + 1 < R.length), cm R[a].Key R[a + d + 1].Key = true := by
    intro d
    induction d with
    | zero => intro h; exact hq a h (by omega)
    | succ d ih => intro h; exact cm_tr (ih (by omega)) (hq (a + d + 1) h (by omega))
   obtain ⟨d, rfl⟩ : ∃ d, b = a + d + 1 := ⟨b - a - 1, by omega⟩
   exact key d hb
 ·rintro _ ⟨rfl, hq⟩
  simp only [merkle_rising.b1]
  rw [if_neg (by omega)]
  refine ⟨_, rfl, .inl ⟨rfl, ?_⟩⟩
  refine List.pairwise_iff_getElem.2 fun a b ha hb hab => ?_
  have key : ∀ d (h : a + d + 1 < R.length), cm R[a].Key R[a + d + 1].Key = true := by
   intro d
   induction d with
   | zero => intro h; exact hq a h (by omega)
   | succ d ih => intro h; exact cm_tr (ih (by omega)) (hq (a + d + 1) h (by omega))
  obtain ⟨d, rfl⟩ : ∃ d, b = a + d + 1 := ⟨b - a - 1, by omega⟩
  exact key d hb
def fbk (b : Nat) (R : List api_Row) : List api_Row := R.filter fun r => decide (bkt r.Key = b)
theorem flt_comm {α : Type} (p q : α → Bool) (l : List α) : (l.filter p).filter q = (l.filter q).filter p := by
 rw [List.filter_filter, List.filter_filter]
 congr 1
 funext x
 exact Bool.and_comm ..
theorem lo_fb (key : List Int) (b : Nat) (R : List api_Row) : lo key (fbk b R) = fbk b (lo key R) := flt_comm ..
theorem hi_fb (key : List Int) (b : Nat) (R : List api_Row) : hi key (fbk b R) = fbk b (hi key R) := flt_comm ..
theorem md_fb (key : List Int) (R : List api_Row) : md key (fbk (bkt key) R) = md key R := by
 unfold md fbk
 rw [flt_comm]
 apply filter_all
 intro x hx
 have : x.Key = key := by simpa using (List.mem_filter.1 hx).2
 rw [this]; simp
theorem fb_app (b : Nat) (l m : List api_Row) : fbk b (l ++ m) = fbk b l ++ fbk b m := List.filter_append ..
theorem fb_put (r : api_Row) (R : List api_Row) : fbk (bkt r.Key) (putL r R) = putL r (fbk (bkt r.Key) R) := by
 unfold putL
 rw [fb_app, lo_fb, hi_fb]
 congr 1
 unfold fbk
 rw [List.filter_cons_of_pos (by simp)]
theorem fb_put_ne {r : api_Row} {R : List api_Row} (h : Srt R) {b : Nat} (hb : b ≠ bkt r.Key) : fbk b (putL r R) = fbk b R := by
 obtain ⟨h1, h2⟩ := h.split r.Key
 have e1 : fbk b R = fbk b (lo r.Key R ++ (md r.Key R ++ hi r.Key R)) := congrArg _ h1
 have e2 : fbk b (md r.Key R) = [] := filter_none fun x hx => by
  have : x.Key = r.Key := by simpa using (List.mem_filter.1 hx).2
  rw [this]; simpa using fun q => hb q.symm
 rw [e1, fb_app, fb_app, e2, List.nil_append]
 unfold putL
 rw [fb_app]
 congr 1
 unfold fbk
 rw [List.filter_cons_of_neg (by simpa using fun q => hb q.symm)]
theorem fb_del (key : List Int) (b : Nat) (R : List api_Row) : fbk b (delL key R) = delL key (fbk b R) := flt_comm ..
theorem fb_del_ne {key : List Int} {b : Nat} (hb : b ≠ bkt key) (R : List api_Row) : fbk b (delL key R) = fbk b R := by
 rw [fb_del]
 apply filter_all
 intro x hx
 have h1 : bkt x.Key = b := by simpa [fbk] using (List.mem_filter.1 hx).2
 have : x.Key ≠ key := fun q => hb (by rw [← h1, q])
 simpa using this
theorem fb_len (b : Nat) (R : List api_Row) : (fbk b R).length ≤ R.length := List.length_filter_le ..
theorem fb_mem {b : Nat} {R : List api_Row} {x : api_Row} (h : x ∈ fbk b R) : x ∈ R := (List.mem_filter.1 h).1
theorem RL.fbk {R : List api_Row} (h : RL R) (b : Nat) : RL (fbk b R) := ⟨Nat.le_trans (fb_len b R) h.1, fun r hr => h.2 r (fb_mem hr)⟩
theorem RL.br {R : List api_Row} (h : RL R) : ∀ r ∈ R, brange r.Key := fun r hr => (h.2 r hr).2.2
theorem td {α : Type} {R l m : List α} (h : R = l ++ m) : R.take l.length = l ∧ R.drop l.length = m := by subst h; simp
theorem sx {α : Type} {R l m : List α} {x : α} (h : R = l ++ x :: m) (r : α) : R.set l.length r = l ++ r :: m ∧ R.take l.length = l ∧ R.drop (l.length + 1) = m := by
 subst h
 refine ⟨by simp, by simp, ?_⟩
 rw [← List.drop_drop, List.drop_left]; rfl
theorem own_eq {r : api_Row} (h1 : r.Key.length ≤ 1000000000) (h2 : r.Value.length ≤ 1000000000) : merkle_own.f r = some r := by
 unfold merkle_own.f bytes_Clone.f
 rw [if_pos (by omega), Option.bind_some, if_pos (by omega), Option.bind_some]
theorem own_RB {r : api_Row} (h : RB r) : merkle_own.f r = some r := own_eq (by have := h.1; omega) (by have := h.2.1; omega)
theorem rd_set {α : Type} [Inhabited α] (l : List α) (i n : Nat) (v : α) (hi : i < l.length) : rd (l.set i v) (n : Int) = if n = i then v else rd l (n : Int) := by
 unfold rd
 simp only [Int.toNat_natCast, List.getD_eq_getElem?_getD, List.getElem?_set]
 by_cases e : n = i
 ·subst e; simp [hi]
 ·rw [if_neg (fun q => e q.symm), if_neg e]
theorem tdiv2 (i : Nat) : Int.tdiv (i : Int) 2 = ((i / 2 : Nat) : Int) := (Int.ofNat_tdiv i 2).symm
def nodeOk (k : Nat) (bits : Int) (D : List Int) (n : Nat) : Prop := rd D (n : Int) = hPair k bits (rd D ((2 * n : Nat) : Int)) (rd D ((2 * n + 1 : Nat) : Int))
def offPath (i n : Nat) : Prop := ∀ s, n ≠ i / 2 ^ s
theorem offPath.half {i n : Nat} (h : offPath (i / 2) n) (hn : n ≠ i) : offPath i n := fun s => by
 cases s with
 | zero => simpa using hn
 | succ s =>
  have := h s
  rwa [Nat.div_div_eq_div_mul, Nat.mul_comm, ← Nat.pow_succ] at this
theorem climb {k : Nat} (hk : Fuel k) {bits : Int} (hb : okb bits) {ob : Mer} (ho : ob.bits = bits) : ∀ (s i m : Nat) (D : List Int), i < 2 ^ s → s < m → D.length = 512 → i < 256 → (∀ n : Nat, 1 ≤ n → n < 256 → offPath i n → nodeOk k bits D n) →
  ∃ D', loop (fun (s_ : Int × (List Int)) => merkle_Tree_changed.b2 k ob s_.1 s_.2) m ((i : Int), D) = some D' ∧ D'.length = 512 ∧ (∀ n : Nat, 1 ≤ n → n < 256 → nodeOk k bits D' n) ∧ ∀ n : Nat, 256 ≤ n → rd D' (n : Int) = rd D (n : Int)
 | _, _, 0, _, _, h, _, _, _ => absurd h (by omega)
 | s, 0, m + 1, D, hs, hm, hD, hi, hO => by
  refine ⟨D, loop_done ?_, hD, fun n h1 h2 => hO n h1 h2 (fun s => by rw [Nat.zero_div]; omega), fun _ _ => rfl⟩
  unfold merkle_Tree_changed.b2
  rw [if_neg (by simp)]
 | 0, i + 1, _ + 1, _, hs, _, _, _, _ => absurd hs (by simp)
 | s + 1, i + 1, m + 1, D, hs, hm, hD, hi, hO => by
  obtain ⟨q, hq⟩ : ∃ q, q = i + 1 := ⟨_, rfl⟩
  rw [← hq] at hs hi hO ⊢
  have hlt : q / 2 < 2 ^ s := by rw [Nat.pow_succ] at hs; omega
  have hv := ofPair_eq hk hb (rd D ((2 * q : Nat) : Int)) (rd D ((2 * q + 1 : Nat) : Int))
  obtain ⟨D', e, g1, g2, g3⟩ := climb hk hb ho s (q / 2) m (D.set q (hPair k bits (rd D ((2 * q : Nat) : Int)) (rd D ((2 * q + 1 : Nat) : Int)))) hlt (by omega) (by simpa using hD) (by omega) (fun n h1 h2 h3 => by
   have hql : q < D.length := by omega
   unfold nodeOk
   have n1 : ¬ (2 * n = q) := fun e => h3 0 (by simp; omega)
   have n2 : ¬ (2 * n + 1 = q) := fun e => h3 0 (by simp; omega)
   rw [rd_set D q n _ hql, rd_set D q (2 * n) _ hql, rd_set D q (2 * n + 1) _ hql, if_neg n1, if_neg n2]
   by_cases c : n = q
   ·rw [if_pos c, c]
   ·rw [if_neg c]; exact hO n h1 h2 (h3.half c))
  refine ⟨D', ?_, g1, g2, fun n hn => by rw [g3 n hn, rd_set D q n _ (by omega), if_neg (by omega)]⟩
  rw [loop_next (s' := (((q / 2 : Nat) : Int), D.set q (hPair k bits (rd D ((2 * q : Nat) : Int)) (rd D ((2 * q + 1 : Nat) : Int))))), e]
  have w1 : IntKind.i64.wrap (2 * (q : Int)) = ((2 * q : Nat) : Int) := by rw [wr (by omega) (by omega)]; omega
  have w2 : IntKind.i64.wrap (((2 * q : Nat) : Int) + 1) = ((2 * q + 1 : Nat) : Int) := by rw [wr (by omega) (by omega)]; omega
  have w3 : IntKind.i64.wrap (Int.tdiv (q : Int) 2) = ((q / 2 : Nat) : Int) := by rw [tdiv2, wr (by omega) (by omega)]
  unfold merkle_Tree_changed.b2
  simp only
  rw [if_pos (by omega), w1, w2, ho, if_pos (by omega), if_pos (by omega), bind_eq hv, if_pos (by omega), w3, Int.toNat_natCast]
structure MI (k : Nat) (bits : Int) (t : Mer) (R : List api_Row) : Prop where
 hbits : t.bits = bits
 many : t.many = (R.length : Int)
 rl : t.rows.length = 256
 rows : ∀ b : Nat, b < 256 → rd t.rows (b : Int) = fbk b R
 dl : t.digests.length = 512
 leaf : ∀ b : Nat, b < 256 → rd t.digests ((256 + b : Nat) : Int) = hBk k bits (fbk b R)
 node : ∀ n : Nat, 1 ≤ n → n < 256 → nodeOk k bits t.digests n
theorem changed_eq {k : Nat} (hk : Fuel k) {bits : Int} (hb : okb bits) {t : Mer} {R : List api_Row} {b : Nat} (hbl : b < 256) (h1 : t.bits = bits) (h2 : t.many = (R.length : Int)) (h3 : t.rows.length = 256) (h4 : ∀ b : Nat, b < 256 → rd t.rows (b : Int) = fbk b R) (h5 : t.digests.length = 512)
  (h6 : ∀ b' : Nat, b' < 256 → b' ≠ b → rd t.digests ((256 + b' : Nat) : Int) = hBk k bits (fbk b' R)) (h7 : ∀ n : Nat, 1 ≤ n → n < 256 → nodeOk k bits t.digests n) (hR : RL R) :
  ∃ t', merkle_Tree_changed.f k (some t) (b : Int) = some (some t') ∧ MI k bits t' R := by
 have h24 : 1099511627776 ≤ k := hk
 have ev : merkle_ofBucket.f k (rd t.rows (b : Int)) t.bits = some (hBk k bits (fbk b R)) := by rw [h4 b hbl, h1]; exact ofBucket_eq hk hb (hR.fbk b)
 have w1 : IntKind.i64.wrap (256 + (b : Int)) = ((256 + b : Nat) : Int) := by rw [wr (by omega) (by omega)]; omega
 have w2 : IntKind.i64.wrap (Int.tdiv ((256 + b : Nat) : Int) 2) = (((256 + b) / 2 : Nat) : Int) := by rw [tdiv2, wr (by omega) (by omega)]
 have hql : 256 + b < t.digests.length := by omega
 obtain ⟨D', e, g1, g2, g3⟩ := climb hk hb (ob := t) h1 8 ((256 + b) / 2) k (t.digests.set (256 + b) (hBk k bits (fbk b R))) (show (256 + b) / 2 < 256 by omega) (by omega) (by simpa using h5) (by omega) (fun n n1 n2 n3 => by
  have q0 := n3 0
  simp only [Nat.pow_zero, Nat.div_one] at q0
  unfold nodeOk
  rw [rd_set _ _ n _ hql, rd_set _ _ (2 * n) _ hql, rd_set _ _ (2 * n + 1) _ hql, if_neg (by omega), if_neg (by omega), if_neg (by omega)]
  exact h7 n n1 n2)
 refine ⟨Mer.mk t.bits D' t.rows t.many, ?_, h1, h2, h3, h4, g1, fun b' hb' => ?_, g2⟩
 ·unfold merkle_Tree_changed.f merkle_Tree_changed.j1
  rw [Option.bind_some, if_pos (by omega), bind_eq ev, w1, if_pos (by omega), w2, Int.toNat_natCast, bind_eq e]
  rfl
 ·show rd D' ((256 + b' : Nat) : Int) = _
  rw [g3 _ (by omega), rd_set _ _ _ _ hql]
  by_cases c : b' = b
  ·rw [if_pos (by omega), c]
  ·rw [if_neg (by omega)]; exact h6 b' hb' c
theorem at_eq {k : Nat} (hk : Fuel k) {bits : Int} {t : Mer} {R : List api_Row} (h : MI k bits t R) (hR : RL R) (hs : Srt R) {key : List Int} (hkl : key.length ≤ 1000000000) (hkb : brange key) :
  merkle_Tree_at.f k (some t) key = some ((bkt key : Int), ((lo key (fbk (bkt key) R)).length : Int), has key R) := by
 have hl := bkt_lt key
 have hf := hR.fbk (bkt key)
 have es : slices_BinarySearchFunc.f k (fbk (bkt key) R) (api_Row.mk key [] 0) = some (((lo key (fbk (bkt key) R)).length : Int), has key (fbk (bkt key) R)) := search_eq hk (R := fbk (bkt key) R) (by have := hf.1; omega) (hs.filter _) hf.br (t := api_Row.mk key [] 0) hkb
 unfold merkle_Tree_at.f
 rw [bind_eq (bucket_eq hk hkl), Option.bind_some, if_pos (by omega), h.rows (bkt key) hl, bind_eq es]
 simp only [has, md_fb]
theorem Get_eq {k : Nat} (hk : Fuel k) {bits : Int} {t : Mer} {R : List api_Row} (h : MI k bits t R) (hR : RL R) (hs : Srt R) {key : List Int} (hkl : key.length ≤ 1000000000) (hkb : brange key) :
  merkle_Tree_Get.f k (some t) key = some (match md key R with | [] => (api_Row.mk [] [] 0, false) | x :: _ => (x, true)) := by
 have hl := bkt_lt key
 unfold merkle_Tree_Get.f
 rw [if_neg (by simp), bind_eq (at_eq hk h hR hs hkl hkb)]
 dsimp only
 rcases at_lo (key := key) (hs.filter fun r => decide (bkt r.Key = bkt key)) with ⟨h1, h2, h3⟩ | ⟨x, h1, hx, h2, q, h3⟩
 ·have h1 : md key (fbk (bkt key) R) = [] := h1
  rw [md_fb] at h1
  have hh : ¬ has key R = true := by unfold has; rw [h1]; simp
  rw [if_neg hh, h1]
 ·have h1 : md key (fbk (bkt key) R) = [x] := h1
  have q : (lo key (fbk (bkt key) R)).length < (fbk (bkt key) R).length := q
  have h3 : (fbk (bkt key) R)[(lo key (fbk (bkt key) R)).length] = x := h3
  rw [md_fb] at h1
  have hm : x ∈ R := by
   have : x ∈ md key R := by rw [h1]; exact List.mem_singleton.2 rfl
   exact (List.mem_filter.1 this).1
  have hh : has key R = true := by unfold has; rw [h1]; simp
  rw [if_pos hh, h1, Option.bind_some, if_pos (by omega), h.rows (bkt key) hl, if_pos (by omega), rd_eq q, h3, bind_eq (own_RB (hR.2 x hm))]
theorem Digest_eq {t : Mer} {n : Nat} (h0 : 1 ≤ n) (h1 : n < 512) : merkle_Tree_Digest.f (some t) (n : Int) = some (rd t.digests (n : Int)) := by
 unfold merkle_Tree_Digest.f merkle_Tree_Digest.j1
 rw [if_neg (by simp), if_neg (by omega), decide_eq_false (by omega), if_neg (by simp), Option.bind_some, if_pos (by omega)]
theorem Root_eq {t : Mer} : merkle_Tree_Root.f (some t) = some (rd t.digests 1) := by
 unfold merkle_Tree_Root.f
 have := Digest_eq (t := t) (n := 1) (by omega) (by omega)
 have e1 : ((1 : Nat) : Int) = 1 := rfl
 rw [e1] at this
 rw [bind_eq this]
theorem put_len_has {r x : api_Row} {R : List api_Row} (hs : Srt R) (h : md r.Key R = [x]) : (putL r R).length = R.length := by
 have := lo_len (key := r.Key) hs
 rw [h] at this
 simp only [putL, List.length_append, List.length_cons, List.length_nil] at this ⊢
 omega
theorem put_len_new {r : api_Row} {R : List api_Row} (hs : Srt R) (h : md r.Key R = []) : (putL r R).length = R.length + 1 := by
 have := lo_len (key := r.Key) hs
 rw [h] at this
 simp only [putL, List.length_append, List.length_cons, List.length_nil] at this ⊢
 omega
theorem rd_rows {k : Nat} {bits : Int} {t : Mer} {R : List api_Row} (h : MI k bits t R) (b b' : Nat) (v : List api_Row) (hb : b < 256) : rd (t.rows.set b v) (b' : Int) = if b' = b then v else rd t.rows (b' : Int) := rd_set _ _ _ _ (by rw [h.rl]; exact hb)
theorem Put_eq {k : Nat} (hk : Fuel k) {bits : Int} (hb : okb bits) {t : Mer} {R : List api_Row} (h : MI k bits t R) (hR : RL R) (hR' : R.length + 1 ≤ 4194304) (hs : Srt R) {r : api_Row} (hr : RB r) :
  ∃ t', merkle_Tree_Put.f k (some t) r = some (some t') ∧ MI k bits t' (putL r R) ∧ RL (putL r R) ∧ Srt (putL r R) := by
 have hl := bkt_lt r.Key
 have hf := hR.fbk (bkt r.Key)
 have hkl : r.Key.length ≤ 1000000000 := by have := hr.1; omega
 have hRP : RL (putL r R) := by
  refine ⟨?_, fun x hx => ?_⟩
  ·rcases (hs.split r.Key).2 with q | ⟨x, q, _⟩
   ·rw [put_len_new hs q]; exact hR'
   ·rw [put_len_has hs q]; exact hR.1
  ·rcases putL_mem hx with rfl | hx
   ·exact hr
   ·exact hR.2 x hx
 have hrows : ∀ (v : List api_Row), v = putL r (fbk (bkt r.Key) R) → ∀ b : Nat, b < 256 → rd (t.rows.set (bkt r.Key) v) (b : Int) = fbk b (putL r R) := fun v hv b hb => by
  rw [rd_rows h _ _ _ hl]
  by_cases c : b = bkt r.Key
  ·rw [if_pos c, hv, c, fb_put]
  ·rw [if_neg c, h.rows b hb, fb_put_ne hs c]
 have hleaf : ∀ b' : Nat, b' < 256 → b' ≠ bkt r.Key → rd t.digests ((256 + b' : Nat) : Int) = hBk k bits (fbk b' (putL r R)) := fun b' hb' c => by rw [h.leaf b' hb', fb_put_ne hs c]
 unfold merkle_Tree_Put.f
 rw [if_neg (by simp), bind_eq (at_eq hk h hR hs hkl hr.2.2)]
 dsimp only
 rcases at_lo (key := r.Key) (hs.filter fun x => decide (bkt x.Key = bkt r.Key)) with ⟨h1, h2, h3⟩ | ⟨x, h1, hx, h2, q, h3⟩
 ·have h1 : md r.Key (fbk (bkt r.Key) R) = [] := h1
  have h2 : fbk (bkt r.Key) R = lo r.Key (fbk (bkt r.Key) R) ++ hi r.Key (fbk (bkt r.Key) R) := h2
  rw [md_fb] at h1
  have hlen := congrArg List.length h2
  rw [List.length_append] at hlen
  have hi1 := hf.1
  have ei : slices_Insert.f (fbk (bkt r.Key) R) ((lo r.Key (fbk (bkt r.Key) R)).length : Int) [r] = some (putL r (fbk (bkt r.Key) R)) := by
   unfold slices_Insert.f
   rw [if_pos ⟨by omega, by omega, rfl, by omega⟩]
   congr 1
   rw [Int.toNat_natCast]
   rw [(td h2).1, (td h2).2]
   unfold putL
   simp
  have hmany : IntKind.i64.wrap (t.many + 1) = ((putL r R).length : Int) := by rw [h.many, put_len_new hs h1, wr (by omega) (by omega)]; omega
  obtain ⟨t', e, g⟩ := changed_eq hk hb (t := Mer.mk t.bits t.digests (t.rows.set (bkt r.Key) (putL r (fbk (bkt r.Key) R))) ((putL r R).length : Int)) (R := putL r R) hl h.hbits rfl (by simpa using h.rl) (hrows _ rfl) h.dl hleaf h.node hRP
  refine ⟨t', ?_, g, hRP, putL_srt hs⟩
  have hh : ¬ has r.Key R = true := by unfold has; rw [h1]; simp
  rw [if_neg hh, Option.bind_some, if_pos (by omega), bind_eq (own_RB hr), h.rows (bkt r.Key) hl, bind_eq ei]
  unfold merkle_Tree_Put.j1
  simp only [Int.toNat_natCast]
  rw [hmany, bind_eq e]
 ·have h1 : md r.Key (fbk (bkt r.Key) R) = [x] := h1
  have h2 : fbk (bkt r.Key) R = lo r.Key (fbk (bkt r.Key) R) ++ x :: hi r.Key (fbk (bkt r.Key) R) := h2
  have q : (lo r.Key (fbk (bkt r.Key) R)).length < (fbk (bkt r.Key) R).length := q
  rw [md_fb] at h1
  have ei : (fbk (bkt r.Key) R).set (lo r.Key (fbk (bkt r.Key) R)).length r = putL r (fbk (bkt r.Key) R) := by
   exact (sx h2 r).1
  have hmany : t.many = ((putL r R).length : Int) := by rw [h.many, put_len_has hs h1]
  obtain ⟨t', e, g⟩ := changed_eq hk hb (t := Mer.mk t.bits t.digests (t.rows.set (bkt r.Key) (putL r (fbk (bkt r.Key) R))) t.many) (R := putL r R) hl h.hbits hmany (by simpa using h.rl) (hrows _ rfl) h.dl hleaf h.node hRP
  refine ⟨t', ?_, g, hRP, putL_srt hs⟩
  have hh : has r.Key R = true := by unfold has; rw [h1]; simp
  rw [if_pos hh, Option.bind_some, if_pos (by omega), bind_eq (own_RB hr), h.rows (bkt r.Key) hl, if_pos (by omega)]
  simp only [Int.toNat_natCast]
  rw [ei, bind_eq e]
theorem Delete_eq {k : Nat} (hk : Fuel k) {bits : Int} (hb : okb bits) {t : Mer} {R : List api_Row} (h : MI k bits t R) (hR : RL R) (hs : Srt R) {key : List Int} (hkl : key.length ≤ 1000000000) (hkb : brange key) :
  ∃ t', merkle_Tree_Delete.f k (some t) key = some (has key R, some t') ∧ MI k bits t' (delL key R) ∧ RL (delL key R) ∧ Srt (delL key R) := by
 have hl := bkt_lt key
 have hf := hR.fbk (bkt key)
 have hRD : RL (delL key R) := ⟨Nat.le_trans (List.length_filter_le ..) hR.1, fun x hx => hR.2 x (List.mem_filter.1 hx).1⟩
 have hSD : Srt (delL key R) := hs.filter _
 unfold merkle_Tree_Delete.f
 rw [if_neg (by simp), bind_eq (at_eq hk h hR hs hkl hkb)]
 dsimp only
 rcases at_lo (key := key) (hs.filter fun x => decide (bkt x.Key = bkt key)) with ⟨h1, h2, h3⟩ | ⟨x, h1, hx, h2, q, h3⟩
 ·have h1 : md key (fbk (bkt key) R) = [] := h1
  rw [md_fb] at h1
  have e : delL key R = R := filter_all fun x hx => by
   cases c : decide (x.Key = key) with
   | false => rfl
   | true =>
    have : x ∈ md key R := List.mem_filter.2 ⟨hx, c⟩
    rw [h1] at this; cases this
  have hh : ¬ has key R = true := by unfold has; rw [h1]; simp
  rw [if_neg hh, e]
  exact ⟨t, rfl, h, hR, hs⟩
 ·have h1 : md key (fbk (bkt key) R) = [x] := h1
  have h2 : fbk (bkt key) R = lo key (fbk (bkt key) R) ++ x :: hi key (fbk (bkt key) R) := h2
  have q : (lo key (fbk (bkt key) R)).length < (fbk (bkt key) R).length := q
  rw [md_fb] at h1
  have hf1 := hf.1
  have ed : slices_Delete.f (fbk (bkt key) R) ((lo key (fbk (bkt key) R)).length : Int) (IntKind.i64.wrap (((lo key (fbk (bkt key) R)).length : Int) + 1)) = some (delL key (fbk (bkt key) R)) := by
   rw [wrS _ (by omega)]
   unfold slices_Delete.f
   rw [if_pos ⟨by omega, by omega, by omega⟩, delL_eq (R := fbk (bkt key) R) (hs.filter _)]
   congr 1
   simp only [Int.toNat_natCast]
   rw [(sx h2 x).2.1, (sx h2 x).2.2]
  have hlen : R.length = (delL key R).length + 1 := by
   have := lo_len (key := key) hs
   rw [delL_eq hs, List.length_append]
   rw [h1] at this
   simp only [List.length_cons, List.length_nil] at this
   omega
  have hmany : IntKind.i64.wrap (t.many - 1) = ((delL key R).length : Int) := by
   have := hR.1
   rw [h.many, wr (by omega) (by omega)]; omega
  have hrows : ∀ b : Nat, b < 256 → rd (t.rows.set (bkt key) (delL key (fbk (bkt key) R))) (b : Int) = fbk b (delL key R) := fun b hb => by
   rw [rd_rows h _ _ _ hl]
   by_cases c : b = bkt key
   ·rw [if_pos c, c, fb_del]
   ·rw [if_neg c, h.rows b hb, fb_del_ne c]
  obtain ⟨t', e, g⟩ := changed_eq hk hb (t := Mer.mk t.bits t.digests (t.rows.set (bkt key) (delL key (fbk (bkt key) R))) ((delL key R).length : Int)) (R := delL key R) hl h.hbits rfl (by simpa using h.rl) hrows h.dl (fun b' hb' c => by rw [fb_del_ne c]; exact h.leaf b' hb') h.node hRD
  refine ⟨t', ?_, g, hRD, hSD⟩
  have hh : has key R = true := by unfold has; rw [h1]; simp
  rw [if_pos hh, Option.bind_some, if_pos (by omega), h.rows (bkt key) hl, bind_eq ed]
  unfold merkle_Tree_Delete.j1
  simp only [Int.toNat_natCast]
  rw [hmany, bind_eq e]
theorem fb_snoc (b : Nat) (l : List api_Row) (r : api_Row) : fbk b (l ++ [r]) = if bkt r.Key = b then fbk b l ++ [r] else fbk b l := by
 rw [fb_app]
 by_cases c : bkt r.Key = b
 ·rw [if_pos c]; congr 1; unfold fbk; rw [List.filter_cons_of_pos (by simpa using c)]; rfl
 ·rw [if_neg c]
  have : fbk b [r] = [] := by unfold fbk; rw [List.filter_cons_of_neg (by simpa using c)]; rfl
  rw [this, List.append_nil]
theorem New_eq {k : Nat} (hk : Fuel k) {bits : Int} (hb : okb bits) {R : List api_Row} (hR : RL R) (hs : Srt R) : ∃ t, merkle_New.f k R bits = some (some t, 0) ∧ MI k bits t R := by
 have h24 : 1099511627776 ≤ k := hk
 obtain ⟨b, eb, hbr⟩ := rising_eq hk (by have := hR.1; omega) hR.br
 have ht := hbr.2 hs
 subst ht
 have hRl := hR.1
 unfold merkle_New.f merkle_New.j1
 rw [if_neg (by omega), decide_eq_false (by omega), if_neg (by simp), bind_eq eb, if_pos rfl]
 have L := loop_inv (f := fun (s_ : Int × (List (List api_Row))) => merkle_New.b2 k R s_.1 s_.2) (I := fun i s => s.1 = (i : Int) ∧ s.2.length = 256 ∧ ∀ b : Nat, b < 256 → rd s.2 (b : Int) = fbk b (R.take i)) (P := fun x => x.length = 256 ∧ ∀ b : Nat, b < 256 → rd x (b : Int) = fbk b R) (N := R.length) ?_ ?_ R.length 0 (0, List.replicate 256 []) k ⟨rfl, List.length_replicate .., fun b hb => ?_⟩ (by omega) (by omega)
 ·obtain ⟨S, eS, hS, hB⟩ := L
  rw [bind_eq eS]
  unfold merkle_New.j3
  have M := loop_inv (f := fun (s_ : Int × (List Int)) => merkle_New.b4 k bits S s_.1 s_.2) (I := fun i s => s.1 = (i : Int) ∧ s.2.length = 512 ∧ ∀ b : Nat, b < i → rd s.2 ((256 + b : Nat) : Int) = hBk k bits (fbk b R)) (P := fun x => x.length = 512 ∧ ∀ b : Nat, b < 256 → rd x ((256 + b : Nat) : Int) = hBk k bits (fbk b R)) (N := 256) ?_ ?_ 256 0 (0, List.replicate 512 (0 : Int)) k ⟨rfl, List.length_replicate .., fun b h => absurd h (by omega)⟩ (by omega) (by omega)
  ·obtain ⟨D, eD, hD, hDl⟩ := M
   rw [bind_eq eD]
   unfold merkle_New.j5
   have O := loop_inv (f := fun (s_ : Int × (List Int)) => merkle_New.b6 k bits s_.1 s_.2) (I := fun i s => s.1 = 255 - (i : Int) ∧ s.2.length = 512 ∧ (∀ b : Nat, b < 256 → rd s.2 ((256 + b : Nat) : Int) = hBk k bits (fbk b R)) ∧ ∀ n : Nat, 255 - i < n → n < 256 → nodeOk k bits s.2 n) (P := fun x => x.length = 512 ∧ (∀ b : Nat, b < 256 → rd x ((256 + b : Nat) : Int) = hBk k bits (fbk b R)) ∧ ∀ n : Nat, 1 ≤ n → n < 256 → nodeOk k bits x n) (N := 255) ?_ ?_ 255 0 (255, D) k ⟨rfl, hD, hDl, fun n h h2 => absurd h (by omega)⟩ (by omega) (by omega)
   ·obtain ⟨D', eD', g1, g2, g3⟩ := O
    rw [bind_eq eD']
    exact ⟨_, rfl, rfl, rfl, hS, hB, g1, g2, g3⟩
   ·rintro i ⟨j, l⟩ hi ⟨hj, hl, hlf, hn⟩
    left
    simp only at hj hl hlf hn
    obtain ⟨q, hq⟩ : ∃ q : Nat, q = 255 - i := ⟨_, rfl⟩
    have hjq : j = (q : Int) := by omega
    subst hjq
    have w1 : IntKind.i64.wrap (2 * (q : Int)) = ((2 * q : Nat) : Int) := by rw [wr (by omega) (by omega)]; omega
    have w2 : IntKind.i64.wrap (((2 * q : Nat) : Int) + 1) = ((2 * q + 1 : Nat) : Int) := by rw [wr (by omega) (by omega)]; omega
    have en := ofPair_eq hk hb (rd l ((2 * q : Nat) : Int)) (rd l ((2 * q + 1 : Nat) : Int))
    have hql : q < l.length := by omega
    simp only [merkle_New.b6]
    rw [w1, w2, if_pos (by omega), if_pos (by omega), if_pos (by omega), bind_eq en, if_pos (by omega), wr (by omega) (by omega)]
    refine ⟨_, rfl, by simp only; omega, by simpa using hl, fun b hb => ?_, fun n h1 h2 => ?_⟩
    ·simp only [Int.toNat_natCast]
     rw [rd_set _ _ _ _ hql, if_neg (by omega)]; exact hlf b hb
    ·simp only [Int.toNat_natCast]
     unfold nodeOk
     rw [rd_set _ _ _ _ hql, rd_set _ _ _ _ hql, rd_set _ _ _ _ hql, if_neg (by omega : ¬ 2 * n = q), if_neg (by omega : ¬ 2 * n + 1 = q)]
     by_cases c : n = q
     ·rw [if_pos c, c]
     ·rw [if_neg c]; exact hn n (by omega) h2
   ·rintro ⟨j, l⟩ ⟨hj, hl, hlf, hn⟩
    simp only at hj hl hlf hn; subst hj
    simp only [merkle_New.b6]
    rw [if_neg (by omega)]
    exact ⟨_, rfl, hl, hlf, fun n h1 h2 => hn n (by omega) h2⟩
  ·rintro i ⟨j, l⟩ hi ⟨hj, hl, hlf⟩
   left
   simp only at hj hl hlf; subst hj
   have en : merkle_ofBucket.f k (rd S (i : Int)) bits = some (hBk k bits (fbk i R)) := by rw [hB i hi]; exact ofBucket_eq hk hb (hR.fbk i)
   have w1 : IntKind.i64.wrap (256 + (i : Int)) = ((256 + i : Nat) : Int) := by rw [wr (by omega) (by omega)]; omega
   simp only [merkle_New.b4]
   rw [if_pos (by omega), if_pos (by omega), bind_eq en, w1, if_pos (by omega), wrS i (by omega)]
   refine ⟨_, rfl, rfl, by simpa using hl, fun b hb => ?_⟩
   simp only [Int.toNat_natCast]
   rw [rd_set _ _ _ _ (by omega)]
   by_cases c : b = i
   ·rw [if_pos (by omega), c]
   ·rw [if_neg (by omega)]; exact hlf b (by omega)
  ·rintro ⟨j, l⟩ ⟨hj, hl, hlf⟩
   simp only at hj hl hlf; subst hj
   simp only [merkle_New.b4]
   rw [if_neg (by omega)]
   exact ⟨_, rfl, hl, hlf⟩
 ·rintro i ⟨j, S⟩ hi ⟨hj, hS, hB⟩
  left
  simp only at hj hS hB; subst hj
  have hr := hR.2 _ (List.getElem_mem hi)
  have hkl : R[i].Key.length ≤ 1000000000 := by have := hr.1; omega
  have hl := bkt_lt R[i].Key
  have hlen : (rd S ((bkt R[i].Key : Nat) : Int)).length ≤ 4194304 := by rw [hB _ hl]; have := fb_len (bkt R[i].Key) (R.take i); simp only [List.length_take] at this; omega
  simp only [merkle_New.b2]
  rw [if_pos (by omega), if_pos (by omega), rd_eq hi, bind_eq (bucket_eq hk hkl), if_pos (by omega), bind_eq (own_RB hr), if_pos (by simp only [List.length_singleton]; omega), wrS i (by omega)]
  refine ⟨_, rfl, rfl, by simpa using hS, fun b hb => ?_⟩
  simp only [Int.toNat_natCast]
  rw [rd_set _ _ _ _ (by omega), take_one hi, fb_snoc]
  by_cases c : b = bkt R[i].Key
  ·rw [if_pos c, if_pos c.symm, hB _ hl, c]
  ·rw [if_neg c, if_neg (fun q => c q.symm)]; exact hB b hb
 ·rintro ⟨j, S⟩ ⟨hj, hS, hB⟩
  simp only at hj hS hB; subst hj
  simp only [merkle_New.b2]
  rw [if_neg (by omega)]
  rw [List.take_length] at hB
  exact ⟨_, rfl, hS, hB⟩
 ·unfold rd
  simp only [Int.toNat_natCast, List.take_zero]
  rw [List.getD_eq_getElem?_getD, List.getElem?_replicate, if_pos hb]; rfl
theorem put_snoc {r : api_Row} {R : List api_Row} (h : ∀ x ∈ R, cm x.Key r.Key = true) : putL r R = R ++ [r] := by
 unfold putL
 have e1 : lo r.Key R = R := filter_all h
 have e2 : hi r.Key R = [] := filter_none fun x hx => cm_asym (h x hx)
 rw [e1, e2]
def sortL (X : List api_Row) : List api_Row := X.foldl (fun o r => putL r o) []
theorem sortL_snoc (X : List api_Row) (r : api_Row) : sortL (X ++ [r]) = putL r (sortL X) := by simp [sortL]
theorem sortL_take {R : List api_Row} (h : Srt R) : ∀ n, n ≤ R.length → sortL (R.take n) = R.take n
 | 0, _ => rfl
 | n + 1, hn => by
  rw [take_one (by omega), sortL_snoc, sortL_take h n (by omega)]
  apply put_snoc
  intro x hx
  obtain ⟨q, hq, rfl⟩ := List.getElem_of_mem hx
  have hq' : q < n := by simp at hq; omega
  rw [List.getElem_take]
  exact List.pairwise_iff_getElem.1 h q n (by omega) (by omega) hq'
theorem sortL_self {R : List api_Row} (h : Srt R) : sortL R = R := by
 have := sortL_take h R.length (Nat.le_refl _)
 rwa [List.take_length] at this
theorem sortL_srt : ∀ X : List api_Row, Srt (sortL X) := by
 intro X
 have key : ∀ (X o : List api_Row), Srt o → Srt (X.foldl (fun o r => putL r o) o) := by
  intro X
  induction X with
  | nil => intro o h; exact h
  | cons r X ih => intro o h; exact ih _ (putL_srt h)
 exact key X [] List.Pairwise.nil
theorem put_len_le {r : api_Row} {R : List api_Row} (hs : Srt R) : (putL r R).length ≤ R.length + 1 := by
 rcases (hs.split r.Key).2 with q | ⟨x, q, _⟩
 ·rw [put_len_new hs q]; omega
 ·rw [put_len_has hs q]; omega
theorem sortL_rl {X : List api_Row} (h : RL X) : (sortL X).length ≤ X.length ∧ ∀ r ∈ sortL X, RB r := by
 have key : ∀ (X o : List api_Row), Srt o → (∀ r ∈ X, RB r) → (∀ r ∈ o, RB r) → (X.foldl (fun o r => putL r o) o).length ≤ o.length + X.length ∧ ∀ r ∈ X.foldl (fun o r => putL r o) o, RB r := by
  intro X
  induction X with
  | nil => intro o _ _ h; exact ⟨Nat.le_refl _, h⟩
  | cons r X ih =>
   intro o hs h1 h2
   obtain ⟨g1, g2⟩ := ih (putL r o) (putL_srt hs) (fun x hx => h1 x (List.mem_cons_of_mem _ hx)) (fun x hx => by
    rcases putL_mem hx with rfl | hx
    ·exact h1 x (by simp)
    ·exact h2 x hx)
   have := put_len_le (r := r) hs
   exact ⟨by rw [List.foldl_cons, List.length_cons]; omega, g2⟩
 have := key X [] List.Pairwise.nil h.2 (fun r hr => by cases hr)
 simp only [List.length_nil, Nat.zero_add] at this
 exact this
theorem place_eq {k : Nat} (hk : Fuel k) {X out : List api_Row} (hX : RL X) (ho : Srt out) (hol : out.length ≤ 4194304) (hob : ∀ r ∈ out, RB r) {i : Nat} (hi : i < X.length) :
  loop (fun (s_ : Int) => haulagelaw10_sorted.b4 k X out (i : Int) s_) k 0 = some ((lo X[i].Key out).length : Int) := by
 have h24 : 1099511627776 ≤ k := hk
 have hXl := hX.1
 have hlen := lo_len (key := X[i].Key) ho
 have L := loop_inv (f := fun (s_ : Int) => haulagelaw10_sorted.b4 k X out (i : Int) s_) (I := fun q s => s = (q : Int)) (P := fun x => x = ((lo X[i].Key out).length : Int)) (N := (lo X[i].Key out).length) ?_ ?_ (lo X[i].Key out).length 0 0 k rfl (by omega) (by omega)
 ·obtain ⟨x, e, rfl⟩ := L
  exact e
 ·rintro q _ hq rfl
  left
  have hqo : q < out.length := by omega
  have ec := comes_eq hk out[q].Key X[i].Key (by have := (hob _ (List.getElem_mem hqo)).1; omega)
  rw [idx_lt ho hqo, decide_eq_true hq] at ec
  simp only [haulagelaw10_sorted.b4]
  rw [if_pos (by omega), if_pos (by omega), if_pos (by omega), rd_eq hqo, rd_eq hi, bind_eq ec]
  unfold haulagelaw10_sorted.j3
  rw [if_pos rfl, wrS q (by omega)]
  exact ⟨_, rfl, rfl⟩
 ·rintro _ rfl
  simp only [haulagelaw10_sorted.b4]
  by_cases c : (lo X[i].Key out).length < out.length
  ·have ec := comes_eq hk out[(lo X[i].Key out).length].Key X[i].Key (by have := (hob _ (List.getElem_mem c)).1; omega)
   rw [idx_lt ho c, decide_eq_false (by omega)] at ec
   rw [if_pos (by omega), if_pos (by omega), if_pos (by omega), rd_eq c, rd_eq hi, bind_eq ec]
   unfold haulagelaw10_sorted.j3
   rw [if_neg (by simp)]
   exact ⟨_, rfl, rfl⟩
  ·rw [if_neg (by omega)]
   unfold haulagelaw10_sorted.j3
   rw [if_neg (by simp)]
   exact ⟨_, rfl, rfl⟩
theorem sorted_eq {k : Nat} (hk : Fuel k) {X : List api_Row} (hX : RL X) : haulagelaw10_sorted.f k X = some (sortL X) := by
 have h24 : 1099511627776 ≤ k := hk
 have hXl := hX.1
 unfold haulagelaw10_sorted.f
 have L := loop_inv (f := fun (s_ : (List api_Row) × Int) => haulagelaw10_sorted.b7 k X s_.1 s_.2) (I := fun i s => s.1 = sortL (X.take i) ∧ s.2 = (i : Int)) (P := fun x => x = sortL X) (N := X.length) ?_ ?_ X.length 0 ([], 0) k ⟨rfl, rfl⟩ (by omega) (by omega)
 ·obtain ⟨x, e, rfl⟩ := L
  rw [bind_eq e]; rfl
 ·rintro i ⟨out, j⟩ hi ⟨ho, hj⟩
  left
  simp only at ho hj; subst hj
  have hTk : RL (X.take i) := ⟨by simp; omega, fun r hr => hX.2 r (List.mem_of_mem_take hr)⟩
  have hso : Srt out := by rw [ho]; exact sortL_srt _
  obtain ⟨hol, hob⟩ := sortL_rl hTk
  rw [← ho] at hol hob
  have hol' : out.length ≤ 4194304 := by have := hTk.1; omega
  have hlen := lo_len (key := X[i].Key) hso
  have hn : sortL (X.take (i + 1)) = putL X[i] out := by rw [take_one hi, sortL_snoc, ← ho]
  simp only [haulagelaw10_sorted.b7]
  rw [if_pos (by omega), bind_eq (place_eq hk hX hso hol' hob hi)]
  unfold haulagelaw10_sorted.j5
  have fin : (haulagelaw10_sorted.j6 X out (i : Int) ((lo X[i].Key out).length : Int) (has X[i].Key out)) = some (.next (putL X[i] out, ((i + 1 : Nat) : Int))) := by
   unfold haulagelaw10_sorted.j6
   rcases at_lo (key := X[i].Key) hso with ⟨h1, h2, h3⟩ | ⟨x, h1, hx, h2, q, h3⟩
   ·have hh : ¬ has X[i].Key out = true := by unfold has; rw [h1]; simp
    have ll := congrArg List.length h2
    simp only [List.length_append] at ll
    rw [if_neg hh, if_pos (by omega), if_pos (by simp only [List.length_take]; omega), if_pos (by omega), if_pos (by simp only [List.length_append, List.length_take, List.length_nil, List.length_singleton]; omega), if_pos (by omega), if_pos (by simp only [List.length_append, List.length_take, List.length_drop, List.length_nil, List.length_singleton, Int.toNat_natCast]; omega), wrS i (by omega), rd_eq hi]
    simp only [Int.toNat_natCast]
    rw [(td h2).1, (td h2).2]
    unfold putL
    simp
   ·have hh : has X[i].Key out = true := by unfold has; rw [h1]; simp
    rw [if_pos hh, if_pos (by omega), if_pos (by omega), wrS i (by omega), rd_eq hi]
    simp only [Int.toNat_natCast]
    rw [(sx h2 _).1]
    rfl
  by_cases c : (lo X[i].Key out).length < out.length
  ·have es := same_eq hk out[(lo X[i].Key out).length].Key X[i].Key (.inl (by have := (hob _ (List.getElem_mem c)).1; omega))
   have hsame : decide (out[(lo X[i].Key out).length].Key = X[i].Key) = has X[i].Key out := by
    unfold has
    rcases at_lo (key := X[i].Key) hso with ⟨h1, h2, h3⟩ | ⟨x, h1, hx, h2, q, h3⟩
    ·rw [h1]; simpa using h3 c
    ·rw [h1, h3]; simpa using hx
   rw [hsame] at es
   rw [if_pos (by omega), if_pos (by omega), if_pos (by omega), rd_eq c, rd_eq hi, bind_eq es, fin]
   exact ⟨_, rfl, hn.symm, rfl⟩
  ·have hh : has X[i].Key out = false := by
    unfold has
    rcases at_lo (key := X[i].Key) hso with ⟨h1, h2, h3⟩ | ⟨x, h1, hx, h2, q, h3⟩
    ·rw [h1]; rfl
    ·omega
   rw [hh] at fin
   rw [if_neg (by omega), fin]
   exact ⟨_, rfl, hn.symm, rfl⟩
 ·rintro ⟨out, j⟩ ⟨ho, hj⟩
  simp only at ho hj; subst hj
  simp only [haulagelaw10_sorted.b7]
  rw [if_neg (by omega)]
  rw [List.take_length] at ho
  exact ⟨_, rfl, ho⟩
abbrev CL (C : List haulagelaw10_Change) : Prop := C.length ≤ 2097152 ∧ ∀ c ∈ C, RB c.Row
def stepR (R : List api_Row) (c : haulagelaw10_Change) : List api_Row := if c.Goes = true then delL c.Row.Key R else putL c.Row R
def runR (C : List haulagelaw10_Change) : List api_Row := C.foldl stepR []
theorem has_len {key : List Int} {R : List api_Row} (hs : Srt R) : has key R = decide (((delL key R).length : Int) < (R.length : Int)) := by
 have h := lo_len (key := key) hs
 rw [delL_eq hs, List.length_append]
 unfold has
 rcases (hs.split key).2 with q | ⟨x, q, _⟩
 ·rw [q] at h ⊢
  simp only [List.length_nil] at h
  rw [decide_eq_false (by omega)]; rfl
 ·rw [q] at h ⊢
  simp only [List.length_cons, List.length_nil] at h
  rw [decide_eq_true (by omega)]; rfl
theorem left_eq {k : Nat} (hk : Fuel k) {C : List haulagelaw10_Change} (hC : CL C) {i : Nat} (hi : i < C.length) {R : List api_Row} (hR : RL R) :
  loop (fun (s_ : (List api_Row) × Int) => haulagelaw10_grown.b4 k C R (i : Int) s_.1 s_.2) k ([], 0) = some (delL C[i].Row.Key R) := by
 have h24 : 1099511627776 ≤ k := hk
 have hRl := hR.1
 have L := loop_inv (f := fun (s_ : (List api_Row) × Int) => haulagelaw10_grown.b4 k C R (i : Int) s_.1 s_.2) (I := fun q s => s.1 = delL C[i].Row.Key (R.take q) ∧ s.2 = (q : Int)) (P := fun x => x = delL C[i].Row.Key R) (N := R.length) ?_ ?_ R.length 0 ([], 0) k ⟨rfl, rfl⟩ (by omega) (by omega)
 ·obtain ⟨x, e, rfl⟩ := L
  exact e
 ·rintro q ⟨l, j⟩ hq ⟨hl, hj⟩
  left
  simp only at hl hj; subst hj
  have es := same_eq hk R[q].Key C[i].Row.Key (.inl (by have := (hR.2 _ (List.getElem_mem hq)).1; omega))
  have hll : l.length ≤ q := by
   rw [hl]
   refine Nat.le_trans (List.length_filter_le ..) ?_
   simp; omega
  have e2 : delL C[i].Row.Key (R.take (q + 1)) = if R[q].Key = C[i].Row.Key then l else l ++ [R[q]] := by
   rw [take_one hq, hl]
   unfold delL
   rw [List.filter_append]
   by_cases c : R[q].Key = C[i].Row.Key
   ·rw [if_pos c, List.filter_cons_of_neg (by simpa using c)]; simp
   ·rw [if_neg c, List.filter_cons_of_pos (by simpa using c)]; rfl
  simp only [haulagelaw10_grown.b4]
  rw [if_pos (by omega), if_pos (by omega), rd_eq hq, rd_eq hi, bind_eq es]
  by_cases c : R[q].Key = C[i].Row.Key
  ·rw [if_pos (by simpa using c), wrS q (by omega)]
   exact ⟨_, rfl, by rw [e2, if_pos c], rfl⟩
  ·rw [if_neg (by simpa using c), if_pos (by omega), if_pos (by simp only [List.length_singleton]; omega), wrS q (by omega)]
   exact ⟨_, rfl, by rw [e2, if_neg c], rfl⟩
 ·rintro ⟨l, j⟩ ⟨hl, hj⟩
  simp only at hl hj; subst hj
  simp only [haulagelaw10_grown.b4]
  rw [if_neg (by omega)]
  rw [List.take_length] at hl
  exact ⟨_, rfl, hl⟩
theorem grown_eq {k : Nat} (hk : Fuel k) {bits : Int} (hb : okb bits) {C : List haulagelaw10_Change} (hC : CL C) : ∃ t, haulagelaw10_grown.f k C bits = some (some t, runR C) ∧ MI k bits t (runR C) ∧ RL (runR C) ∧ Srt (runR C) ∧ (runR C).length ≤ C.length := by
 have h24 : 1099511627776 ≤ k := hk
 have hCl := hC.1
 obtain ⟨t0, e0, M0⟩ := New_eq hk hb (R := []) ⟨by simp, fun r hr => by cases hr⟩ List.Pairwise.nil
 unfold haulagelaw10_grown.f haulagelaw10_grown.j1
 rw [bind_eq e0]
 dsimp only
 rw [if_pos rfl, if_neg (by simp)]
 have L := loop_inv (f := fun (s_ : (Option Mer) × (List api_Row) × Int) => haulagelaw10_grown.b6 k C s_.1 s_.2.1 s_.2.2) (I := fun i s => s.2.1 = runR (C.take i) ∧ s.2.2 = (i : Int) ∧ (∃ t, s.1 = some t ∧ MI k bits t s.2.1) ∧ RL s.2.1 ∧ Srt s.2.1 ∧ s.2.1.length ≤ i) (P := fun x => ∃ t, x = .inl (some t, runR C) ∧ MI k bits t (runR C) ∧ RL (runR C) ∧ Srt (runR C) ∧ (runR C).length ≤ C.length) (N := C.length) ?_ ?_ C.length 0 (some t0, [], 0) k ⟨rfl, rfl, ⟨t0, rfl, M0⟩, ⟨by simp, fun r hr => by cases hr⟩, List.Pairwise.nil, Nat.le_refl _⟩ (by omega) (by omega)
 ·obtain ⟨x, e, t, rfl, h⟩ := L
  rw [bind_eq e]
  exact ⟨t, rfl, h⟩
 ·rintro i ⟨ot, R, j⟩ hi ⟨hr, hj, ⟨t, ht, hM⟩, hR, hs, hl⟩
  left
  simp only at hr hj ht hM hR hs hl; subst hj ht
  have hc := hC.2 _ (List.getElem_mem hi)
  have hkl : C[i].Row.Key.length ≤ 1000000000 := by have := hc.1; omega
  have hn : runR (C.take (i + 1)) = stepR R C[i] := by rw [hr]; unfold runR; rw [take_one hi, List.foldl_append]; rfl
  simp only [haulagelaw10_grown.b6]
  rw [if_pos (by omega), if_pos (by omega), rd_eq hi]
  by_cases c : C[i].Goes = true
  ·have hst : stepR R C[i] = delL C[i].Row.Key R := by unfold stepR; rw [if_pos c]
   obtain ⟨t', et, hM', hR', hs'⟩ := Delete_eq hk hb hM hR hs hkl hc.2.2
   rw [if_pos c, bind_eq (left_eq hk hC hi hR)]
   unfold haulagelaw10_grown.j5
   rw [rd_eq hi, bind_eq et]
   dsimp only
   rw [if_pos (by rw [has_len hs]; simp), wrS i (by omega)]
   exact ⟨_, rfl, by rw [hn, hst], rfl, ⟨t', rfl, hM'⟩, hR', hs', Nat.le_trans (List.length_filter_le ..) (by omega)⟩
  ·have hst : stepR R C[i] = putL C[i].Row R := by unfold stepR; rw [if_neg c]
   obtain ⟨t', et, hM', hR', hs'⟩ := Put_eq hk hb hM hR (by omega) hs hc
   have hRX : RL (R ++ [C[i].Row]) := ⟨by simp; omega, fun x hx => by
    rcases List.mem_append.1 hx with hx | hx
    ·exact hR.2 x hx
    ·rw [List.mem_singleton.1 hx]; exact hc⟩
   have eS : haulagelaw10_sorted.f k (R ++ [C[i].Row]) = some (putL C[i].Row R) := by rw [sorted_eq hk hRX, sortL_snoc, sortL_self hs]
   rw [if_neg c, bind_eq et, if_pos (by simp only [List.length_singleton]; omega), bind_eq eS, wrS i (by omega)]
   have := put_len_le (r := C[i].Row) hs
   exact ⟨_, rfl, by rw [hn, hst], rfl, ⟨t', rfl, hM'⟩, hR', hs', by show (putL C[i].Row R).length ≤ _; omega⟩
 ·rintro ⟨ot, R, j⟩ ⟨hr, hj, ⟨t, ht, hM⟩, hR, hs, hl⟩
  simp only at hr hj ht hM hR hs hl; subst hj ht
  rw [List.take_length] at hr
  simp only [haulagelaw10_grown.b6]
  rw [if_neg (by omega), hr]
  rw [hr] at hM hR hs hl
  exact ⟨_, rfl, t, rfl, hM, hR, hs, hl⟩
theorem owned_eq {k : Nat} (hk : Fuel k) {R : List api_Row} (hR : RL R) : merkle_owned.f k R = some R := by
 have h24 : 1099511627776 ≤ k := hk
 have hRl := hR.1
 unfold merkle_owned.f
 have L := loop_inv (f := fun (s_ : (List api_Row) × Int) => merkle_owned.b1 R s_.1 s_.2) (I := fun q s => s.1 = R.take q ∧ s.2 = (q : Int)) (P := fun x => x = R) (N := R.length) ?_ ?_ R.length 0 ([], 0) k ⟨rfl, rfl⟩ (by omega) (by omega)
 ·obtain ⟨x, e, rfl⟩ := L
  rw [bind_eq e]; rfl
 ·rintro q ⟨l, j⟩ hq ⟨hl, hj⟩
  left
  simp only at hl hj; subst hj
  have hll : l.length = q := by rw [hl]; simp; omega
  simp only [merkle_owned.b1]
  rw [if_pos (by omega), if_pos (by omega), rd_eq hq, bind_eq (own_RB (hR.2 _ (List.getElem_mem hq))), if_pos (by simp only [List.length_singleton]; omega), wrS q (by omega)]
  exact ⟨_, rfl, by rw [take_one hq, hl], rfl⟩
 ·rintro ⟨l, j⟩ ⟨hl, hj⟩
  simp only at hl hj; subst hj
  simp only [merkle_owned.b1]
  rw [if_neg (by omega)]
  rw [List.take_length] at hl
  exact ⟨_, rfl, hl⟩
def sib (n : Nat) : Nat := if n % 2 = 0 then n + 1 else n - 1
theorem xor_one (n : Nat) : n ^^^ 1 = sib n := by
 unfold sib
 apply Nat.eq_of_testBit_eq
 intro i
 rw [Nat.testBit_xor]
 cases i with
 | zero =>
  simp only [Nat.testBit_zero]
  by_cases c : n % 2 = 0
  ·have h2 : (n + 1) % 2 = 1 := by omega
   simp [c, h2]
  ·have h1 : n % 2 = 1 := by omega
   have h2 : (n - 1) % 2 = 0 := by omega
   simp [h1, h2]
 | succ i =>
  have h1 : Nat.testBit 1 (i + 1) = false := by
   rw [Nat.testBit_succ]; simp
  rw [h1, Bool.xor_false, Nat.testBit_succ]
  rw [Nat.testBit_succ]
  congr 1
  split <;> omega
theorem bxor_sib {n : Nat} (h : n < 1000000) : bxor .i64 (n : Int) 1 = (sib n : Int) := by
 have hs : sib n < 2000000 := by unfold sib; split <;> omega
 unfold bxor
 have e : (BitVec.ofInt IntKind.i64.bits (n : Int) ^^^ BitVec.ofInt IntKind.i64.bits 1).toNat = sib n := by
  rw [BitVec.toNat_xor]
  have e1 : BitVec.ofInt IntKind.i64.bits (1 : Int) = BitVec.ofNat 64 1 := rfl
  rw [e1]
  simp only [BitVec.ofInt_natCast, BitVec.toNat_ofNat, IntKind.bits]
  rw [Nat.mod_eq_of_lt (by omega), Nat.mod_eq_of_lt (by omega), xor_one]
 rw [e, wr (by omega) (by omega)]
theorem band_one {n : Nat} (h : n < 1000000) : band .i64 (n : Int) 1 = ((n % 2 : Nat) : Int) := by
 unfold band
 have e : (BitVec.ofInt IntKind.i64.bits (n : Int) &&& BitVec.ofInt IntKind.i64.bits 1).toNat = n % 2 := by
  rw [BitVec.toNat_and]
  have e1 : BitVec.ofInt IntKind.i64.bits (1 : Int) = BitVec.ofNat 64 1 := rfl
  rw [e1]
  simp only [BitVec.ofInt_natCast, BitVec.toNat_ofNat, IntKind.bits]
  rw [Nat.mod_eq_of_lt (by omega), Nat.mod_eq_of_lt (by omega)]
  exact Nat.and_two_pow_sub_one_eq_mod n 1
 rw [e, wr (by omega) (by omega)]
theorem shr_one (n : Nat) : shr .i64 (n : Int) 1 = ((n / 2 : Nat) : Int) := by
 unfold shr
 have : (2 : Int) ^ (min (1 : Int).toNat IntKind.i64.bits) = 2 := by decide
 rw [this, Int.fdiv_eq_ediv_of_nonneg _ (by omega)]
 omega
structure PathOk (D : List Int) (b : Nat) (L : List Int) : Prop where
 len : L.length = 8
 at_ : ∀ j : Nat, j < 8 → rd L (j : Int) = rd D ((sib ((256 + b) / 2 ^ j) : Nat) : Int)
theorem pow_lt {j : Nat} (h : j < 8) : 2 ^ j ≤ 128 := by
 have : 2 ^ j ≤ 2 ^ 7 := Nat.pow_le_pow_right (by decide) (by omega)
 have e : (2 : Nat) ^ 7 = 128 := by decide
 omega
theorem node_rng {b j : Nat} (hb : b < 256) (h : j < 8) : 2 ≤ (256 + b) / 2 ^ j ∧ (256 + b) / 2 ^ j < 512 := by
 have := pow_lt h
 have h2 := Nat.two_pow_pos j
 exact ⟨(Nat.le_div_iff_mul_le h2).2 (by omega), Nat.lt_of_le_of_lt (Nat.div_le_self ..) (by omega)⟩
theorem node_top {b : Nat} (hb : b < 256) : (256 + b) / 2 ^ 8 = 1 := by
 have e : (2 : Nat) ^ 8 = 256 := by decide
 rw [e]; omega
theorem node_next (n j : Nat) : n / 2 ^ (j + 1) = n / 2 ^ j / 2 := by rw [Nat.div_div_eq_div_mul, Nat.pow_succ]
theorem sib_lt {n : Nat} (h : n < 512) : sib n < 512 := by unfold sib; split <;> omega
theorem Prove_eq {k : Nat} (hk : Fuel k) {bits : Int} {t : Mer} {R : List api_Row} (h : MI k bits t R) (hR : RL R) {key : List Int} (hkl : key.length ≤ 1000000000) :
  ∃ L, merkle_Tree_Prove.f k (some t) key = some ⟨fbk (bkt key) R, L⟩ ∧ PathOk t.digests (bkt key) L := by
 have h24 : 1099511627776 ≤ k := hk
 have hl := bkt_lt key
 obtain ⟨b, hb⟩ : ∃ b, b = bkt key := ⟨_, rfl⟩
 unfold merkle_Tree_Prove.f
 rw [if_neg (by simp), bind_eq (bucket_eq hk hkl), Option.bind_some, if_pos (by omega), h.rows _ hl, bind_eq (owned_eq hk (hR.fbk _))]
 rw [← hb] at hl ⊢
 have w0 : IntKind.i64.wrap (256 + (b : Int)) = ((256 + b : Nat) : Int) := by rw [wr (by omega) (by omega)]; omega
 have L := loop_inv (f := fun (s_ : Int × Int × (List Int)) => merkle_Tree_Prove.b1 t s_.1 s_.2.1 s_.2.2) (I := fun i s => s.1 = (((256 + b) / 2 ^ i : Nat) : Int) ∧ s.2.1 = (i : Int) ∧ s.2.2.length = 8 ∧ ∀ j : Nat, j < i → rd s.2.2 (j : Int) = rd t.digests ((sib ((256 + b) / 2 ^ j) : Nat) : Int)) (P := fun x => PathOk t.digests b x) (N := 8) ?_ ?_ 8 0 (((256 + b : Nat) : Int), 0, List.replicate 8 (0 : Int)) k ⟨by simp, rfl, by simp, fun j h => absurd h (by omega)⟩ (by omega) (by omega)
 ·obtain ⟨x, e, hx⟩ := L
  rw [w0, bind_eq e]
  exact ⟨x, rfl, hx⟩
 ·rintro i ⟨n, j, l⟩ hi ⟨hn, hj, hll, hp⟩
  left
  simp only at hn hj hll hp; subst hn hj
  obtain ⟨n1, n2⟩ := node_rng hl hi
  have w1 : IntKind.i64.wrap (Int.tdiv (((256 + b) / 2 ^ i : Nat) : Int) 2) = (((256 + b) / 2 ^ (i + 1) : Nat) : Int) := by rw [tdiv2, node_next, wr (by omega) (by omega)]
  have hsb := sib_lt n2
  simp only [merkle_Tree_Prove.b1]
  rw [if_pos (by omega), bxor_sib (by omega), if_pos (by omega), if_pos (by omega), w1, wrS i (by omega)]
  refine ⟨_, rfl, rfl, rfl, by simpa using hll, fun j hj => ?_⟩
  simp only [Int.toNat_natCast]
  rw [rd_set _ _ _ _ (by omega)]
  by_cases c : j = i
  ·rw [if_pos c, c]
  ·rw [if_neg c]; exact hp j (by omega)
 ·rintro ⟨n, j, l⟩ ⟨hn, hj, hll, hp⟩
  simp only at hn hj hll hp; subst hn hj
  simp only [merkle_Tree_Prove.b1]
  rw [node_top hl, if_neg (by omega)]
  exact ⟨_, rfl, hll, hp⟩
def ck (k : Nat) (bits : Int) (L : List Int) (n : Nat) (a : Int) : Nat → Int
 | 0 => a
 | i + 1 => if (n / 2 ^ i) % 2 = 0 then hPair k bits (ck k bits L n a i) (rd L (i : Int)) else hPair k bits (rd L (i : Int)) (ck k bits L n a i)
theorem ck_loop {k : Nat} (hk : Fuel k) {bits : Int} (hb : okb bits) {p : merkle_Proof} (hp : p.Path.length = 8) {b : Nat} (hl : b < 256) (a : Int) :
  loop (fun (s_ : Int × Int × Int) => merkle_Check.b3 k bits p s_.1 s_.2.1 s_.2.2) k (((256 + b : Nat) : Int), a, 0) = some (ck k bits p.Path (256 + b) a 8) := by
 have h24 : 1099511627776 ≤ k := hk
 have L := loop_inv (f := fun (s_ : Int × Int × Int) => merkle_Check.b3 k bits p s_.1 s_.2.1 s_.2.2) (I := fun i s => s.1 = (((256 + b) / 2 ^ i : Nat) : Int) ∧ s.2.1 = ck k bits p.Path (256 + b) a i ∧ s.2.2 = (i : Int)) (P := fun x => x = ck k bits p.Path (256 + b) a 8) (N := 8) ?_ ?_ 8 0 (((256 + b : Nat) : Int), a, 0) k ⟨by simp, rfl, rfl⟩ (by omega) (by omega)
 ·obtain ⟨x, e, rfl⟩ := L
  exact e
 ·rintro i ⟨n, x, j⟩ hi ⟨hn, hx, hj⟩
  left
  simp only at hn hx hj; subst hn hx hj
  obtain ⟨n1, n2⟩ := node_rng hl hi
  simp only [merkle_Check.b3]
  rw [if_pos (by omega), if_pos (by omega), band_one (by omega), shr_one, wrS i (by omega), node_next]
  by_cases c : ((256 + b) / 2 ^ i) % 2 = 0
  ·rw [if_pos (by omega), bind_eq (ofPair_eq hk hb _ _)]
   exact ⟨_, rfl, rfl, by simp only [ck, if_pos c], rfl⟩
  ·rw [if_neg (by omega), bind_eq (ofPair_eq hk hb _ _)]
   exact ⟨_, rfl, rfl, by simp only [ck, if_neg c], rfl⟩
 ·rintro ⟨n, x, j⟩ ⟨hn, hx, hj⟩
  simp only at hn hx hj; subst hn hx hj
  simp only [merkle_Check.b3]
  rw [if_neg (by omega)]
  exact ⟨_, rfl, rfl⟩
theorem strange_eq {k : Nat} (hk : Fuel k) {R : List api_Row} (hR : RL R) (b : Nat) : ∃ c, slices_ContainsFunc.f k R (b : Int) = some c ∧ (c = false ↔ ∀ r ∈ R, bkt r.Key = b) := by
 have h24 : 1099511627776 ≤ k := hk
 have hRl := hR.1
 unfold slices_ContainsFunc.f slices_IndexFunc.f
 have L := loop_inv (f := fun (s_ : Int) => slices_IndexFunc.b1 k R (b : Int) s_) (I := fun q s => s = (q : Int) ∧ ∀ r ∈ R.take q, bkt r.Key = b) (P := fun x => (x = .inl () ∧ ∀ r ∈ R, bkt r.Key = b) ∨ (∃ q : Nat, x = .inr (q : Int) ∧ ¬ ∀ r ∈ R, bkt r.Key = b)) (N := R.length) ?_ ?_ R.length 0 0 k ⟨rfl, fun r h => by cases h⟩ (by omega) (by omega)
 ·obtain ⟨x, e, ⟨rfl, h⟩ | ⟨q, rfl, h⟩⟩ := L
  ·rw [bind_eq e]
   exact ⟨_, rfl, by simpa using h⟩
  ·rw [bind_eq e]
   exact ⟨_, rfl, by simp only [decide_eq_false_iff_not]; exact ⟨fun h2 => absurd (by omega) h2, fun h2 => absurd h2 h⟩⟩
 ·rintro q _ hq ⟨rfl, hp⟩
  have hr := hR.2 _ (List.getElem_mem hq)
  have eb := bucket_eq hk (p := R[q].Key) (by have := hr.1; omega)
  simp only [slices_IndexFunc.b1, merkle_Check_1.f]
  rw [if_pos (by omega), if_pos (by omega), rd_eq hq, bind_eq eb, Option.bind_some]
  by_cases c : bkt R[q].Key = b
  ·rw [if_neg (by simpa using (by omega : (bkt R[q].Key : Int) = (b : Int))), wrS q (by omega)]
   refine .inl ⟨_, rfl, rfl, fun r h => ?_⟩
   rw [take_one hq] at h
   rcases List.mem_append.1 h with h | h
   ·exact hp r h
   ·rw [List.mem_singleton.1 h]; exact c
  ·rw [if_pos (by simpa using (by omega : ¬ (bkt R[q].Key : Int) = (b : Int)))]
   exact .inr ⟨_, rfl, .inr ⟨q, rfl, fun h => c (h _ (List.getElem_mem hq))⟩⟩
 ·rintro _ ⟨rfl, hp⟩
  simp only [slices_IndexFunc.b1]
  rw [if_neg (by omega)]
  rw [List.take_length] at hp
  exact ⟨_, rfl, .inl ⟨rfl, hp⟩⟩
def zeroR : api_Row := api_Row.mk [] [] 0
def told (key : List Int) (R : List api_Row) : api_Row × Bool := match md key R with | [] => (zeroR, false) | x :: _ => (x, true)
def goodP (b : Nat) (R : List api_Row) : Prop := Srt R ∧ ∀ r ∈ R, bkt r.Key = b
theorem Check_bad {k : Nat} (hk : Fuel k) {bits root : Int} (hb : okb bits) {p : merkle_Proof} (hR : RL p.Rows) {key : List Int} (hkl : key.length ≤ 1000000000) (hg : ¬ goodP (bkt key) p.Rows) : merkle_Check.f k root bits key p = some (zeroR, false, 101) := by
 obtain ⟨b1, e1, h1⟩ := rising_eq hk (R := p.Rows) (by have := hR.1; omega) hR.br
 obtain ⟨c, ec, hc⟩ := strange_eq hk hR (bkt key)
 unfold merkle_Check.f merkle_Check.j1
 rw [if_neg (by omega), decide_eq_false (by omega), if_neg (by simp), bind_eq (bucket_eq hk hkl), bind_eq e1]
 by_cases c1 : b1 = true
 ·rw [if_pos c1, bind_eq ec]
  have : c = true := by
   cases c with
   | true => rfl
   | false => exact absurd ⟨h1.1 c1, hc.1 rfl⟩ hg
  subst this
  rfl
 ·rw [if_neg c1]; rfl
theorem Check_good {k : Nat} (hk : Fuel k) {bits root : Int} (hb : okb bits) {p : merkle_Proof} (hR : RL p.Rows) (hp : p.Path.length = 8) {key : List Int} (hkl : key.length ≤ 1000000000) (hkb : brange key) (hg : goodP (bkt key) p.Rows) :
  merkle_Check.f k root bits key p = if ck k bits p.Path (256 + bkt key) (hBk k bits p.Rows) 8 = root then some ((told key p.Rows).1, (told key p.Rows).2, 0) else some (zeroR, false, 101) := by
 obtain ⟨b1, e1, h1⟩ := rising_eq hk (R := p.Rows) (by have := hR.1; omega) hR.br
 obtain ⟨c, ec, hc⟩ := strange_eq hk hR (bkt key)
 have hl := bkt_lt key
 have t1 := h1.2 hg.1
 have t2 := hc.2 hg.2
 subst t1 t2
 have w0 : IntKind.i64.wrap (256 + (bkt key : Int)) = ((256 + bkt key : Nat) : Int) := by rw [wr (by omega) (by omega)]; omega
 have es : slices_BinarySearchFunc.f k p.Rows (api_Row.mk key [] 0) = some (((lo key p.Rows).length : Int), has key p.Rows) := search_eq hk (by have := hR.1; omega) hg.1 hR.br (t := api_Row.mk key [] 0) hkb
 unfold merkle_Check.f merkle_Check.j1
 rw [if_neg (by omega), decide_eq_false (by omega), if_neg (by simp), bind_eq (bucket_eq hk hkl), bind_eq e1, if_pos rfl, bind_eq ec]
 unfold merkle_Check.j2
 rw [if_neg (by simp), bind_eq (ofBucket_eq hk hb hR), w0, bind_eq (ck_loop hk hb hp hl _)]
 unfold merkle_Check.j4
 by_cases c : ck k bits p.Path (256 + bkt key) (hBk k bits p.Rows) 8 = root
 ·rw [if_pos c, if_pos c, bind_eq es]
  dsimp only
  rcases at_lo (key := key) hg.1 with ⟨h1, h2, h3⟩ | ⟨x, h1, hx, h2, q, h3⟩
  ·have hh : ¬ has key p.Rows = true := by unfold has; rw [h1]; simp
   have ht : told key p.Rows = (zeroR, false) := by unfold told; rw [h1]
   rw [if_neg hh, ht]; rfl
  ·have hh : has key p.Rows = true := by unfold has; rw [h1]; simp
   have ht : told key p.Rows = (x, true) := by unfold told; rw [h1]
   have hm : x ∈ p.Rows := by
    have : x ∈ md key p.Rows := by rw [h1]; exact List.mem_singleton.2 rfl
    exact (List.mem_filter.1 this).1
   rw [if_pos hh, ht, if_pos (by omega), rd_eq q, h3, bind_eq (own_RB (hR.2 x hm))]
 ·rw [if_neg c, if_neg c]; rfl
theorem Get_told {k : Nat} (hk : Fuel k) {bits : Int} {t : Mer} {R : List api_Row} (h : MI k bits t R) (hR : RL R) (hs : Srt R) {key : List Int} (hkl : key.length ≤ 1000000000) (hkb : brange key) :
  merkle_Tree_Get.f k (some t) key = some (told key R) := by
 rw [Get_eq hk h hR hs hkl hkb]
 unfold told
 cases md key R <;> rfl
theorem told_fb (key : List Int) (R : List api_Row) : told key (fbk (bkt key) R) = told key R := by unfold told; rw [md_fb]
end Go.Proofs.Ytdnaoecfnjalgaa.G
namespace Go.Proofs.Ytdnaoecfnjalgaa.G
open Go
set_option maxRecDepth 100000 in
theorem awake_true : haulagelaw10_awake.f 1099511627776 = some true := by kernel_rfl
end Go.Proofs.Ytdnaoecfnjalgaa.G
namespace Go.Proofs.Ytdnaoecfnjalgaa.G
open Go
set_option linter.unusedVariables false
set_option linter.unusedSimpArgs false
theorem round_eq (w : Int) : ∃ n, haulagelaw10_round.f w 64 = some n ∧ 0 ≤ n ∧ n < 64 := by
 have h1 := Int.tmod_lt_of_pos w (show (0 : Int) < 64 by decide)
 have h2 : -64 < Int.tmod w 64 := Int.lt_tmod_of_pos w (by decide)
 unfold haulagelaw10_round.f
 rw [if_pos (by decide)]
 split
 ·exact ⟨_, rfl, by rw [wr (by omega) (by omega)]; omega, by rw [wr (by omega) (by omega)]; omega⟩
 ·exact ⟨_, rfl, by omega, h1⟩
theorem bits_eq (w : Int) : ∃ n, haulagelaw10_round.f w 64 = some n ∧ okb (IntKind.i64.wrap (1 + n)) := by
 obtain ⟨n, e, h0, h1⟩ := round_eq w
 exact ⟨n, e, by rw [wr (by omega) (by omega)]; omega, by rw [wr (by omega) (by omega)]; omega⟩
theorem zero_len : zeroR.Key.length < 4000000000 ∧ zeroR.Value.length < 4000000000 := by decide
theorem told_cases (key : List Int) {R : List api_Row} (hR : RL R) (hs : Srt R) : (told key R = (zeroR, false) ∧ has key R = false ∧ ∀ r ∈ R, r.Key ≠ key) ∨ ∃ x, told key R = (x, true) ∧ has key R = true ∧ x ∈ R ∧ x.Key = key ∧ ∀ r ∈ R, r.Key = key → r = x := by
 rcases (hs.split key).2 with q | ⟨x, q, hx⟩
 ·refine .inl ⟨by unfold told; rw [q], by unfold has; rw [q]; rfl, fun r hr e => ?_⟩
  have : r ∈ md key R := List.mem_filter.2 ⟨hr, by simpa using e⟩
  rw [q] at this; cases this
 ·have hm : x ∈ md key R := by rw [q]; exact List.mem_singleton.2 rfl
  refine .inr ⟨x, by unfold told; rw [q], by unfold has; rw [q]; rfl, (List.mem_filter.1 hm).1, hx, fun r hr e => ?_⟩
  have : r ∈ md key R := List.mem_filter.2 ⟨hr, by simpa using e⟩
  rw [q] at this
  exact List.mem_singleton.1 this
theorem told_len {key : List Int} {R : List api_Row} (hR : RL R) (hs : Srt R) : (told key R).1.Key.length < 4000000000 ∧ (told key R).1.Value.length < 4000000000 := by
 rcases told_cases key hR hs with ⟨h, _⟩ | ⟨x, h, _, hm, _⟩
 ·rw [h]; exact zero_len
 ·rw [h]
  have h1 := (hR.2 x hm).1
  have h2 := (hR.2 x hm).2.1
  exact ⟨by show x.Key.length < _; omega, by show x.Value.length < _; omega⟩
theorem clash1 {k : Nat} (hk : Fuel k) {bits : Int} (hb : okb bits) {P O : merkle_Proof} (hP : RL P.Rows) (hO : RL O.Rows) :
  ∃ x, loop (fun (s_ : Int) => haulagelaw10_clash.b3 k bits P O s_) k 0 = some x ∧ (x = .inr true ∨ (x = .inl () ∧ ∀ i (h1 : i < P.Rows.length) (h2 : i < O.Rows.length), hRow bits P.Rows[i] = hRow bits O.Rows[i] → P.Rows[i] = O.Rows[i])) := by
 have h24 : 1099511627776 ≤ k := hk
 have l1 := hP.1; have l2 := hO.1
 refine loop_inv (I := fun q s => s = (q : Int) ∧ ∀ i (h1 : i < P.Rows.length) (h2 : i < O.Rows.length), i < q → hRow bits P.Rows[i] = hRow bits O.Rows[i] → P.Rows[i] = O.Rows[i]) (N := min P.Rows.length O.Rows.length) ?_ ?_ (min P.Rows.length O.Rows.length) 0 0 k ⟨rfl, fun i _ _ h => absurd h (by omega)⟩ (by omega) (by omega)
 ·rintro q _ hq ⟨rfl, h⟩
  have g1 : q < P.Rows.length := by omega
  have g2 : q < O.Rows.length := by omega
  have r1 := hP.2 _ (List.getElem_mem g1)
  have r2 := hO.2 _ (List.getElem_mem g2)
  unfold haulagelaw10_clash.b3 haulagelaw10_clash.j1
  rw [if_pos (by omega), if_pos (by simp; omega), if_pos (by omega), if_pos (by omega), rd_eq g1, rd_eq g2, bind_eq (ofRow_law hk hb r1), bind_eq (ofRow_law hk hb r2)]
  by_cases c : hRow bits P.Rows[q] = hRow bits O.Rows[q]
  ·have es := sameRow_eq hk P.Rows[q] O.Rows[q] (by have := r1.1; omega) (by have := r1.2.1; omega)
   rw [if_pos c, if_pos (by omega), if_pos (by omega), bind_eq es]
   unfold haulagelaw10_clash.j2
   by_cases d : P.Rows[q] = O.Rows[q]
   ·rw [if_neg (by simp [d]), wrS q (by omega)]
    refine .inl ⟨_, rfl, rfl, fun i h1 h2 hi hh => ?_⟩
    rcases Nat.lt_or_ge i q with g | g
    ·exact h i h1 h2 g hh
    ·obtain rfl : i = q := by omega
     exact d
   ·rw [if_pos (by simp [d])]
    exact .inr ⟨_, rfl, .inl rfl⟩
  ·rw [if_neg c]
   unfold haulagelaw10_clash.j2
   rw [if_neg (by simp), wrS q (by omega)]
   refine .inl ⟨_, rfl, rfl, fun i h1 h2 hi hh => ?_⟩
   rcases Nat.lt_or_ge i q with g | g
   ·exact h i h1 h2 g hh
   ·obtain rfl : i = q := by omega
    exact absurd hh c
 ·rintro _ ⟨rfl, h⟩
  refine ⟨.inl (), ?_, .inr ⟨rfl, fun i h1 h2 => h i h1 h2 (by omega)⟩⟩
  unfold haulagelaw10_clash.b3 haulagelaw10_clash.j1
  by_cases c : P.Rows.length ≤ O.Rows.length
  ·rw [if_neg (by omega), if_neg (by simp)]
  ·rw [if_pos (by omega), if_neg (by simp; omega)]
theorem clash2 {k : Nat} (hk : Fuel k) {bits : Int} (hb : okb bits) {P O : merkle_Proof} (hP : RL P.Rows) (hO : RL O.Rows) (hl : P.Rows.length = O.Rows.length) :
  ∃ x, loop (fun (s_ : Int) => haulagelaw10_clash.b5 k bits P O s_) k 0 = some x ∧ (x = .inr true ∨ (x = .inl () ∧ ∀ i (h1 : i < P.Rows.length) (h2 : i < O.Rows.length), hRow bits P.Rows[i] = hRow bits O.Rows[i])) := by
 have h24 : 1099511627776 ≤ k := hk
 have l1 := hP.1; have l2 := hO.1
 refine loop_inv (I := fun q s => s = (q : Int) ∧ ∀ i (h1 : i < P.Rows.length) (h2 : i < O.Rows.length), i < q → hRow bits P.Rows[i] = hRow bits O.Rows[i]) (N := O.Rows.length) ?_ ?_ O.Rows.length 0 0 k ⟨rfl, fun i _ _ h => absurd h (by omega)⟩ (by omega) (by omega)
 ·rintro q _ hq ⟨rfl, h⟩
  have g1 : q < P.Rows.length := by omega
  have g2 : q < O.Rows.length := by omega
  have r1 := hP.2 _ (List.getElem_mem g1)
  have r2 := hO.2 _ (List.getElem_mem g2)
  unfold haulagelaw10_clash.b5
  rw [if_pos (by omega), if_pos (by omega), if_pos (by omega), rd_eq g1, rd_eq g2, bind_eq (ofRow_law hk hb r1), bind_eq (ofRow_law hk hb r2)]
  by_cases c : hRow bits P.Rows[q] = hRow bits O.Rows[q]
  ·rw [if_pos c, wrS q (by omega)]
   refine .inl ⟨_, rfl, rfl, fun i h1 h2 hi => ?_⟩
   rcases Nat.lt_or_ge i q with g | g
   ·exact h i h1 h2 g
   ·obtain rfl : i = q := by omega
    exact c
  ·rw [if_neg c]
   exact .inr ⟨_, rfl, .inl rfl⟩
 ·rintro _ ⟨rfl, h⟩
  refine ⟨.inl (), ?_, .inr ⟨rfl, fun i h1 h2 => h i h1 h2 (by omega)⟩⟩
  unfold haulagelaw10_clash.b5
  rw [if_neg (by omega)]
theorem clash3 {k : Nat} (hk : Fuel k) {bits : Int} (hb : okb bits) {t : Mer} {R : List api_Row} (hM : MI k bits t R) {P : merkle_Proof} (hp : P.Path.length = 8) {b : Nat} (hl : b < 256) (a : Int) :
  ∃ x, loop (fun (s_ : Int × Int × Int) => haulagelaw10_clash.b10 k (some t) bits P s_.1 s_.2.1 s_.2.2) k (((256 + b : Nat) : Int), a, 0) = some x ∧ (x = .inr true ∨ (x = .inl () ∧ ∀ i, i < 8 → ck k bits P.Path (256 + b) a (i + 1) = rd t.digests (((256 + b) / 2 ^ (i + 1) : Nat) : Int) → ck k bits P.Path (256 + b) a i = rd t.digests (((256 + b) / 2 ^ i : Nat) : Int))) := by
 have h24 : 1099511627776 ≤ k := hk
 refine loop_inv (I := fun q s => s.1 = (((256 + b) / 2 ^ q : Nat) : Int) ∧ s.2.1 = ck k bits P.Path (256 + b) a q ∧ s.2.2 = (q : Int) ∧ ∀ i, i < q → ck k bits P.Path (256 + b) a (i + 1) = rd t.digests (((256 + b) / 2 ^ (i + 1) : Nat) : Int) → ck k bits P.Path (256 + b) a i = rd t.digests (((256 + b) / 2 ^ i : Nat) : Int)) (N := 8) ?_ ?_ 8 0 (((256 + b : Nat) : Int), a, 0) k ⟨by simp, rfl, rfl, fun i h => absurd h (by omega)⟩ (by omega) (by omega)
 ·rintro q ⟨n, x, j⟩ hq ⟨hn, hx, hj, h⟩
  simp only at hn hx hj h; subst hn hx hj
  obtain ⟨n1, n2⟩ := node_rng hl hq
  obtain ⟨n, hnn⟩ : ∃ n, n = (256 + b) / 2 ^ q := ⟨_, rfl⟩
  have hnx : (256 + b) / 2 ^ (q + 1) = n / 2 := by rw [node_next, ← hnn]
  rw [← hnn] at n1 n2
  have w1 : IntKind.i64.wrap (Int.tdiv (n : Int) 2) = ((n / 2 : Nat) : Int) := by rw [tdiv2, wr (by omega) (by omega)]
  have w2 : IntKind.i64.wrap (2 * ((n / 2 : Nat) : Int)) = ((2 * (n / 2) : Nat) : Int) := by rw [wr (by omega) (by omega)]; omega
  have w3 : IntKind.i64.wrap (((2 * (n / 2) : Nat) : Int) + 1) = ((2 * (n / 2) + 1 : Nat) : Int) := by rw [wr (by omega) (by omega)]; omega
  have d1 := Digest_eq (t := t) (n := n / 2) (by omega) (by omega)
  have d2 := Digest_eq (t := t) (n := 2 * (n / 2)) (by omega) (by omega)
  have d3 := Digest_eq (t := t) (n := 2 * (n / 2) + 1) (by omega) (by omega)
  have tm : Int.tmod (n : Int) 2 = ((n % 2 : Nat) : Int) := (Int.ofNat_tmod n 2).symm
  have ext : ∀ {v : Int}, ck k bits P.Path (256 + b) a (q + 1) = v → (v = rd t.digests ((n / 2 : Nat) : Int) → ck k bits P.Path (256 + b) a q = rd t.digests ((n : Nat) : Int)) → ∀ i, i < q + 1 → ck k bits P.Path (256 + b) a (i + 1) = rd t.digests (((256 + b) / 2 ^ (i + 1) : Nat) : Int) → ck k bits P.Path (256 + b) a i = rd t.digests (((256 + b) / 2 ^ i : Nat) : Int) := fun {v} hv hh i hi he => by
   rcases Nat.lt_or_ge i q with g | g
   ·exact h i g he
   ·obtain rfl : i = q := by omega
    rw [hnx, hv] at he
    rw [← hnn]
    exact hh he
  have step : ∀ (l r : Int), (ck k bits P.Path (256 + b) a (q + 1) = hPair k bits l r) → (l = rd t.digests ((2 * (n / 2) : Nat) : Int) → r = rd t.digests ((2 * (n / 2) + 1 : Nat) : Int) → ck k bits P.Path (256 + b) a q = rd t.digests ((n : Nat) : Int)) →
    (∃ s', haulagelaw10_clash.j8 k (some t) bits (n : Int) (q : Int) l r = some (.next s') ∧ s'.1 = (((256 + b) / 2 ^ (q + 1) : Nat) : Int) ∧ s'.2.1 = ck k bits P.Path (256 + b) a (q + 1) ∧ s'.2.2 = ((q + 1 : Nat) : Int) ∧ ∀ i, i < q + 1 → ck k bits P.Path (256 + b) a (i + 1) = rd t.digests (((256 + b) / 2 ^ (i + 1) : Nat) : Int) → ck k bits P.Path (256 + b) a i = rd t.digests (((256 + b) / 2 ^ i : Nat) : Int)) ∨ haulagelaw10_clash.j8 k (some t) bits (n : Int) (q : Int) l r = some (.done (.inr true)) := by
   intro l r hc hq2
   unfold haulagelaw10_clash.j8
   rw [bind_eq (ofPair_law hk hb l r), w1, bind_eq d1, w2, w3]
   by_cases c1 : hPair k bits l r = rd t.digests ((n / 2 : Nat) : Int)
   ·rw [if_pos c1, bind_eq d2]
    by_cases c2 : l = rd t.digests ((2 * (n / 2) : Nat) : Int)
    ·rw [if_pos c2, bind_eq d3]
     unfold haulagelaw10_clash.j9
     by_cases c3 : r = rd t.digests ((2 * (n / 2) + 1 : Nat) : Int)
     ·rw [if_neg (by rw [decide_eq_true c3]; simp), w1, wrS q (by omega)]
      exact .inl ⟨_, rfl, by rw [hnx], hc.symm, rfl, ext hc fun _ => hq2 c2 c3⟩
     ·rw [if_pos (by rw [decide_eq_false c3]; rfl)]
      exact .inr rfl
    ·rw [if_neg c2]
     unfold haulagelaw10_clash.j9
     rw [if_pos rfl]
     exact .inr rfl
   ·rw [if_neg c1]
    unfold haulagelaw10_clash.j9
    rw [if_neg (by simp), w1, wrS q (by omega)]
    exact .inl ⟨_, rfl, by rw [hnx], hc.symm, rfl, ext hc fun q => absurd q c1⟩
  simp only [haulagelaw10_clash.b10]
  rw [← hnn, if_pos (by omega), if_pos (by omega), tm]
  by_cases c : n % 2 = 1
  ·rw [if_pos (by omega), if_pos (by omega)]
   rcases step (rd P.Path (q : Int)) (ck k bits P.Path (256 + b) a q) (by simp only [ck]; rw [← hnn, if_neg (by omega)]) (fun _ h2 => by rw [h2]; congr 2; omega) with g | g
   ·obtain ⟨s', e, g1, g2, g3, g4⟩ := g
    exact .inl ⟨s', e, g1, g2, g3, g4⟩
   ·exact .inr ⟨_, g, .inl rfl⟩
  ·rw [if_neg (by omega)]
   rcases step (ck k bits P.Path (256 + b) a q) (rd P.Path (q : Int)) (by simp only [ck]; rw [← hnn, if_pos (by omega)]) (fun h1 _ => by rw [h1]; congr 2; omega) with g | g
   ·obtain ⟨s', e, g1, g2, g3, g4⟩ := g
    exact .inl ⟨s', e, g1, g2, g3, g4⟩
   ·exact .inr ⟨_, g, .inl rfl⟩
 ·rintro ⟨n, x, j⟩ ⟨hn, hx, hj, h⟩
  simp only at hn hx hj h; subst hn hx hj
  refine ⟨.inl (), ?_, .inr ⟨rfl, fun i hi => h i hi⟩⟩
  unfold haulagelaw10_clash.b10
  dsimp only
  rw [if_neg (by omega)]
theorem clash_eq {k : Nat} (hk : Fuel k) {bits : Int} (hb : okb bits) {t : Mer} {R : List api_Row} (hM : MI k bits t R) (hR : RL R) {P : merkle_Proof} (hP : RL P.Rows) (hp : P.Path.length = 8) {key : List Int} (hkl : key.length ≤ 1000000000)
  (hroot : ck k bits P.Path (256 + bkt key) (hBk k bits P.Rows) 8 = rd t.digests 1) : haulagelaw10_clash.f k (some t) bits key P = some true ∨ P.Rows = fbk (bkt key) R := by
 have hl := bkt_lt key
 obtain ⟨L, eL, hL⟩ := Prove_eq hk hM hR hkl
 have hO : RL (merkle_Proof.mk (fbk (bkt key) R) L).Rows := hR.fbk _
 obtain ⟨x, ex, hx⟩ := clash1 hk hb hP hO
 unfold haulagelaw10_clash.f
 rw [bind_eq (bucket_law hk hkl), bind_eq eL, bind_eq ex]
 rcases hx with rfl | ⟨rfl, hx⟩
 ·exact .inl rfl
 have wn : 256 + (bkt key : Int) = ((256 + bkt key : Nat) : Int) := by omega
 have dg := Digest_eq (t := t) (n := 256 + bkt key) (by omega) (by omega)
 rw [hM.leaf _ hl] at dg
 dsimp only
 unfold haulagelaw10_clash.j4
 rw [wn, bind_eq (ofRows_law hk hb hP), bind_eq dg]
 obtain ⟨y, ey, hy⟩ := clash3 hk hb hM hp hl (hBk k bits P.Rows)
 have j7 : haulagelaw10_clash.j7 k (some t) bits P ((256 + bkt key : Nat) : Int) (hBk k bits P.Rows) = some true ∨ (haulagelaw10_clash.j7 k (some t) bits P ((256 + bkt key : Nat) : Int) (hBk k bits P.Rows) = some false ∧ hBk k bits P.Rows = hBk k bits (fbk (bkt key) R)) := by
  unfold haulagelaw10_clash.j7
  rw [bind_eq ey]
  rcases hy with rfl | ⟨rfl, hy⟩
  ·exact .inl rfl
  ·refine .inr ⟨rfl, ?_⟩
   have down : ∀ i, i ≤ 8 → ck k bits P.Path (256 + bkt key) (hBk k bits P.Rows) (8 - i) = rd t.digests (((256 + bkt key) / 2 ^ (8 - i) : Nat) : Int) := by
    intro i
    induction i with
    | zero => intro _; rw [Nat.sub_zero, node_top hl]; exact hroot
    | succ i ih =>
     intro hi
     have e : 8 - i = (8 - (i + 1)) + 1 := by omega
     have ih := ih (by omega)
     rw [e] at ih
     exact hy _ (by omega) ih
   have := down 8 (Nat.le_refl _)
   simp only [Nat.sub_self, ck, Nat.pow_zero, Nat.div_one] at this
   rw [this, hM.leaf _ hl]
 by_cases c : hBk k bits P.Rows = hBk k bits (fbk (bkt key) R)
 ·rw [if_pos c]
  by_cases d : P.Rows.length = (fbk (bkt key) R).length
  ·rw [if_pos (by simp only; omega)]
   obtain ⟨z, ez, hz⟩ := clash2 hk hb hP hO d
   rw [bind_eq ez]
   rcases hz with rfl | ⟨rfl, hz⟩
   ·exact .inl rfl
   ·exact .inr (List.ext_getElem d fun i h1 h2 => hx i h1 h2 (hz i h1 h2))
  ·rw [if_neg (by simp only; omega)]
   exact .inl rfl
 ·rw [if_neg c]
  rcases j7 with h | ⟨_, h⟩
  ·exact .inl h
  ·exact absurd h c
theorem MerkleSound_true (C : List haulagelaw10_Change) (w : Int) (key : List Int) (P : merkle_Proof) (hC : CL C) (hkl : key.length ≤ 2097152) (hkb : brange key) (hP : RL P.Rows) (hp : P.Path.length = 8) : haulagelaw10_MerkleSound.f 1099511627776 C w key P = some true := by
 have hk : Fuel 1099511627776 := Nat.le_refl _
 obtain ⟨n, en, hb⟩ := bits_eq w
 obtain ⟨t, et, hM, hR, hs, hl⟩ := grown_eq hk hb hC
 have eG := Get_told hk hM hR hs (key := key) (by omega) hkb
 unfold haulagelaw10_MerkleSound.f
 rw [bind_eq awake_true, if_pos rfl, bind_eq en, bind_eq et]
 dsimp only
 rw [if_neg (by simp), bind_eq Root_eq]
 have bad : haulagelaw10_MerkleSound.j1 1099511627776 key P n (some t, runR C) (zeroR, false, 101) = some true := by
  have er := sameRow_eq hk zeroR zeroR zero_len.1 zero_len.2
  have er : haulagelaw10_sameRow.f 1099511627776 zeroR (api_Row.mk [] [] 0) = some (decide (zeroR = zeroR)) := er
  unfold haulagelaw10_MerkleSound.j1
  dsimp only
  rw [if_neg (by decide), if_pos rfl, if_neg (by simp), bind_eq er]
  simp
 by_cases g : goodP (bkt key) P.Rows
 ·have eC := Check_good hk (root := rd t.digests 1) hb hP hp (key := key) (by omega) hkb g
  by_cases c : ck 1099511627776 (IntKind.i64.wrap (1 + n)) P.Path (256 + bkt key) (hBk 1099511627776 (IntKind.i64.wrap (1 + n)) P.Rows) 8 = rd t.digests 1
  ·rw [if_pos c] at eC
   rw [bind_eq eC]
   have hlen := told_len (key := key) hP g.1
   have er := sameRow_eq hk (told key P.Rows).1 (told key (runR C)).1 hlen.1 hlen.2
   have cl := clash_eq hk hb hM hR hP hp (key := key) (by omega) c
   have j2f : haulagelaw10_MerkleSound.j2 1099511627776 key P n (some t, runR C) false = some true ∨ P.Rows = fbk (bkt key) (runR C) := by
    unfold haulagelaw10_MerkleSound.j2
    rw [if_neg (by simp)]
    rcases cl with h | h
    ·dsimp only
     rw [bind_eq h]; exact .inl rfl
    ·exact .inr h
   unfold haulagelaw10_MerkleSound.j1
   dsimp only
   rw [if_pos rfl, bind_eq eG]
   have tr : haulagelaw10_MerkleSound.j2 1099511627776 key P n (some t, runR C) true = some true := by
    unfold haulagelaw10_MerkleSound.j2
    rw [if_pos rfl]
   rcases j2f with j2f | h
   ·by_cases c1 : (told key P.Rows).2 = (told key (runR C)).2
    ·rw [if_pos (by rw [c1]; simp), bind_eq er]
     by_cases c2 : (told key P.Rows).1 = (told key (runR C)).1
     ·rw [decide_eq_true c2]; exact tr
     ·rw [decide_eq_false c2]; exact j2f
    ·rw [if_neg (by simpa using c1)]; exact j2f
   ·have e1 : told key P.Rows = told key (runR C) := by rw [h, told_fb]
    rw [if_pos (by rw [e1]; simp), bind_eq er, decide_eq_true (by rw [e1])]
    exact tr
  ·rw [if_neg c] at eC
   rw [bind_eq eC]
   exact bad
 ·rw [bind_eq (Check_bad hk hb hP (by omega) g)]
  exact bad
end Go.Proofs.Ytdnaoecfnjalgaa.G
namespace Go.Proofs.Ytdnaoecfnjalgaa.G
open Go Go.ChangeShapes Go.WideShapes
set_option linter.unusedVariables false
theorem key_br {xs : List Int} (h : ∀ n ∈ xs, (Lit.int .u8 n).wf = true) : brange xs := fun n hn => byteok.range (h n hn)
theorem row_RB {r : api_Row} {s : Nat} (hs : wt_api_Row r ≤ s) (hb : s ≤ 1048576) (h : ok_api_Row r) : RB r := by
 have h1 : r.Key.length + r.Value.length + 1 ≤ s := hs
 exact ⟨by omega, by omega, key_br h.1⟩
theorem arg_CL {C : List haulagelaw10_Change} (hs : (C.map wt_haulagelaw10_Change).sum ≤ 1048576) (h : ∀ o ∈ C, ok_haulagelaw10_Change o) : CL C := by
 have hl := len_sum wt_haulagelaw10_Change wt_haulagelaw10_Change_pos C
 refine ⟨by omega, fun c hc => ?_⟩
 have h1 := mem_sum wt_haulagelaw10_Change hc
 have h2 : wt_api_Row c.Row + 1 ≤ (C.map wt_haulagelaw10_Change).sum := h1
 exact row_RB (s := (C.map wt_haulagelaw10_Change).sum) (by omega) hs (h c hc)
theorem arg_RL {R : List api_Row} (hs : (R.map wt_api_Row).sum ≤ 1048576) (h : ∀ o ∈ R, ok_api_Row o) : RL R := by
 have hl := len_sum wt_api_Row wt_api_Row_pos R
 refine ⟨by omega, fun c hc => ?_⟩
 have h1 := mem_sum wt_api_Row hc
 exact row_RB (s := (R.map wt_api_Row).sum) h1 hs (h c hc)
theorem cellsP : Try.prog.cellsOf 33 = 9 := by kernel_rfl
theorem cellsR : Try.prog.cellsOf 27 = 1 := by kernel_rfl
theorem cellsA : Try.prog.cellsOf 31 = 8 := by kernel_rfl
theorem cellsU : Try.prog.cellsOf 30 = 1 := by kernel_rfl
theorem cellsW : Try.prog.cellsOf 36 = 3 := by kernel_rfl
set_option maxRecDepth 100000 in
theorem arg_proof {H : Type} {enc : TypeId × Value → H} {w : World} {v : Value} {d : DataW H} {p : List MemPlace} (hv : ∃ cs : Array Value, v = .agg cs ∧ cs.size = Try.prog.cellsOf 33) (h : DataW.Trod enc Try.prog w 0 (fun _ => true) true 33 v d p) :
  ∃ (A : Option Addr) (C : Nat) (cs4 : List Value) (y : merkle_Proof), v = .agg (([.slice A y.Rows.length C] : List Value) ++ (cs4 ++ (([] : List Value)))).toArray ∧ SL false K_api_Row 0 0 c0 w A C y.Rows ∧ AR (Kint .u64) 0 c0 w cs4 8 y.Path ∧ (y.Rows.map wt_api_Row).sum + 1 ≤ Rows.uptoBulk d ∧ (∀ o ∈ y.Rows, ok_api_Row o) ∧ y.Path.length = 8 := by
 obtain ⟨cs, rfl, hsz⟩ := hv
 obtain ⟨fuel, hf⟩ := h
 rw [cellsP] at hsz
 obtain ⟨xs, n, rfl, hd, hl, hxl, hF⟩ := DataW.trod_struct Try.underlying33 hf
 have hl : cs.toList.length = 9 := by simpa using hsz
 match xs, hxl with
 | [x0, x1], _ =>
  have g0 := hF 0 _ rfl
  have g1 := hF 1 _ rfl
  rw [show Try.prog.cellsOf (Field.type _) = 1 from cellsR] at g0
  rw [show Try.prog.cellsOf (Field.type _) = 8 from cellsA] at g1
  replace g0 : DataW.trod enc Try.prog w 0 (fun _ => true) true n 27 ((cs.toList.drop 0).take 1) = some x0 := g0
  replace g1 : DataW.trod enc Try.prog w 0 (fun _ => true) true n 31 ((cs.toList.drop 1).take 8) = some x1 := g1
  obtain ⟨A, C, rows, e, h1, h2, h3⟩ := open_sl (e := K_api_Row) Try.underlying27 cellsW opens_api_Row g0
  obtain ⟨ys, q, rfl, hy, hyl, hyn, hG⟩ := DataW.trod_array Try.underlying31 g1
  have each : ∀ i, i < 8 → ∃ x : Int, (cs.toList.drop 1)[i]? = some (.int .u64 x) := by
   intro i hi
   have := hG i hi
   rw [cellsU, List.getElem?_eq_getElem (by omega), Nat.mul_one] at this
   obtain ⟨x, hx, _⟩ := DataW.trod_int Try.underlying30 this
   refine ⟨x, ?_⟩
   have := congrArg (fun l => l[0]?) hx
   simpa [List.getElem?_take, List.getElem?_drop, hi] using this
  obtain ⟨y, hyy⟩ := Deep.choose_lt each
  refine ⟨A, C, cs.toList.drop 1, ⟨rows, (List.range 8).map y⟩, ?_, h1, ⟨by simp [hl]; rfl, by simp, fun k hk => ?_⟩, ?_, h3, by simp⟩
  ·congr 1
   apply Array.ext'
   simp only [List.append_nil]
   show cs.toList = [.slice A rows.length C] ++ cs.toList.drop 1
   rw [← e, List.drop_zero]
   exact (List.take_append_drop 1 _).symm
  ·have hk8 : k < 8 := by simpa using hk
   show ((cs.toList.drop 1).drop (k * 1)).take 1 = [.int .u64 _]
   rw [Nat.mul_one]
   apply List.ext_getElem?
   intro z
   cases z with
   | zero => rw [List.getElem?_take_of_lt (by decide), List.getElem?_drop, Nat.add_zero, hyy k hk8]; simp
   | succ z => rw [List.getElem?_take, if_neg (by omega)]; simp
  ·have hb := bulk_agg (H := H) [x0.1, x1.1]
   simp only [Rows.uptoBulkAll] at hb
   have h5 : (rows.map wt_api_Row).sum + 1 ≤ Rows.uptoBulk (DataW.agg [x0.1, x1.1]) := by omega
   have hd1 : d = .agg [x0.1, x1.1] := congrArg Prod.fst hd
   rw [hd1]
   exact h5
end Go.Proofs.Ytdnaoecfnjalgaa.G