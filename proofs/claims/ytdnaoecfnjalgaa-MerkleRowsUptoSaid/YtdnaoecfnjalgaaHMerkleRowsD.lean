/- Words and laws on which the row of 'MerkleRows' hangs (its '..UptoSaid': bulk at most 1048576). -/
import Derived.Test.YtdnaoecfnjalgaaHMerkleRowsA
import Derived.Test.YtdnaoecfnjalgaaHMerkleRowsC
import Derived.Test.YtdnaoecfnjalgaaHMerkleRowsB
import Derived.Shelf.SlSortCmp.NoneTotal
import Derived.Ground.SlsfProg
import Derived.Shelf.SlGeneric
import Derived.Test.YtdnaoecfnjalgaaProg
import Derived.Laws.OwnMore
import Derived.Laws.Strings
import Derived.Test.YtdnaoecfnjalgaaRows
import Derived.Deep.Slices
import Derived.ChangeArms
import Derived.KernelRfl
namespace Go.Proofs.Ytdnaoecfnjalgaa.G
open Go Go.RowKit
set_option linter.unusedVariables false
set_option linter.unusedSimpArgs false
set_option maxRecDepth 100000
set_option maxHeartbeats 40000000
theorem merkle_Tree_Put.calls (k : Nat) {m : Nat} {c0 : Nat → Nat} {w0 : World} {j4 : Nat} {j5 : Nat} {p2 : Option Addr} {A7 : Option Addr} {C8 : Nat} {A10 : Option Addr} {C11 : Nat} {a1 : Option Mer} {a6 : api_Row} (hm0 : 0 < m) (B0 : CB m c0 w0) (h3 : ME j4 j5 c0 w0 p2 a1) (h9 : SL false (Kint .u8) 0 0 c0 w0 A7 C8 a6.Key) (h12 : SL false (Kint .u8) 0 0 c0 w0 A10 C11 a6.Value) (bj4 : 0 < j4 ∧ j4 < m) (bj5 : 0 < j5 ∧ j5 < m ∧ j5 ≠ j4) (r : (Option Mer)) (H : merkle_Tree_Put.f k a1 a6 = some r) : Calls Try.prog 30 #[.pointer p2, .agg #[.slice A7 a6.Key.length C8, .slice A10 a6.Value.length C11, .int .i64 a6.Rev]] w0 (fun e w_ => ∃ (c_ : Nat → Nat), e = .returned (.tuple #[]) ∧ Ev (fun x => (x = j4 ∨ x = j5)) c0 w0 c_ w_ ∧ CB m c_ w_ ∧ ME j4 j5 c_ w_ p2 r) := by
 unfold merkle_Tree_Put.f at H; have B := B0.mono (show m ≤ m + 5 by omega); have E : Ev (fun x => (x = j4 ∨ x = j5) ∨ m ≤ x) c0 w0 c0 w0 := Ev.refl; refine enter (N := 54) (l := [.pointer p2, .agg #[.slice A7 a6.Key.length C8, .slice A10 a6.Value.length C11, .int .i64 a6.Rev]]) Try.func30 rfl rfl (nb rfl) fun a F => ?_; refine sr fun K13 hK13 => ?_; refine q_eff F rfl rfl (by decide) (e_box F (v := .agg #[.slice A7 a6.Key.length C8, .slice A10 a6.Value.length C11, .int .i64 a6.Rev]) rfl c0 (m + 1)) ?_; rintro v w15 a ⟨c14, qa16, rfl, E17, h18, B19⟩ F; replace B := B19 _ B lm; replace h3 := h3.ev E17; replace h9 := h9.ev E17; replace h12 := h12.ev E17; replace E := E.n E17; replace h18 : AT _ _ _ _ _ [.slice A7 a6.Key.length C8, .slice A10 a6.Value.length C11, .int .i64 a6.Rev] := h18; refine nil (hK13 _ _ ?_); refine sq fun K21 hK21 => ?_; refine sr fun K22 hK22 => qm F fun a F => ?_; refine qv F (r_peqlA F Try.underlying26 rfl rfl (ME.isNone h3)) fun a F => ?_; refine nil (hK22 _ _ ?_)
 by_cases hb23 : (Option.isNone a1) = true
 ·replace H := ip hb23 H; refine wct (fb F hb23) ?_; refine wp_ret ?_
  as_aux_lemma =>
  refine thenR ?_; obtain rfl := si H; refine out0 F rfl ?_; exact ⟨cf (ct m) c14, rfl, E.lv B0, cfb, ME.rc h3 cfk cfk cfk (by omega)⟩
 replace H := im hb23 H; refine wcf (fb F (bfalse hb23)) (wp_skip (hK21 _ _ ?_)); refine sr fun K24 hK24 => qm F fun a F => qf F ff_36_0 fun a F => ?_; refine ql F ag_23 h18 fun a F => ?_; obtain ⟨t25, q26, H⟩ := bind_some H; refine qc F Try.func42 (merkle_Tree_at.calls k (m := m + 5) (pl hm0) B h3 h9 (Nat.lt_add_right _ bj4.2) ⟨(Nat.lt_add_right _ bj5.2.1), bj5.2.2⟩ _ q26) ?_; rintro e w28 ⟨c27, rfl, E29, B⟩; refine rt fun a F => ?_; replace h3 := h3.ev E29; replace h9 := h9.ev E29; replace h12 := h12.ev E29; replace h18 := h18.ev E29; replace E := E.n E29; refine qm F fun a F => ?_; refine qx F fun a F => ?_; refine qx F fun a F => ?_; refine qx F fun a F => ?_; refine qa F fun a F => qa F fun a F => qa F fun a F => nil (hK24 _ _ ?_); replace F : Fr a 54 [(0, .pointer p2), (3, .pointer (some qa16)), (4, .int .i64 t25.1), (5, .int .i64 t25.2.1), (6, .bool t25.2.2)] := F.sub ⟨rfl, rfl, rfl, rfl, rfl, trivial⟩
 as_aux_lemma =>
 refine sq fun K32 hK32 => ?_; refine sr fun K33 hK33 => qm F fun a F => nil (hK33 _ _ ?_)
 by_cases hb34 : t25.2.2 = true
 ·replace H := ip hb34 H; refine wct (fb F hb34) ?_; obtain ⟨ob35, e36, H⟩ := bind_some H; have z37 := h3; rw [e36] at z37; obtain ⟨ad38, cs40, cs42, rfl, hat39, h41, h43⟩ := ME.some z37; replace H := ifN H; obtain ⟨g45, H⟩ := H; obtain ⟨c46, e47, e48, A49, C50, h51, h52, h43⟩ := ARO.lend (off := 513) (z := m + 2) (AT.eqv (ds := (([.int .i64 ob35.bits] : List Value) ++ (cs40 ++ (([] : List Value)))) ++ (cs42 ++ (([.int .i64 ob35.many] : List Value)))) hat39 (by simp only [List.append_assoc])) (by have l0_ : cs40.length = 512 := (h41.1 : cs40.length = 512); simp only [List.length_append, List.length_cons, List.length_nil] <;> omega) h43 t25.1 g45.1 (by have g_ := g45.2; omega) ⟨(ne_mp bj5.2.1), (pl hm0)⟩; obtain ⟨qa53, qqa53⟩ : ∃ q, q = (ad38.add (513 + t25.1.toNat * 1)) := ⟨_, rfl⟩; have h51 : AT true j4 c27 w28 qa53 [.slice A49 (rd ob35.rows t25.1).length C50] := by rw [qqa53]; exact h51
  replace h9 := SL.rc (c' := c46) (j' := 0) (i' := 0) h9 (fun k_ hk_ => (e47 k_ (by rw [hk_]; exact (ne_z bj5.1))).trans hk_) (fun k_ hk_ => (e47 k_ (by rw [hk_]; exact (ne_z bj5.1))).trans hk_); replace h12 := SL.rc (c' := c46) (j' := 0) (i' := 0) h12 (fun k_ hk_ => (e47 k_ (by rw [hk_]; exact (ne_z bj5.1))).trans hk_) (fun k_ hk_ => (e47 k_ (by rw [hk_]; exact (ne_z bj5.1))).trans hk_); replace h18 := AT.rc (c' := c46) (j' := m + 1) h18 (fun k_ hk_ => (e47 k_ (by rw [hk_]; exact (ne_mp bj5.2.1))).trans hk_); replace h41 := AR.rc (c' := c46) (i' := 0) h41 (fun k_ hk_ => (e47 k_ (by rw [hk_]; exact (ne_z bj5.1))).trans hk_); replace hat39 := AT.rc (c' := c46) (j' := j4) hat39 (fun k_ hk_ => (e47 k_ (by rw [hk_]; exact (Ne.symm bj5.2.2))).trans hk_); replace h51 := AT.rc (c' := c46) (j' := j4) h51 (fun k_ hk_ => (e47 k_ (by rw [hk_]; exact (Ne.symm bj5.2.2))).trans hk_); have EL54 := E; have E : Ev (fun x => (x = j4 ∨ x = j5) ∨ m ≤ x) c46 w28 c46 w28 := Ev.refl; replace B : CB (m + 5) c46 w28 := B.recol (fun b_ => (e48 b_).imp id (fun q_ => by rw [q_]; exact lm))
  as_aux_lemma =>
  refine regD (SB No c46 w28) 10 (.q 0 (.q 1 (.q 2 (.q 3 (.q 4 (.q 5 (.q 6 (.q 7 (.e 8 (.q 9 (.e 10 .nil))))))))))) Try_hm (by decide +kernel) ?_; intro w56 w1_ w2_ w3_ w4_; have E57 : Ev No c46 w28 c46 w56 := Ev.same w1_ w2_ w3_ w4_; replace B := B.same w1_; have zh18 := h18; have zh51 := h51; have zh52 := h52; have ER : Ev No c46 w28 c46 w56 := Ev.same w1_ w2_ w3_ w4_; replace h9 := h9.ev E57; replace h12 := h12.ev E57; replace h41 := h41.ev E57; replace h43 := h43.ev E57; replace hat39 := hat39.ev E57; replace h51 := h51.ev E57; replace h52 := h52.ev E57; replace E := E.n E57; refine dm F ER.sb fun a F => ?_; refine dm F ER.sb fun a F => ?_; refine di F ER.sb fun a F => ?_; refine df F ff_75_2 ER.sb fun a F => ?_; refine dq F (fun wq hS => r_indexArr3 F ua_73 sz_27 rfl rfl g45.1 (by have g_ := g45.2; omega) hat39 qqa53) ER.sb fun a F => ?_; refine dq F (fun wq hS => r_load F rfl ag_27 (AT.cell0 (AT.sb zh51 hS nq) rfl)) ER.sb fun a F => ?_
  as_aux_lemma =>
  refine dm F ER.sb fun a F => ?_; refine dq F (fun wq hS => r_loads (cs := [.slice A7 a6.Key.length C8, .slice A10 a6.Value.length C11, .int .i64 a6.Rev]) F rfl ag_36 sz_36 (AT.sb zh18 hS nq)) ER.sb fun a F => ?_; refine d_e ?_; obtain ⟨t58, q59, H⟩ := bind_some H; refine oc F Try.func41 (merkle_own.calls (m := m + 5) (pl hm0) B h9 h12 _ q59) ?_; rintro e w61 ⟨c60, A64, C65, A67, C68, rfl, E62, B, h66, h69⟩; refine rt fun a F => ?_; replace ER := ER.trans E62 nx; replace h41 := h41.ev E62; replace h43 := h43.ev E62; replace hat39 := hat39.ev E62; replace h51 := h51.ev E62; replace h52 := h52.ev E62; replace E := E.n E62; refine ⟨fun _ => ER.sb, ?_⟩; replace H := ifN H; obtain ⟨g71, H⟩ := H; obtain ⟨ad72, cs73, e74, h75, r76⟩ := SL.at zh52 t25.2.1 g71.1 g71.2; obtain ⟨A77, C78, A80, C81, rfl, h79, h82⟩ := r76; obtain ⟨qa83, qqa83⟩ : ∃ q, q = (ad72.add (t25.2.1.toNat * 3)) := ⟨_, rfl⟩; have h75 : AT true (m + 2) c46 w28 qa83 [.slice A77 ((rd (rd ob35.rows t25.1) t25.2.1).Key).length C78, .slice A80 ((rd (rd ob35.rows t25.1) t25.2.1).Value).length C81, .int .i64 ((rd (rd ob35.rows t25.1) t25.2.1).Rev)] := by rw [qqa83]; exact h75
  replace h75 := h75.ev ER nq
  as_aux_lemma =>
  refine dq F (fun wq hS => r_indexAddr' F Try.underlying27 sz_36 rfl rfl g71.1 g71.2 e74 qqa83) ER.sb fun a F => ?_; refine d_e ?_; refine o_eff0 F rfl rfl rfl (e_storeelN (us := [.slice A64 t58.Key.length C65, .slice A67 t58.Value.length C68, .int .i64 t58.Rev]) (k := K_api_Row) F rfl rfl sz_36 h52 g71.1 g71.2 e74 qqa83 h75 rfl (nb rfl) (one_all rfl) t58 ⟨A64, C65, A67, C68, rfl, (SL.fl h66 (fun q => q)), (SL.fl h69 (fun q => q))⟩ ne_zm) ?_; rintro w85 a ⟨E86, h52, Z87⟩ F; replace B := B.size Z87; replace h41 := h41.ev E86; replace h43 := h43.ev E86 (ne_pm bj5.2.1) ne_zm; replace hat39 := hat39.ev E86 (ne_pm bj4.2); replace h51 := h51.ev E86 (ne_pm bj4.2); replace E := E.trans E86 lc1; have hl88 : (rd ob35.rows t25.1).length = ((rd ob35.rows t25.1).set t25.2.1.toNat t58).length := by simp
  have h51 : AT true j4 c60 w85 qa53 [.slice A49 ((rd ob35.rows t25.1).set t25.2.1.toNat t58).length C50] := by rw [← hl88]; exact h51
  replace F := F.sub (L' := [(0, .pointer (some ad38)), (3, .pointer (some qa16)), (4, .int .i64 t25.1), (5, .int .i64 t25.2.1), (6, .bool t25.2.2), (17, .bool t25.2.2), (18, .pointer (some ad38)), (19, .int .i64 t25.1), (20, .pointer (some ad38)), (21, .pointer (some (ad38.add 513))), (22, .pointer (some qa53)), (23, .slice A49 ((rd ob35.rows t25.1).set t25.2.1.toNat t58).length C50), (24, .int .i64 t25.2.1), (25, .agg #[.slice A7 a6.Key.length C8, .slice A10 a6.Value.length C11, .int .i64 a6.Rev]), (26, .agg #[.slice A64 t58.Key.length C65, .slice A67 t58.Value.length C68, .int .i64 t58.Rev])]) ⟨rfl, rfl, rfl, rfl, rfl, rfl, rfl, rfl, rfl, rfl, rfl, (by rw [← hl88]; rfl), rfl, rfl, rfl, trivial⟩; refine ⟨fun q => absurd rfl q, ?_⟩; refine d_nil ?_; obtain ⟨c89, e90, e91, e92, h43⟩ := ARO.back3 (off := 513) (z := m + 2) (k := t25.1) (AT.eqv (ds := (([.int .i64 ob35.bits] : List Value) ++ (cs40 ++ (([] : List Value)))) ++ (cs42 ++ (([.int .i64 ob35.many] : List Value)))) hat39 (by simp only [List.append_assoc])) (by have l0_ : cs40.length = 512 := (h41.1 : cs40.length = 512); simp only [List.length_append, List.length_cons, List.length_nil] <;> omega) h43 g45.1 (by have g_ := g45.2; omega) (by rw [← qqa53]; exact h51) h52 ⟨(ne_mp bj5.2.1), (pl hm0)⟩ bj5.1; replace h41 := AR.rc (c' := c89) (i' := 0) h41 (fun k_ hk_ => (e90 k_ (by rw [hk_]; exact ne_zm)).trans hk_); replace hat39 := AT.rc (c' := c89) (j' := j4) hat39 (fun k_ hk_ => (e90 k_ (by rw [hk_]; exact (ne_pm bj4.2))).trans hk_); replace E : Ev (fun x => (x = j4 ∨ x = j5) ∨ m ≤ x) c0 w0 c89 w85 := Ev.lent EL54 B0 (by show (j5 = j4 ∨ j5 = j5); omega) (by omega) e47 e48 E e90 e92 (by omega); replace B : CB (m + 5) c89 w85 := B.recol (fun b_ => (e91 b_).imp id (fun q_ => by rw [q_]; exact (Nat.lt_add_right _ bj5.2.1))); refine hK32 _ _ ?_; replace F : Fr a 54 [(0, .pointer (some ad38)), (4, .int .i64 t25.1)] := F.sub ⟨rfl, rfl, trivial⟩
  as_aux_lemma =>
  refine reg ?_; refine qm F fun a F => qm F fun a F => ?_; have h371 : ME j4 j5 c89 w85 (some ad38) (some (Mer.mk ob35.bits ob35.digests (ob35.rows.set t25.1.toNat ((rd ob35.rows t25.1).set t25.2.1.toNat t58)) ob35.many)) := ME.mk hat39 h41 h43; obtain ⟨t372, q373, H⟩ := bind_some H; refine qc F Try.func57 (merkle_Tree_changed.calls k (m := m + 5) (pl hm0) B h371 ⟨bj4.1, (Nat.lt_add_right _ bj4.2)⟩ ⟨bj5.1, (Nat.lt_add_right _ bj5.2.1), bj5.2.2⟩ _ q373) ?_; rintro e w375 ⟨c374, rfl, E376, B, h378⟩; refine rt fun a F => ?_; replace E := E.trans E376 (fun x (q : x = j4 ∨ x = j5) => q.elim (fun q => Or.inl (Or.inl q)) (fun q => Or.inl (Or.inr (q)))); refine nil ?_; obtain rfl := si H
  first | refine out0n F rfl ?_ | refine inbN (out0n F rfl ?_) | refine inbN (inbN (out0n F rfl ?_)) | refine inbN (inbN (inbN (out0n F rfl ?_)))
  exact ⟨cf (ct m) c374, rfl, E.lv B0, cfb, ME.rc h378 cfk cfk cfk (by omega)⟩
 replace H := im hb34 H; refine wcf (fb F (bfalse hb34)) ?_; refine sq fun K93 hK93 => ?_; have J364 : ∀ (c365 : Nat → Nat) (w366 : World) (a : Act) (ad97 : Addr) (ob94 : Mer) (cs99 : List Value) (t138 : List api_Row) (cs362 : List Value), p2 = some ad97 → Fr a 54 [(0, .pointer (some ad97)), (4, .int .i64 t25.1)] → Ev (fun x => (x = j4 ∨ x = j5) ∨ m ≤ x) c0 w0 c365 w366 → CB (m + 5) c365 w366 → AT true j4 c365 w366 ad97 (([.int .i64 ob94.bits] : List Value) ++ (cs99 ++ (([] : List Value) ++ (cs362 ++ (([.int .i64 ob94.many] : List Value)))))) → AR (Kint .u64) 0 c365 w366 cs99 512 ob94.digests → ARO (KOsl K_api_Row) j5 c365 w366 cs362 256 (ob94.rows.set t25.1.toNat t138) noHole → merkle_Tree_Put.j1 k t25 ob94 t138 = some r → K93 a w366 := by
  intro c365 w366 a ad97 ob94 cs99 t138 cs362 qe367 F E B hat98 h100 h363 H; unfold merkle_Tree_Put.j1 at H; refine hK93 _ _ ?_; refine reg ?_; refine qm F fun a F => ?_; refine qi F fun a F => ?_
  as_aux_lemma =>
  refine qf F ff_75_3 fun a F => ?_; refine qv F (r_load F rfl ag_3 (AT.cell hat98 ((get_app (n := 1) (k := 768) rfl).trans ((get_app (n := 512) (k := 256) (h100.1 : cs99.length = 512)).trans ((get_app (n := 0) (k := 256) rfl).trans ((get_app (n := 256) (k := 0) (ARO.len h363 : cs362.length = 256)).trans rfl)))))) fun a F => ?_; refine qv F (r_add F rfl rfl) fun a F => ?_; refine qi F fun a F => ?_; refine qf F ff_75_3 fun a F => ?_; refine q_eff0 F rfl rfl (e_store F rfl rfl sz_3 hat98 (by have l0_ : cs99.length = 512 := (h100.1 : cs99.length = 512); have l1_ : cs362.length = 256 := (ARO.len h363 : cs362.length = 256); simp only [List.length_append, List.length_cons, List.length_nil, l0_, l1_] <;> omega) rfl) ?_; rintro w368 a ⟨E369, hat98, Z370⟩ F; replace B := B.size Z370; replace h100 := h100.ev E369 (ne_z bj4.1); replace h363 := h363.ev E369 bj5.2.2 (ne_z bj4.1); replace E := E.trans E369 (fun x (q : x = j4) => Or.inl (Or.inl q)); replace hat98 : AT true j4 c365 w368 ad97 (([.int .i64 ob94.bits] : List Value) ++ (cs99 ++ (([] : List Value) ++ (cs362 ++ (([.int .i64 (IntKind.i64.wrap (ob94.many + 1))] : List Value)))))) := AT.eqv hat98 ((set_app (n := 1) (k := 768) rfl).trans (congrArg (fun z_ => ([.int .i64 ob94.bits] : List Value) ++ z_) ((set_app (n := 512) (k := 256) (h100.1 : cs99.length = 512)).trans (congrArg (fun z_ => cs99 ++ z_) ((set_app (n := 0) (k := 256) rfl).trans (congrArg (fun z_ => ([] : List Value) ++ z_) ((set_app (n := 256) (k := 0) (ARO.len h363 : cs362.length = 256)).trans (congrArg (fun z_ => cs362 ++ z_) rfl)))))))); refine nil (hK32 _ _ ?_); refine reg ?_; refine qm F fun a F => qm F fun a F => ?_; have h380 : ME j4 j5 c365 w368 (some ad97) (some (Mer.mk ob94.bits ob94.digests (ob94.rows.set t25.1.toNat t138) (IntKind.i64.wrap (ob94.many + 1)))) := ME.mk hat98 h100 h363; obtain ⟨t372, q373, H⟩ := bind_some H; refine qc F Try.func57 (merkle_Tree_changed.calls k (m := m + 5) (pl hm0) B h380 ⟨bj4.1, (Nat.lt_add_right _ bj4.2)⟩ ⟨bj5.1, (Nat.lt_add_right _ bj5.2.1), bj5.2.2⟩ _ q373) ?_; rintro e w382 ⟨c381, rfl, E383, B, h385⟩; refine rt fun a F => ?_; replace E := E.trans E383 (fun x (q : x = j4 ∨ x = j5) => q.elim (fun q => Or.inl (Or.inl q)) (fun q => Or.inl (Or.inr (q)))); refine nil ?_; obtain rfl := si H
  first | refine out0n F rfl ?_ | refine inbN (out0n F rfl ?_) | refine inbN (inbN (out0n F rfl ?_)) | refine inbN (inbN (inbN (out0n F rfl ?_)))
  exact ⟨cf (ct m) c381, rfl, E.lv B0, cfb, (by rw [qe367]; exact ME.rc h385 cfk cfk cfk (by omega))⟩
 obtain ⟨ob94, e95, H⟩ := bind_some H; have z96 := h3; rw [e95] at z96; obtain ⟨ad97, cs99, cs101, rfl, hat98, h100, h102⟩ := ME.some z96
 as_aux_lemma =>
 replace H := ifN H; obtain ⟨g104, H⟩ := H; obtain ⟨c105, e106, e107, A108, C109, h110, h111, h102⟩ := ARO.lend (off := 513) (z := m + 3) (AT.eqv (ds := (([.int .i64 ob94.bits] : List Value) ++ (cs99 ++ (([] : List Value)))) ++ (cs101 ++ (([.int .i64 ob94.many] : List Value)))) hat98 (by simp only [List.append_assoc])) (by have l0_ : cs99.length = 512 := (h100.1 : cs99.length = 512); simp only [List.length_append, List.length_cons, List.length_nil] <;> omega) h102 t25.1 g104.1 (by have g_ := g104.2; omega) ⟨(ne_mp bj5.2.1), (pl hm0)⟩; obtain ⟨qa112, qqa112⟩ : ∃ q, q = (ad97.add (513 + t25.1.toNat * 1)) := ⟨_, rfl⟩; have h110 : AT true j4 c27 w28 qa112 [.slice A108 (rd ob94.rows t25.1).length C109] := by rw [qqa112]; exact h110
 replace h9 := SL.rc (c' := c105) (j' := 0) (i' := 0) h9 (fun k_ hk_ => (e106 k_ (by rw [hk_]; exact (ne_z bj5.1))).trans hk_) (fun k_ hk_ => (e106 k_ (by rw [hk_]; exact (ne_z bj5.1))).trans hk_); replace h12 := SL.rc (c' := c105) (j' := 0) (i' := 0) h12 (fun k_ hk_ => (e106 k_ (by rw [hk_]; exact (ne_z bj5.1))).trans hk_) (fun k_ hk_ => (e106 k_ (by rw [hk_]; exact (ne_z bj5.1))).trans hk_); replace h18 := AT.rc (c' := c105) (j' := m + 1) h18 (fun k_ hk_ => (e106 k_ (by rw [hk_]; exact (ne_mp bj5.2.1))).trans hk_); replace h100 := AR.rc (c' := c105) (i' := 0) h100 (fun k_ hk_ => (e106 k_ (by rw [hk_]; exact (ne_z bj5.1))).trans hk_); replace hat98 := AT.rc (c' := c105) (j' := j4) hat98 (fun k_ hk_ => (e106 k_ (by rw [hk_]; exact (Ne.symm bj5.2.2))).trans hk_); replace h110 := AT.rc (c' := c105) (j' := j4) h110 (fun k_ hk_ => (e106 k_ (by rw [hk_]; exact (Ne.symm bj5.2.2))).trans hk_); have EL113 := E; have E : Ev (fun x => (x = j4 ∨ x = j5) ∨ m ≤ x) c105 w28 c105 w28 := Ev.refl; replace B : CB (m + 5) c105 w28 := B.recol (fun b_ => (e107 b_).imp id (fun q_ => by rw [q_]; exact lm)); refine regD (SB (fun x => x = m + 3) c105 w28) 16 (.q 0 (.q 1 (.q 2 (.q 3 (.q 4 (.q 5 (.q 6 (.q 7 (.q 8 (.q 9 (.f 10 (.f 11 (.f 12 (.e 13 (.e 14 (.q 15 (.e 16 .nil)))) 13 (.f 12 (.e 14 (.q 15 (.e 16 .nil))) 14 (.e 12 (.q 15 (.e 16 .nil))))) 13 (.f 11 (.f 12 (.e 14 (.q 15 (.e 16 .nil))) 14 (.e 12 (.q 15 (.e 16 .nil)))) 14 (.e 11 (.e 12 (.q 15 (.e 16 .nil)))))) 13 (.f 10 (.f 11 (.f 12 (.e 14 (.q 15 (.e 16 .nil))) 14 (.e 12 (.q 15 (.e 16 .nil)))) 14 (.e 11 (.e 12 (.q 15 (.e 16 .nil))))) 14 (.e 10 (.e 11 (.e 12 (.q 15 (.e 16 .nil))))))))))))))))) Try_hm (by decide +kernel) ?_; intro w115 w1_ w2_ w3_ w4_; have E116 : Ev No c105 w28 c105 w115 := Ev.same w1_ w2_ w3_ w4_; replace B := B.same w1_; have zh18 := h18; have zh110 := h110; have ER : Ev (fun x => x = m + 3) c105 w28 c105 w115 := Ev.same w1_ w2_ w3_ w4_; replace h9 := h9.ev E116
 as_aux_lemma =>
 replace h12 := h12.ev E116; replace h100 := h100.ev E116; replace h102 := h102.ev E116; replace hat98 := hat98.ev E116; replace h110 := h110.ev E116; replace h111 := h111.ev E116; replace E := E.n E116; refine dm F ER.sb fun a F => ?_; refine dm F ER.sb fun a F => ?_; refine dm F ER.sb fun a F => ?_; refine dm F ER.sb fun a F => ?_; refine di F ER.sb fun a F => ?_; refine df F ff_75_2 ER.sb fun a F => ?_; refine dq F (fun wq hS => r_indexArr3 F ua_73 sz_27 rfl rfl g104.1 (by have g_ := g104.2; omega) hat98 qqa112) ER.sb fun a F => ?_; refine dq F (fun wq hS => r_load F rfl ag_27 (AT.cell0 (AT.sb zh110 hS (ne_pm bj4.2)) rfl)) ER.sb fun a F => ?_; refine dm F ER.sb fun a F => ?_; refine dq F (fun wq hS => r_loads (cs := [.slice A7 a6.Key.length C8, .slice A10 a6.Value.length C11, .int .i64 a6.Rev]) F rfl ag_36 sz_36 (AT.sb zh18 hS mm)) ER.sb fun a F => ?_; refine d_f ?_ ?_
 ·obtain ⟨t117, q118, H⟩ := bind_some H; refine oc F Try.func41 (merkle_own.calls (m := m + 5) (pl hm0) B h9 h12 _ q118) ?_; rintro e w120 ⟨c119, A123, C124, A126, C127, rfl, E121, B, h125, h128⟩; refine rt fun a F => ?_; replace ER := ER.trans E121 nx
  as_aux_lemma =>
  replace h100 := h100.ev E121; replace h102 := h102.ev E121; replace hat98 := hat98.ev E121; replace h110 := h110.ev E121; replace h111 := h111.ev E121; replace E := E.n E121; refine ⟨fun _ => ER.sb, ?_⟩; refine d_f ?_ ?_
  ·refine o_eff F rfl rfl rfl (by decide) (e_buildSliceF (n := 1) (e := 36) (c := c119) (k := K_api_Row) (i := 0) F [(0, .agg #[.slice A123 t117.Key.length C124, .slice A126 t117.Value.length C127, .int .i64 t117.Rev])] [.slice A123 t117.Key.length C124, .slice A126 t117.Value.length C127, .int .i64 t117.Rev] ([t117] : List api_Row) (by exact ⟨rfl, rfl, trivial⟩) (fun w => by kernel_rfl) rfl (by decide) rfl ⟨⟨A123, C124, A126, C127, rfl, (SL.fl h125 (fun q => q)), (SL.fl h128 (fun q => q))⟩, trivial⟩ (fun q => q) (m + 4)) ?_; rintro v w132 a ⟨c131, A133, C134, rfl, E135, h136, B137, hf130⟩ F; replace B := B137 _ B lm; replace ER := ER.trans E135 nx; replace h100 := h100.ev E135; replace h102 := h102.ev E135; replace hat98 := hat98.ev E135; replace h110 := h110.ev E135; replace h111 := h111.ev E135; replace E := E.n E135; refine ⟨fun _ => ER.sb, ?_⟩; refine d_f ?_ ?_
   ·obtain ⟨t138, q139, H⟩ := bind_some H; refine oc F Try.func56 (slices_Insert.calls (m := m + 5) (pl hm0) B h111 h136.r hf130 (by omega) (by omega) _ q139) ?_; rintro e w141 ⟨c140, A144, C145, rfl, E142, B, h146⟩; refine rt fun a F => ?_
    as_aux_lemma =>
    replace ER := ER.trans E142 (fun x q => by replace q : x = m + 3 := q; show x = m + 3; omega); replace h100 := h100.ev E142; replace h102 := h102.ev E142 (ne_pm bj5.2.1) ne_zm; replace hat98 := hat98.ev E142 (ne_pm bj4.2); replace h110 := h110.ev E142 (ne_pm bj4.2); replace E := E.trans E142 lc1; refine ⟨fun _ => ER.sb, ?_⟩; refine d_e ?_; refine o_val F rfl rfl rfl (by decide) (r_nil F rfl) fun a F => ?_; refine ⟨fun _ => ER.sb, ?_⟩; refine d_e ?_; refine o_val F rfl rfl rfl (by decide) (r_fieldAddr F rfl ff_75_2) fun a F => ?_; refine ⟨fun _ => ER.sb, ?_⟩; refine dq F (fun wq hS => r_indexArr3 F ua_73 sz_27 rfl rfl g104.1 (by have g_ := g104.2; omega) hat98 qqa112) ER.sb fun a F => ?_; refine d_e ?_; refine o_eff0 F rfl rfl rfl (e_storearH F rfl rfl sz_27 (AT.eqv (ds := (([.int .i64 ob94.bits] : List Value) ++ (cs99 ++ (([] : List Value)))) ++ (cs101 ++ (([.int .i64 ob94.many] : List Value)))) hat98 (by simp only [List.append_assoc])) (by have l0_ : cs99.length = 512 := (h100.1 : cs99.length = 512); simp only [List.length_append, List.length_cons, List.length_nil] <;> omega) h102 (m := t25.1.toNat) (by have g_ := g104; omega) qqa112 rfl bj5.2.2 bj4.1) ?_; rintro w148 a ⟨cs151, E149, hat98, h102, h110, Z150⟩ F; replace B := B.size Z150; replace h100 := h100.ev E149 (ne_z bj4.1); replace h146 := h146.ev E149 (ne_mp bj4.2) (ne_z bj4.1); replace E := E.trans E149 (fun x (q : x = j4) => Or.inl (Or.inl q)); replace hat98 : AT true j4 c140 w148 ad97 (([.int .i64 ob94.bits] : List Value) ++ (cs99 ++ (([] : List Value) ++ (cs151 ++ (([.int .i64 ob94.many] : List Value)))))) := AT.eqv hat98 (by simp only [List.append_assoc])
    as_aux_lemma =>
    refine ⟨fun q => absurd rfl q, ?_⟩; refine d_nil ?_; obtain ⟨c152, e153, e154, e155, h102⟩ := ARO.back3 (off := 513) (z := m + 3) (k := t25.1) (AT.eqv (ds := (([.int .i64 ob94.bits] : List Value) ++ (cs99 ++ (([] : List Value)))) ++ (cs151 ++ (([.int .i64 ob94.many] : List Value)))) hat98 (by simp only [List.append_assoc])) (by have l0_ : cs99.length = 512 := (h100.1 : cs99.length = 512); simp only [List.length_append, List.length_cons, List.length_nil] <;> omega) h102 g104.1 (by have g_ := g104.2; omega) (by rw [← qqa112]; exact h110) h146 ⟨(ne_mp bj5.2.1), (pl hm0)⟩ bj5.1; replace h100 := AR.rc (c' := c152) (i' := 0) h100 (fun k_ hk_ => (e153 k_ (by rw [hk_]; exact ne_zm)).trans hk_); replace hat98 := AT.rc (c' := c152) (j' := j4) hat98 (fun k_ hk_ => (e153 k_ (by rw [hk_]; exact (ne_pm bj4.2))).trans hk_); replace E : Ev (fun x => (x = j4 ∨ x = j5) ∨ m ≤ x) c0 w0 c152 w148 := Ev.lent EL113 B0 (by show (j5 = j4 ∨ j5 = j5); omega) (by omega) e106 e107 E e153 e155 (by omega); replace B : CB (m + 5) c152 w148 := B.recol (fun b_ => (e154 b_).imp id (fun q_ => by rw [q_]; exact (Nat.lt_add_right _ bj5.2.1))); exact J364 c152 w148 a ad97 ob94 cs99 t138 cs151 rfl (F.sub ⟨rfl, rfl, trivial⟩) E B hat98 h100 h102 H
   obtain ⟨t138, q139, H⟩ := bind_some H; refine o_val F rfl rfl rfl (by decide) (r_nil F rfl) fun a F => ?_; refine ⟨fun _ => ER.sb, ?_⟩; refine d_f ?_ ?_
   ·refine oc F Try.func56 (slices_Insert.calls (m := m + 5) (pl hm0) B h111 h136.r hf130 (by omega) (by omega) _ q139) ?_; rintro e w157 ⟨c156, A160, C161, rfl, E158, B, h162⟩; refine rt fun a F => ?_; replace ER := ER.trans E158 (fun x q => by replace q : x = m + 3 := q; show x = m + 3; omega); replace h100 := h100.ev E158; replace h102 := h102.ev E158 (ne_pm bj5.2.1) ne_zm; replace hat98 := hat98.ev E158 (ne_pm bj4.2); replace h110 := h110.ev E158 (ne_pm bj4.2); replace E := E.trans E158 lc1; refine ⟨fun _ => ER.sb, ?_⟩; refine d_e ?_
    as_aux_lemma =>
    refine o_val F rfl rfl rfl (by decide) (r_fieldAddr F rfl ff_75_2) fun a F => ?_; refine ⟨fun _ => ER.sb, ?_⟩; refine dq F (fun wq hS => r_indexArr3 F ua_73 sz_27 rfl rfl g104.1 (by have g_ := g104.2; omega) hat98 qqa112) ER.sb fun a F => ?_; refine d_e ?_; refine o_eff0 F rfl rfl rfl (e_storearH F rfl rfl sz_27 (AT.eqv (ds := (([.int .i64 ob94.bits] : List Value) ++ (cs99 ++ (([] : List Value)))) ++ (cs101 ++ (([.int .i64 ob94.many] : List Value)))) hat98 (by simp only [List.append_assoc])) (by have l0_ : cs99.length = 512 := (h100.1 : cs99.length = 512); simp only [List.length_append, List.length_cons, List.length_nil] <;> omega) h102 (m := t25.1.toNat) (by have g_ := g104; omega) qqa112 rfl bj5.2.2 bj4.1) ?_; rintro w164 a ⟨cs167, E165, hat98, h102, h110, Z166⟩ F; replace B := B.size Z166; replace h100 := h100.ev E165 (ne_z bj4.1); replace h162 := h162.ev E165 (ne_mp bj4.2) (ne_z bj4.1); replace E := E.trans E165 (fun x (q : x = j4) => Or.inl (Or.inl q)); replace hat98 : AT true j4 c156 w164 ad97 (([.int .i64 ob94.bits] : List Value) ++ (cs99 ++ (([] : List Value) ++ (cs167 ++ (([.int .i64 ob94.many] : List Value)))))) := AT.eqv hat98 (by simp only [List.append_assoc]); refine ⟨fun q => absurd rfl q, ?_⟩; refine d_nil ?_; obtain ⟨c168, e169, e170, e171, h102⟩ := ARO.back3 (off := 513) (z := m + 3) (k := t25.1) (AT.eqv (ds := (([.int .i64 ob94.bits] : List Value) ++ (cs99 ++ (([] : List Value)))) ++ (cs167 ++ (([.int .i64 ob94.many] : List Value)))) hat98 (by simp only [List.append_assoc])) (by have l0_ : cs99.length = 512 := (h100.1 : cs99.length = 512); simp only [List.length_append, List.length_cons, List.length_nil] <;> omega) h102 g104.1 (by have g_ := g104.2; omega) (by rw [← qqa112]; exact h110) h162 ⟨(ne_mp bj5.2.1), (pl hm0)⟩ bj5.1; replace h100 := AR.rc (c' := c168) (i' := 0) h100 (fun k_ hk_ => (e169 k_ (by rw [hk_]; exact ne_zm)).trans hk_); replace hat98 := AT.rc (c' := c168) (j' := j4) hat98 (fun k_ hk_ => (e169 k_ (by rw [hk_]; exact (ne_pm bj4.2))).trans hk_); replace E : Ev (fun x => (x = j4 ∨ x = j5) ∨ m ≤ x) c0 w0 c168 w164 := Ev.lent EL113 B0 (by show (j5 = j4 ∨ j5 = j5); omega) (by omega) e106 e107 E e169 e171 (by omega); replace B : CB (m + 5) c168 w164 := B.recol (fun b_ => (e170 b_).imp id (fun q_ => by rw [q_]; exact (Nat.lt_add_right _ bj5.2.1))); exact J364 c168 w164 a ad97 ob94 cs99 t138 cs167 rfl (F.sub ⟨rfl, rfl, trivial⟩) E B hat98 h100 h102 H
   refine o_val F rfl rfl rfl (by decide) (r_fieldAddr F rfl ff_75_2) fun a F => ?_; refine ⟨fun _ => ER.sb, ?_⟩; refine d_e ?_
   as_aux_lemma =>
   refine oc F Try.func56 (slices_Insert.calls (m := m + 5) (pl hm0) B h111 h136.r hf130 (by omega) (by omega) _ q139) ?_; rintro e w173 ⟨c172, A176, C177, rfl, E174, B, h178⟩; refine rt fun a F => ?_; replace ER := ER.trans E174 (fun x q => by replace q : x = m + 3 := q; show x = m + 3; omega); replace h100 := h100.ev E174; replace h102 := h102.ev E174 (ne_pm bj5.2.1) ne_zm; replace hat98 := hat98.ev E174 (ne_pm bj4.2); replace h110 := h110.ev E174 (ne_pm bj4.2); replace E := E.trans E174 lc1; refine ⟨fun _ => ER.sb, ?_⟩; refine dq F (fun wq hS => r_indexArr3 F ua_73 sz_27 rfl rfl g104.1 (by have g_ := g104.2; omega) hat98 qqa112) ER.sb fun a F => ?_; refine d_e ?_; refine o_eff0 F rfl rfl rfl (e_storearH F rfl rfl sz_27 (AT.eqv (ds := (([.int .i64 ob94.bits] : List Value) ++ (cs99 ++ (([] : List Value)))) ++ (cs101 ++ (([.int .i64 ob94.many] : List Value)))) hat98 (by simp only [List.append_assoc])) (by have l0_ : cs99.length = 512 := (h100.1 : cs99.length = 512); simp only [List.length_append, List.length_cons, List.length_nil] <;> omega) h102 (m := t25.1.toNat) (by have g_ := g104; omega) qqa112 rfl bj5.2.2 bj4.1) ?_; rintro w180 a ⟨cs183, E181, hat98, h102, h110, Z182⟩ F; replace B := B.size Z182; replace h100 := h100.ev E181 (ne_z bj4.1); replace h178 := h178.ev E181 (ne_mp bj4.2) (ne_z bj4.1); replace E := E.trans E181 (fun x (q : x = j4) => Or.inl (Or.inl q)); replace hat98 : AT true j4 c172 w180 ad97 (([.int .i64 ob94.bits] : List Value) ++ (cs99 ++ (([] : List Value) ++ (cs183 ++ (([.int .i64 ob94.many] : List Value)))))) := AT.eqv hat98 (by simp only [List.append_assoc]); refine ⟨fun q => absurd rfl q, ?_⟩; refine d_nil ?_; obtain ⟨c184, e185, e186, e187, h102⟩ := ARO.back3 (off := 513) (z := m + 3) (k := t25.1) (AT.eqv (ds := (([.int .i64 ob94.bits] : List Value) ++ (cs99 ++ (([] : List Value)))) ++ (cs183 ++ (([.int .i64 ob94.many] : List Value)))) hat98 (by simp only [List.append_assoc])) (by have l0_ : cs99.length = 512 := (h100.1 : cs99.length = 512); simp only [List.length_append, List.length_cons, List.length_nil] <;> omega) h102 g104.1 (by have g_ := g104.2; omega) (by rw [← qqa112]; exact h110) h178 ⟨(ne_mp bj5.2.1), (pl hm0)⟩ bj5.1
   as_aux_lemma =>
   replace h100 := AR.rc (c' := c184) (i' := 0) h100 (fun k_ hk_ => (e185 k_ (by rw [hk_]; exact ne_zm)).trans hk_); replace hat98 := AT.rc (c' := c184) (j' := j4) hat98 (fun k_ hk_ => (e185 k_ (by rw [hk_]; exact (ne_pm bj4.2))).trans hk_); replace E : Ev (fun x => (x = j4 ∨ x = j5) ∨ m ≤ x) c0 w0 c184 w180 := Ev.lent EL113 B0 (by show (j5 = j4 ∨ j5 = j5); omega) (by omega) e106 e107 E e185 e187 (by omega); replace B : CB (m + 5) c184 w180 := B.recol (fun b_ => (e186 b_).imp id (fun q_ => by rw [q_]; exact (Nat.lt_add_right _ bj5.2.1))); exact J364 c184 w180 a ad97 ob94 cs99 t138 cs183 rfl (F.sub ⟨rfl, rfl, trivial⟩) E B hat98 h100 h102 H
  refine o_val F rfl rfl rfl (by decide) (r_nil F rfl) fun a F => ?_; refine ⟨fun _ => ER.sb, ?_⟩; refine d_f ?_ ?_
  ·refine o_eff F rfl rfl rfl (by decide) (e_buildSliceF (n := 1) (e := 36) (c := c119) (k := K_api_Row) (i := 0) F [(0, .agg #[.slice A123 t117.Key.length C124, .slice A126 t117.Value.length C127, .int .i64 t117.Rev])] [.slice A123 t117.Key.length C124, .slice A126 t117.Value.length C127, .int .i64 t117.Rev] ([t117] : List api_Row) (by exact ⟨rfl, rfl, trivial⟩) (fun w => by kernel_rfl) rfl (by decide) rfl ⟨⟨A123, C124, A126, C127, rfl, (SL.fl h125 (fun q => q)), (SL.fl h128 (fun q => q))⟩, trivial⟩ (fun q => q) (m + 4)) ?_; rintro v w190 a ⟨c189, A191, C192, rfl, E193, h194, B195, hf188⟩ F; replace B := B195 _ B lm; replace ER := ER.trans E193 nx; replace h100 := h100.ev E193; replace h102 := h102.ev E193; replace hat98 := hat98.ev E193; replace h110 := h110.ev E193; replace h111 := h111.ev E193; replace E := E.n E193; refine ⟨fun _ => ER.sb, ?_⟩; refine d_f ?_ ?_
   ·obtain ⟨t138, q139, H⟩ := bind_some H; refine oc F Try.func56 (slices_Insert.calls (m := m + 5) (pl hm0) B h111 h194.r hf188 (by omega) (by omega) _ q139) ?_; rintro e w197 ⟨c196, A200, C201, rfl, E198, B, h202⟩; refine rt fun a F => ?_
    as_aux_lemma =>
    replace ER := ER.trans E198 (fun x q => by replace q : x = m + 3 := q; show x = m + 3; omega); replace h100 := h100.ev E198; replace h102 := h102.ev E198 (ne_pm bj5.2.1) ne_zm; replace hat98 := hat98.ev E198 (ne_pm bj4.2); replace h110 := h110.ev E198 (ne_pm bj4.2); replace E := E.trans E198 lc1; refine ⟨fun _ => ER.sb, ?_⟩; refine d_e ?_; refine o_val F rfl rfl rfl (by decide) (r_fieldAddr F rfl ff_75_2) fun a F => ?_; refine ⟨fun _ => ER.sb, ?_⟩; refine dq F (fun wq hS => r_indexArr3 F ua_73 sz_27 rfl rfl g104.1 (by have g_ := g104.2; omega) hat98 qqa112) ER.sb fun a F => ?_; refine d_e ?_; refine o_eff0 F rfl rfl rfl (e_storearH F rfl rfl sz_27 (AT.eqv (ds := (([.int .i64 ob94.bits] : List Value) ++ (cs99 ++ (([] : List Value)))) ++ (cs101 ++ (([.int .i64 ob94.many] : List Value)))) hat98 (by simp only [List.append_assoc])) (by have l0_ : cs99.length = 512 := (h100.1 : cs99.length = 512); simp only [List.length_append, List.length_cons, List.length_nil] <;> omega) h102 (m := t25.1.toNat) (by have g_ := g104; omega) qqa112 rfl bj5.2.2 bj4.1) ?_; rintro w204 a ⟨cs207, E205, hat98, h102, h110, Z206⟩ F; replace B := B.size Z206; replace h100 := h100.ev E205 (ne_z bj4.1); replace h202 := h202.ev E205 (ne_mp bj4.2) (ne_z bj4.1); replace E := E.trans E205 (fun x (q : x = j4) => Or.inl (Or.inl q)); replace hat98 : AT true j4 c196 w204 ad97 (([.int .i64 ob94.bits] : List Value) ++ (cs99 ++ (([] : List Value) ++ (cs207 ++ (([.int .i64 ob94.many] : List Value)))))) := AT.eqv hat98 (by simp only [List.append_assoc]); refine ⟨fun q => absurd rfl q, ?_⟩; refine d_nil ?_; obtain ⟨c208, e209, e210, e211, h102⟩ := ARO.back3 (off := 513) (z := m + 3) (k := t25.1) (AT.eqv (ds := (([.int .i64 ob94.bits] : List Value) ++ (cs99 ++ (([] : List Value)))) ++ (cs207 ++ (([.int .i64 ob94.many] : List Value)))) hat98 (by simp only [List.append_assoc])) (by have l0_ : cs99.length = 512 := (h100.1 : cs99.length = 512); simp only [List.length_append, List.length_cons, List.length_nil] <;> omega) h102 g104.1 (by have g_ := g104.2; omega) (by rw [← qqa112]; exact h110) h202 ⟨(ne_mp bj5.2.1), (pl hm0)⟩ bj5.1
    as_aux_lemma =>
    replace h100 := AR.rc (c' := c208) (i' := 0) h100 (fun k_ hk_ => (e209 k_ (by rw [hk_]; exact ne_zm)).trans hk_); replace hat98 := AT.rc (c' := c208) (j' := j4) hat98 (fun k_ hk_ => (e209 k_ (by rw [hk_]; exact (ne_pm bj4.2))).trans hk_); replace E : Ev (fun x => (x = j4 ∨ x = j5) ∨ m ≤ x) c0 w0 c208 w204 := Ev.lent EL113 B0 (by show (j5 = j4 ∨ j5 = j5); omega) (by omega) e106 e107 E e209 e211 (by omega); replace B : CB (m + 5) c208 w204 := B.recol (fun b_ => (e210 b_).imp id (fun q_ => by rw [q_]; exact (Nat.lt_add_right _ bj5.2.1))); exact J364 c208 w204 a ad97 ob94 cs99 t138 cs207 rfl (F.sub ⟨rfl, rfl, trivial⟩) E B hat98 h100 h102 H
   obtain ⟨t138, q139, H⟩ := bind_some H; refine o_val F rfl rfl rfl (by decide) (r_fieldAddr F rfl ff_75_2) fun a F => ?_; refine ⟨fun _ => ER.sb, ?_⟩; refine d_e ?_; refine oc F Try.func56 (slices_Insert.calls (m := m + 5) (pl hm0) B h111 h194.r hf188 (by omega) (by omega) _ q139) ?_; rintro e w213 ⟨c212, A216, C217, rfl, E214, B, h218⟩; refine rt fun a F => ?_; replace ER := ER.trans E214 (fun x q => by replace q : x = m + 3 := q; show x = m + 3; omega); replace h100 := h100.ev E214; replace h102 := h102.ev E214 (ne_pm bj5.2.1) ne_zm; replace hat98 := hat98.ev E214 (ne_pm bj4.2); replace h110 := h110.ev E214 (ne_pm bj4.2); replace E := E.trans E214 lc1; refine ⟨fun _ => ER.sb, ?_⟩; refine dq F (fun wq hS => r_indexArr3 F ua_73 sz_27 rfl rfl g104.1 (by have g_ := g104.2; omega) hat98 qqa112) ER.sb fun a F => ?_; refine d_e ?_; refine o_eff0 F rfl rfl rfl (e_storearH F rfl rfl sz_27 (AT.eqv (ds := (([.int .i64 ob94.bits] : List Value) ++ (cs99 ++ (([] : List Value)))) ++ (cs101 ++ (([.int .i64 ob94.many] : List Value)))) hat98 (by simp only [List.append_assoc])) (by have l0_ : cs99.length = 512 := (h100.1 : cs99.length = 512); simp only [List.length_append, List.length_cons, List.length_nil] <;> omega) h102 (m := t25.1.toNat) (by have g_ := g104; omega) qqa112 rfl bj5.2.2 bj4.1) ?_; rintro w220 a ⟨cs223, E221, hat98, h102, h110, Z222⟩ F
   as_aux_lemma =>
   replace B := B.size Z222; replace h100 := h100.ev E221 (ne_z bj4.1); replace h218 := h218.ev E221 (ne_mp bj4.2) (ne_z bj4.1); replace E := E.trans E221 (fun x (q : x = j4) => Or.inl (Or.inl q)); replace hat98 : AT true j4 c212 w220 ad97 (([.int .i64 ob94.bits] : List Value) ++ (cs99 ++ (([] : List Value) ++ (cs223 ++ (([.int .i64 ob94.many] : List Value)))))) := AT.eqv hat98 (by simp only [List.append_assoc]); refine ⟨fun q => absurd rfl q, ?_⟩; refine d_nil ?_; obtain ⟨c224, e225, e226, e227, h102⟩ := ARO.back3 (off := 513) (z := m + 3) (k := t25.1) (AT.eqv (ds := (([.int .i64 ob94.bits] : List Value) ++ (cs99 ++ (([] : List Value)))) ++ (cs223 ++ (([.int .i64 ob94.many] : List Value)))) hat98 (by simp only [List.append_assoc])) (by have l0_ : cs99.length = 512 := (h100.1 : cs99.length = 512); simp only [List.length_append, List.length_cons, List.length_nil] <;> omega) h102 g104.1 (by have g_ := g104.2; omega) (by rw [← qqa112]; exact h110) h218 ⟨(ne_mp bj5.2.1), (pl hm0)⟩ bj5.1; replace h100 := AR.rc (c' := c224) (i' := 0) h100 (fun k_ hk_ => (e225 k_ (by rw [hk_]; exact ne_zm)).trans hk_); replace hat98 := AT.rc (c' := c224) (j' := j4) hat98 (fun k_ hk_ => (e225 k_ (by rw [hk_]; exact (ne_pm bj4.2))).trans hk_); replace E : Ev (fun x => (x = j4 ∨ x = j5) ∨ m ≤ x) c0 w0 c224 w220 := Ev.lent EL113 B0 (by show (j5 = j4 ∨ j5 = j5); omega) (by omega) e106 e107 E e225 e227 (by omega); replace B : CB (m + 5) c224 w220 := B.recol (fun b_ => (e226 b_).imp id (fun q_ => by rw [q_]; exact (Nat.lt_add_right _ bj5.2.1))); exact J364 c224 w220 a ad97 ob94 cs99 t138 cs223 rfl (F.sub ⟨rfl, rfl, trivial⟩) E B hat98 h100 h102 H
  refine o_val F rfl rfl rfl (by decide) (r_fieldAddr F rfl ff_75_2) fun a F => ?_; refine ⟨fun _ => ER.sb, ?_⟩; refine d_e ?_; refine o_eff F rfl rfl rfl (by decide) (e_buildSliceF (n := 1) (e := 36) (c := c119) (k := K_api_Row) (i := 0) F [(0, .agg #[.slice A123 t117.Key.length C124, .slice A126 t117.Value.length C127, .int .i64 t117.Rev])] [.slice A123 t117.Key.length C124, .slice A126 t117.Value.length C127, .int .i64 t117.Rev] ([t117] : List api_Row) (by exact ⟨rfl, rfl, trivial⟩) (fun w => by kernel_rfl) rfl (by decide) rfl ⟨⟨A123, C124, A126, C127, rfl, (SL.fl h125 (fun q => q)), (SL.fl h128 (fun q => q))⟩, trivial⟩ (fun q => q) (m + 4)) ?_; rintro v w230 a ⟨c229, A231, C232, rfl, E233, h234, B235, hf228⟩ F; replace B := B235 _ B lm; replace ER := ER.trans E233 nx; replace h100 := h100.ev E233; replace h102 := h102.ev E233
  as_aux_lemma =>
  replace hat98 := hat98.ev E233; replace h110 := h110.ev E233; replace h111 := h111.ev E233; replace E := E.n E233; refine ⟨fun _ => ER.sb, ?_⟩; refine d_e ?_; obtain ⟨t138, q139, H⟩ := bind_some H; refine oc F Try.func56 (slices_Insert.calls (m := m + 5) (pl hm0) B h111 h234.r hf228 (by omega) (by omega) _ q139) ?_; rintro e w237 ⟨c236, A240, C241, rfl, E238, B, h242⟩; refine rt fun a F => ?_; replace ER := ER.trans E238 (fun x q => by replace q : x = m + 3 := q; show x = m + 3; omega); replace h100 := h100.ev E238; replace h102 := h102.ev E238 (ne_pm bj5.2.1) ne_zm; replace hat98 := hat98.ev E238 (ne_pm bj4.2); replace h110 := h110.ev E238 (ne_pm bj4.2); replace E := E.trans E238 lc1; refine ⟨fun _ => ER.sb, ?_⟩; refine dq F (fun wq hS => r_indexArr3 F ua_73 sz_27 rfl rfl g104.1 (by have g_ := g104.2; omega) hat98 qqa112) ER.sb fun a F => ?_; refine d_e ?_; refine o_eff0 F rfl rfl rfl (e_storearH F rfl rfl sz_27 (AT.eqv (ds := (([.int .i64 ob94.bits] : List Value) ++ (cs99 ++ (([] : List Value)))) ++ (cs101 ++ (([.int .i64 ob94.many] : List Value)))) hat98 (by simp only [List.append_assoc])) (by have l0_ : cs99.length = 512 := (h100.1 : cs99.length = 512); simp only [List.length_append, List.length_cons, List.length_nil] <;> omega) h102 (m := t25.1.toNat) (by have g_ := g104; omega) qqa112 rfl bj5.2.2 bj4.1) ?_; rintro w244 a ⟨cs247, E245, hat98, h102, h110, Z246⟩ F; replace B := B.size Z246
  as_aux_lemma =>
  replace h100 := h100.ev E245 (ne_z bj4.1); replace h242 := h242.ev E245 (ne_mp bj4.2) (ne_z bj4.1); replace E := E.trans E245 (fun x (q : x = j4) => Or.inl (Or.inl q)); replace hat98 : AT true j4 c236 w244 ad97 (([.int .i64 ob94.bits] : List Value) ++ (cs99 ++ (([] : List Value) ++ (cs247 ++ (([.int .i64 ob94.many] : List Value)))))) := AT.eqv hat98 (by simp only [List.append_assoc]); refine ⟨fun q => absurd rfl q, ?_⟩; refine d_nil ?_; obtain ⟨c248, e249, e250, e251, h102⟩ := ARO.back3 (off := 513) (z := m + 3) (k := t25.1) (AT.eqv (ds := (([.int .i64 ob94.bits] : List Value) ++ (cs99 ++ (([] : List Value)))) ++ (cs247 ++ (([.int .i64 ob94.many] : List Value)))) hat98 (by simp only [List.append_assoc])) (by have l0_ : cs99.length = 512 := (h100.1 : cs99.length = 512); simp only [List.length_append, List.length_cons, List.length_nil] <;> omega) h102 g104.1 (by have g_ := g104.2; omega) (by rw [← qqa112]; exact h110) h242 ⟨(ne_mp bj5.2.1), (pl hm0)⟩ bj5.1; replace h100 := AR.rc (c' := c248) (i' := 0) h100 (fun k_ hk_ => (e249 k_ (by rw [hk_]; exact ne_zm)).trans hk_); replace hat98 := AT.rc (c' := c248) (j' := j4) hat98 (fun k_ hk_ => (e249 k_ (by rw [hk_]; exact (ne_pm bj4.2))).trans hk_); replace E : Ev (fun x => (x = j4 ∨ x = j5) ∨ m ≤ x) c0 w0 c248 w244 := Ev.lent EL113 B0 (by show (j5 = j4 ∨ j5 = j5); omega) (by omega) e106 e107 E e249 e251 (by omega); replace B : CB (m + 5) c248 w244 := B.recol (fun b_ => (e250 b_).imp id (fun q_ => by rw [q_]; exact (Nat.lt_add_right _ bj5.2.1))); exact J364 c248 w244 a ad97 ob94 cs99 t138 cs247 rfl (F.sub ⟨rfl, rfl, trivial⟩) E B hat98 h100 h102 H
 refine o_val F rfl rfl rfl (by decide) (r_nil F rfl) fun a F => ?_; refine ⟨fun _ => ER.sb, ?_⟩; refine d_f ?_ ?_
 ·obtain ⟨t117, q118, H⟩ := bind_some H; refine oc F Try.func41 (merkle_own.calls (m := m + 5) (pl hm0) B h9 h12 _ q118) ?_; rintro e w253 ⟨c252, A256, C257, A259, C260, rfl, E254, B, h258, h261⟩; refine rt fun a F => ?_; replace ER := ER.trans E254 nx; replace h100 := h100.ev E254; replace h102 := h102.ev E254; replace hat98 := hat98.ev E254
  as_aux_lemma =>
  replace h110 := h110.ev E254; replace h111 := h111.ev E254; replace E := E.n E254; refine ⟨fun _ => ER.sb, ?_⟩; refine d_f ?_ ?_
  ·refine o_eff F rfl rfl rfl (by decide) (e_buildSliceF (n := 1) (e := 36) (c := c252) (k := K_api_Row) (i := 0) F [(0, .agg #[.slice A256 t117.Key.length C257, .slice A259 t117.Value.length C260, .int .i64 t117.Rev])] [.slice A256 t117.Key.length C257, .slice A259 t117.Value.length C260, .int .i64 t117.Rev] ([t117] : List api_Row) (by exact ⟨rfl, rfl, trivial⟩) (fun w => by kernel_rfl) rfl (by decide) rfl ⟨⟨A256, C257, A259, C260, rfl, (SL.fl h258 (fun q => q)), (SL.fl h261 (fun q => q))⟩, trivial⟩ (fun q => q) (m + 4)) ?_; rintro v w265 a ⟨c264, A266, C267, rfl, E268, h269, B270, hf263⟩ F; replace B := B270 _ B lm; replace ER := ER.trans E268 nx; replace h100 := h100.ev E268; replace h102 := h102.ev E268; replace hat98 := hat98.ev E268; replace h110 := h110.ev E268; replace h111 := h111.ev E268; replace E := E.n E268; refine ⟨fun _ => ER.sb, ?_⟩; refine d_f ?_ ?_
   ·obtain ⟨t138, q139, H⟩ := bind_some H; refine oc F Try.func56 (slices_Insert.calls (m := m + 5) (pl hm0) B h111 h269.r hf263 (by omega) (by omega) _ q139) ?_; rintro e w272 ⟨c271, A275, C276, rfl, E273, B, h277⟩; refine rt fun a F => ?_; replace ER := ER.trans E273 (fun x q => by replace q : x = m + 3 := q; show x = m + 3; omega); replace h100 := h100.ev E273; replace h102 := h102.ev E273 (ne_pm bj5.2.1) ne_zm
    as_aux_lemma =>
    replace hat98 := hat98.ev E273 (ne_pm bj4.2); replace h110 := h110.ev E273 (ne_pm bj4.2); replace E := E.trans E273 lc1; refine ⟨fun _ => ER.sb, ?_⟩; refine d_e ?_; refine o_val F rfl rfl rfl (by decide) (r_fieldAddr F rfl ff_75_2) fun a F => ?_; refine ⟨fun _ => ER.sb, ?_⟩; refine dq F (fun wq hS => r_indexArr3 F ua_73 sz_27 rfl rfl g104.1 (by have g_ := g104.2; omega) hat98 qqa112) ER.sb fun a F => ?_; refine d_e ?_; refine o_eff0 F rfl rfl rfl (e_storearH F rfl rfl sz_27 (AT.eqv (ds := (([.int .i64 ob94.bits] : List Value) ++ (cs99 ++ (([] : List Value)))) ++ (cs101 ++ (([.int .i64 ob94.many] : List Value)))) hat98 (by simp only [List.append_assoc])) (by have l0_ : cs99.length = 512 := (h100.1 : cs99.length = 512); simp only [List.length_append, List.length_cons, List.length_nil] <;> omega) h102 (m := t25.1.toNat) (by have g_ := g104; omega) qqa112 rfl bj5.2.2 bj4.1) ?_; rintro w279 a ⟨cs282, E280, hat98, h102, h110, Z281⟩ F; replace B := B.size Z281; replace h100 := h100.ev E280 (ne_z bj4.1); replace h277 := h277.ev E280 (ne_mp bj4.2) (ne_z bj4.1); replace E := E.trans E280 (fun x (q : x = j4) => Or.inl (Or.inl q)); replace hat98 : AT true j4 c271 w279 ad97 (([.int .i64 ob94.bits] : List Value) ++ (cs99 ++ (([] : List Value) ++ (cs282 ++ (([.int .i64 ob94.many] : List Value)))))) := AT.eqv hat98 (by simp only [List.append_assoc]); refine ⟨fun q => absurd rfl q, ?_⟩; refine d_nil ?_; obtain ⟨c283, e284, e285, e286, h102⟩ := ARO.back3 (off := 513) (z := m + 3) (k := t25.1) (AT.eqv (ds := (([.int .i64 ob94.bits] : List Value) ++ (cs99 ++ (([] : List Value)))) ++ (cs282 ++ (([.int .i64 ob94.many] : List Value)))) hat98 (by simp only [List.append_assoc])) (by have l0_ : cs99.length = 512 := (h100.1 : cs99.length = 512); simp only [List.length_append, List.length_cons, List.length_nil] <;> omega) h102 g104.1 (by have g_ := g104.2; omega) (by rw [← qqa112]; exact h110) h277 ⟨(ne_mp bj5.2.1), (pl hm0)⟩ bj5.1; replace h100 := AR.rc (c' := c283) (i' := 0) h100 (fun k_ hk_ => (e284 k_ (by rw [hk_]; exact ne_zm)).trans hk_); replace hat98 := AT.rc (c' := c283) (j' := j4) hat98 (fun k_ hk_ => (e284 k_ (by rw [hk_]; exact (ne_pm bj4.2))).trans hk_); replace E : Ev (fun x => (x = j4 ∨ x = j5) ∨ m ≤ x) c0 w0 c283 w279 := Ev.lent EL113 B0 (by show (j5 = j4 ∨ j5 = j5); omega) (by omega) e106 e107 E e284 e286 (by omega)
    as_aux_lemma =>
    replace B : CB (m + 5) c283 w279 := B.recol (fun b_ => (e285 b_).imp id (fun q_ => by rw [q_]; exact (Nat.lt_add_right _ bj5.2.1))); exact J364 c283 w279 a ad97 ob94 cs99 t138 cs282 rfl (F.sub ⟨rfl, rfl, trivial⟩) E B hat98 h100 h102 H
   obtain ⟨t138, q139, H⟩ := bind_some H; refine o_val F rfl rfl rfl (by decide) (r_fieldAddr F rfl ff_75_2) fun a F => ?_; refine ⟨fun _ => ER.sb, ?_⟩; refine d_e ?_; refine oc F Try.func56 (slices_Insert.calls (m := m + 5) (pl hm0) B h111 h269.r hf263 (by omega) (by omega) _ q139) ?_; rintro e w288 ⟨c287, A291, C292, rfl, E289, B, h293⟩; refine rt fun a F => ?_; replace ER := ER.trans E289 (fun x q => by replace q : x = m + 3 := q; show x = m + 3; omega); replace h100 := h100.ev E289; replace h102 := h102.ev E289 (ne_pm bj5.2.1) ne_zm; replace hat98 := hat98.ev E289 (ne_pm bj4.2); replace h110 := h110.ev E289 (ne_pm bj4.2); replace E := E.trans E289 lc1; refine ⟨fun _ => ER.sb, ?_⟩; refine dq F (fun wq hS => r_indexArr3 F ua_73 sz_27 rfl rfl g104.1 (by have g_ := g104.2; omega) hat98 qqa112) ER.sb fun a F => ?_; refine d_e ?_; refine o_eff0 F rfl rfl rfl (e_storearH F rfl rfl sz_27 (AT.eqv (ds := (([.int .i64 ob94.bits] : List Value) ++ (cs99 ++ (([] : List Value)))) ++ (cs101 ++ (([.int .i64 ob94.many] : List Value)))) hat98 (by simp only [List.append_assoc])) (by have l0_ : cs99.length = 512 := (h100.1 : cs99.length = 512); simp only [List.length_append, List.length_cons, List.length_nil] <;> omega) h102 (m := t25.1.toNat) (by have g_ := g104; omega) qqa112 rfl bj5.2.2 bj4.1) ?_; rintro w295 a ⟨cs298, E296, hat98, h102, h110, Z297⟩ F; replace B := B.size Z297; replace h100 := h100.ev E296 (ne_z bj4.1)
   as_aux_lemma =>
   replace h293 := h293.ev E296 (ne_mp bj4.2) (ne_z bj4.1); replace E := E.trans E296 (fun x (q : x = j4) => Or.inl (Or.inl q)); replace hat98 : AT true j4 c287 w295 ad97 (([.int .i64 ob94.bits] : List Value) ++ (cs99 ++ (([] : List Value) ++ (cs298 ++ (([.int .i64 ob94.many] : List Value)))))) := AT.eqv hat98 (by simp only [List.append_assoc]); refine ⟨fun q => absurd rfl q, ?_⟩; refine d_nil ?_; obtain ⟨c299, e300, e301, e302, h102⟩ := ARO.back3 (off := 513) (z := m + 3) (k := t25.1) (AT.eqv (ds := (([.int .i64 ob94.bits] : List Value) ++ (cs99 ++ (([] : List Value)))) ++ (cs298 ++ (([.int .i64 ob94.many] : List Value)))) hat98 (by simp only [List.append_assoc])) (by have l0_ : cs99.length = 512 := (h100.1 : cs99.length = 512); simp only [List.length_append, List.length_cons, List.length_nil] <;> omega) h102 g104.1 (by have g_ := g104.2; omega) (by rw [← qqa112]; exact h110) h293 ⟨(ne_mp bj5.2.1), (pl hm0)⟩ bj5.1; replace h100 := AR.rc (c' := c299) (i' := 0) h100 (fun k_ hk_ => (e300 k_ (by rw [hk_]; exact ne_zm)).trans hk_); replace hat98 := AT.rc (c' := c299) (j' := j4) hat98 (fun k_ hk_ => (e300 k_ (by rw [hk_]; exact (ne_pm bj4.2))).trans hk_); replace E : Ev (fun x => (x = j4 ∨ x = j5) ∨ m ≤ x) c0 w0 c299 w295 := Ev.lent EL113 B0 (by show (j5 = j4 ∨ j5 = j5); omega) (by omega) e106 e107 E e300 e302 (by omega); replace B : CB (m + 5) c299 w295 := B.recol (fun b_ => (e301 b_).imp id (fun q_ => by rw [q_]; exact (Nat.lt_add_right _ bj5.2.1))); exact J364 c299 w295 a ad97 ob94 cs99 t138 cs298 rfl (F.sub ⟨rfl, rfl, trivial⟩) E B hat98 h100 h102 H
  refine o_val F rfl rfl rfl (by decide) (r_fieldAddr F rfl ff_75_2) fun a F => ?_; refine ⟨fun _ => ER.sb, ?_⟩; refine d_e ?_; refine o_eff F rfl rfl rfl (by decide) (e_buildSliceF (n := 1) (e := 36) (c := c252) (k := K_api_Row) (i := 0) F [(0, .agg #[.slice A256 t117.Key.length C257, .slice A259 t117.Value.length C260, .int .i64 t117.Rev])] [.slice A256 t117.Key.length C257, .slice A259 t117.Value.length C260, .int .i64 t117.Rev] ([t117] : List api_Row) (by exact ⟨rfl, rfl, trivial⟩) (fun w => by kernel_rfl) rfl (by decide) rfl ⟨⟨A256, C257, A259, C260, rfl, (SL.fl h258 (fun q => q)), (SL.fl h261 (fun q => q))⟩, trivial⟩ (fun q => q) (m + 4)) ?_; rintro v w305 a ⟨c304, A306, C307, rfl, E308, h309, B310, hf303⟩ F; replace B := B310 _ B lm; replace ER := ER.trans E308 nx; replace h100 := h100.ev E308; replace h102 := h102.ev E308; replace hat98 := hat98.ev E308; replace h110 := h110.ev E308
  as_aux_lemma =>
  replace h111 := h111.ev E308; replace E := E.n E308; refine ⟨fun _ => ER.sb, ?_⟩; refine d_e ?_; obtain ⟨t138, q139, H⟩ := bind_some H; refine oc F Try.func56 (slices_Insert.calls (m := m + 5) (pl hm0) B h111 h309.r hf303 (by omega) (by omega) _ q139) ?_; rintro e w312 ⟨c311, A315, C316, rfl, E313, B, h317⟩; refine rt fun a F => ?_; replace ER := ER.trans E313 (fun x q => by replace q : x = m + 3 := q; show x = m + 3; omega); replace h100 := h100.ev E313; replace h102 := h102.ev E313 (ne_pm bj5.2.1) ne_zm; replace hat98 := hat98.ev E313 (ne_pm bj4.2); replace h110 := h110.ev E313 (ne_pm bj4.2); replace E := E.trans E313 lc1; refine ⟨fun _ => ER.sb, ?_⟩; refine dq F (fun wq hS => r_indexArr3 F ua_73 sz_27 rfl rfl g104.1 (by have g_ := g104.2; omega) hat98 qqa112) ER.sb fun a F => ?_; refine d_e ?_; refine o_eff0 F rfl rfl rfl (e_storearH F rfl rfl sz_27 (AT.eqv (ds := (([.int .i64 ob94.bits] : List Value) ++ (cs99 ++ (([] : List Value)))) ++ (cs101 ++ (([.int .i64 ob94.many] : List Value)))) hat98 (by simp only [List.append_assoc])) (by have l0_ : cs99.length = 512 := (h100.1 : cs99.length = 512); simp only [List.length_append, List.length_cons, List.length_nil] <;> omega) h102 (m := t25.1.toNat) (by have g_ := g104; omega) qqa112 rfl bj5.2.2 bj4.1) ?_; rintro w319 a ⟨cs322, E320, hat98, h102, h110, Z321⟩ F; replace B := B.size Z321; replace h100 := h100.ev E320 (ne_z bj4.1); replace h317 := h317.ev E320 (ne_mp bj4.2) (ne_z bj4.1)
  as_aux_lemma =>
  replace E := E.trans E320 (fun x (q : x = j4) => Or.inl (Or.inl q)); replace hat98 : AT true j4 c311 w319 ad97 (([.int .i64 ob94.bits] : List Value) ++ (cs99 ++ (([] : List Value) ++ (cs322 ++ (([.int .i64 ob94.many] : List Value)))))) := AT.eqv hat98 (by simp only [List.append_assoc]); refine ⟨fun q => absurd rfl q, ?_⟩; refine d_nil ?_; obtain ⟨c323, e324, e325, e326, h102⟩ := ARO.back3 (off := 513) (z := m + 3) (k := t25.1) (AT.eqv (ds := (([.int .i64 ob94.bits] : List Value) ++ (cs99 ++ (([] : List Value)))) ++ (cs322 ++ (([.int .i64 ob94.many] : List Value)))) hat98 (by simp only [List.append_assoc])) (by have l0_ : cs99.length = 512 := (h100.1 : cs99.length = 512); simp only [List.length_append, List.length_cons, List.length_nil] <;> omega) h102 g104.1 (by have g_ := g104.2; omega) (by rw [← qqa112]; exact h110) h317 ⟨(ne_mp bj5.2.1), (pl hm0)⟩ bj5.1; replace h100 := AR.rc (c' := c323) (i' := 0) h100 (fun k_ hk_ => (e324 k_ (by rw [hk_]; exact ne_zm)).trans hk_); replace hat98 := AT.rc (c' := c323) (j' := j4) hat98 (fun k_ hk_ => (e324 k_ (by rw [hk_]; exact (ne_pm bj4.2))).trans hk_); replace E : Ev (fun x => (x = j4 ∨ x = j5) ∨ m ≤ x) c0 w0 c323 w319 := Ev.lent EL113 B0 (by show (j5 = j4 ∨ j5 = j5); omega) (by omega) e106 e107 E e324 e326 (by omega); replace B : CB (m + 5) c323 w319 := B.recol (fun b_ => (e325 b_).imp id (fun q_ => by rw [q_]; exact (Nat.lt_add_right _ bj5.2.1))); exact J364 c323 w319 a ad97 ob94 cs99 t138 cs322 rfl (F.sub ⟨rfl, rfl, trivial⟩) E B hat98 h100 h102 H
 refine o_val F rfl rfl rfl (by decide) (r_fieldAddr F rfl ff_75_2) fun a F => ?_; refine ⟨fun _ => ER.sb, ?_⟩; refine d_e ?_; obtain ⟨t117, q118, H⟩ := bind_some H; refine oc F Try.func41 (merkle_own.calls (m := m + 5) (pl hm0) B h9 h12 _ q118) ?_; rintro e w328 ⟨c327, A331, C332, A334, C335, rfl, E329, B, h333, h336⟩; refine rt fun a F => ?_; replace ER := ER.trans E329 nx; replace h100 := h100.ev E329; replace h102 := h102.ev E329; replace hat98 := hat98.ev E329; replace h110 := h110.ev E329
 as_aux_lemma =>
 replace h111 := h111.ev E329; replace E := E.n E329; refine ⟨fun _ => ER.sb, ?_⟩; refine d_e ?_; refine o_eff F rfl rfl rfl (by decide) (e_buildSliceF (n := 1) (e := 36) (c := c327) (k := K_api_Row) (i := 0) F [(0, .agg #[.slice A331 t117.Key.length C332, .slice A334 t117.Value.length C335, .int .i64 t117.Rev])] [.slice A331 t117.Key.length C332, .slice A334 t117.Value.length C335, .int .i64 t117.Rev] ([t117] : List api_Row) (by exact ⟨rfl, rfl, trivial⟩) (fun w => by kernel_rfl) rfl (by decide) rfl ⟨⟨A331, C332, A334, C335, rfl, (SL.fl h333 (fun q => q)), (SL.fl h336 (fun q => q))⟩, trivial⟩ (fun q => q) (m + 4)) ?_; rintro v w340 a ⟨c339, A341, C342, rfl, E343, h344, B345, hf338⟩ F; replace B := B345 _ B lm; replace ER := ER.trans E343 nx; replace h100 := h100.ev E343; replace h102 := h102.ev E343; replace hat98 := hat98.ev E343; replace h110 := h110.ev E343; replace h111 := h111.ev E343; replace E := E.n E343; refine ⟨fun _ => ER.sb, ?_⟩; refine d_e ?_; obtain ⟨t138, q139, H⟩ := bind_some H; refine oc F Try.func56 (slices_Insert.calls (m := m + 5) (pl hm0) B h111 h344.r hf338 (by omega) (by omega) _ q139) ?_; rintro e w347 ⟨c346, A350, C351, rfl, E348, B, h352⟩; refine rt fun a F => ?_; replace ER := ER.trans E348 (fun x q => by replace q : x = m + 3 := q; show x = m + 3; omega); replace h100 := h100.ev E348
 as_aux_lemma =>
 replace h102 := h102.ev E348 (ne_pm bj5.2.1) ne_zm; replace hat98 := hat98.ev E348 (ne_pm bj4.2); replace h110 := h110.ev E348 (ne_pm bj4.2); replace E := E.trans E348 lc1; refine ⟨fun _ => ER.sb, ?_⟩; refine dq F (fun wq hS => r_indexArr3 F ua_73 sz_27 rfl rfl g104.1 (by have g_ := g104.2; omega) hat98 qqa112) ER.sb fun a F => ?_; refine d_e ?_; refine o_eff0 F rfl rfl rfl (e_storearH F rfl rfl sz_27 (AT.eqv (ds := (([.int .i64 ob94.bits] : List Value) ++ (cs99 ++ (([] : List Value)))) ++ (cs101 ++ (([.int .i64 ob94.many] : List Value)))) hat98 (by simp only [List.append_assoc])) (by have l0_ : cs99.length = 512 := (h100.1 : cs99.length = 512); simp only [List.length_append, List.length_cons, List.length_nil] <;> omega) h102 (m := t25.1.toNat) (by have g_ := g104; omega) qqa112 rfl bj5.2.2 bj4.1) ?_; rintro w354 a ⟨cs357, E355, hat98, h102, h110, Z356⟩ F; replace B := B.size Z356; replace h100 := h100.ev E355 (ne_z bj4.1); replace h352 := h352.ev E355 (ne_mp bj4.2) (ne_z bj4.1); replace E := E.trans E355 (fun x (q : x = j4) => Or.inl (Or.inl q)); replace hat98 : AT true j4 c346 w354 ad97 (([.int .i64 ob94.bits] : List Value) ++ (cs99 ++ (([] : List Value) ++ (cs357 ++ (([.int .i64 ob94.many] : List Value)))))) := AT.eqv hat98 (by simp only [List.append_assoc]); refine ⟨fun q => absurd rfl q, ?_⟩; refine d_nil ?_; obtain ⟨c358, e359, e360, e361, h102⟩ := ARO.back3 (off := 513) (z := m + 3) (k := t25.1) (AT.eqv (ds := (([.int .i64 ob94.bits] : List Value) ++ (cs99 ++ (([] : List Value)))) ++ (cs357 ++ (([.int .i64 ob94.many] : List Value)))) hat98 (by simp only [List.append_assoc])) (by have l0_ : cs99.length = 512 := (h100.1 : cs99.length = 512); simp only [List.length_append, List.length_cons, List.length_nil] <;> omega) h102 g104.1 (by have g_ := g104.2; omega) (by rw [← qqa112]; exact h110) h352 ⟨(ne_mp bj5.2.1), (pl hm0)⟩ bj5.1; replace h100 := AR.rc (c' := c358) (i' := 0) h100 (fun k_ hk_ => (e359 k_ (by rw [hk_]; exact ne_zm)).trans hk_); replace hat98 := AT.rc (c' := c358) (j' := j4) hat98 (fun k_ hk_ => (e359 k_ (by rw [hk_]; exact (ne_pm bj4.2))).trans hk_); replace E : Ev (fun x => (x = j4 ∨ x = j5) ∨ m ≤ x) c0 w0 c358 w354 := Ev.lent EL113 B0 (by show (j5 = j4 ∨ j5 = j5); omega) (by omega) e106 e107 E e359 e361 (by omega); replace B : CB (m + 5) c358 w354 := B.recol (fun b_ => (e360 b_).imp id (fun q_ => by rw [q_]; exact (Nat.lt_add_right _ bj5.2.1))); exact J364 c358 w354 a ad97 ob94 cs99 t138 cs357 rfl (F.sub ⟨rfl, rfl, trivial⟩) E B hat98 h100 h102 H
theorem haulagelaw10_grown.calls (k : Nat) {m : Nat} {c0 : Nat → Nat} {w0 : World} {j5 : Nat} {A2 : Option Addr} {C3 : Nat} {a1 : List haulagelaw10_Change} {a6 : Int} (hm0 : 0 < m) (B0 : CB m c0 w0) (h4 : SL false K_haulagelaw10_Change j5 0 c0 w0 A2 C3 a1) (bj5 : j5 < m) (jr407 : Nat) (bjr407 : 0 < jr407 ∧ jr407 < m) (jr408 : Nat) (bjr408 : 0 < jr408 ∧ jr408 < m) (jr409 : Nat) (bjr409 : jr409 < m) (r : (Option Mer) × (List api_Row)) (H : haulagelaw10_grown.f k a1 a6 = some r) : Calls Try.prog 9 #[.slice A2 a1.length C3, .int .i64 a6] w0 (fun e w_ => ∃ (c_ : Nat → Nat) (P0_ : Option Addr) (A1_ : Option Addr) (C1_ : Nat), e = .returned (.tuple #[.pointer P0_, .slice A1_ r.2.length C1_]) ∧ Ev (fun x => False) c0 w0 c_ w_ ∧ CB m c_ w_ ∧ ME jr407 jr408 c_ w_ P0_ r.1 ∧ SL true K_api_Row jr409 0 c_ w_ A1_ C1_ r.2) := by
 unfold haulagelaw10_grown.f at H; have B := B0.mono (show m ≤ m + 8 by omega); have E : Ev (fun x => False ∨ m ≤ x) c0 w0 c0 w0 := Ev.refl; refine enter (N := 84) (l := [.slice A2 a1.length C3, .int .i64 a6]) Try.func9 rfl rfl (nb rfl) fun a F => ?_; refine sr fun K7 hK7 => qa F fun a F => qa F fun a F => nil (hK7 _ _ ?_); refine sr fun K8 hK8 => qm F fun a F => ?_; obtain ⟨t9, q10, H⟩ := bind_some H; refine qc F Try.func17 (merkle_New.calls k (m := m + 8) (pl hm0) B SL.nil (m + 1) ⟨(pl hm0), lm⟩ (m + 2) ⟨(pl hm0), lm⟩ _ q10) ?_; rintro e w12 ⟨c11, p15, rfl, E13, B, h16⟩; refine rt fun a F => ?_; replace h4 := h4.ev E13; replace E := E.n E13; refine qm F fun a F => ?_; refine qx F fun a F => ?_; refine qx F fun a F => ?_; refine qa F fun a F => qa F fun a F => nil (hK8 _ _ ?_); replace F : Fr a 84 [(0, .slice A2 a1.length C3), (6, .pointer p15), (7, .int .i64 t9.2)] := F.sub ⟨rfl, rfl, rfl, trivial⟩; refine sq fun K18 hK18 => ?_; refine sq fun K19 hK19 => ?_; have J22 : ∀ (c23 : Nat → Nat) (w24 : World) (a : Act) (b21 : Bool), Fr a 84 [(0, .slice A2 a1.length C3), (6, .pointer p15), (23, .bool b21)] → Ev (fun x => False ∨ m ≤ x) c0 w0 c23 w24 → CB (m + 8) c23 w24 → SL false K_haulagelaw10_Change j5 0 c23 w24 A2 C3 a1 → ME (m + 1) (m + 2) c23 w24 p15 t9.1 → haulagelaw10_grown.j1 k a1 t9 b21 = some r → K19 a w24 := by
  intro c23 w24 a b21 F E B h4 h16 H; unfold haulagelaw10_grown.j1 at H
  as_aux_lemma =>
  refine hK19 _ _ ?_
  by_cases hb25 : b21 = true
  ·replace H := ip hb25 H; refine wct (fb F hb25) ?_; refine sr fun K26 hK26 => qa F fun a F => qa F fun a F => nil (hK26 _ _ ?_); refine wp_ret ?_; refine thenR ?_; obtain rfl := si H; refine out2 F rfl rfl rfl ?_; exact ⟨cf (fun x_ => if x_ = m + 1 then jr407 else if x_ = m + 2 then jr408 else if x_ = m + 6 then jr409 else if x_ < m then x_ else 0) c23, none, none, 0, rfl, E.lv B0, cfb, ME.nil, SL.nil⟩
  replace H := im hb25 H; refine wcf (fb F (bfalse hb25)) (wp_skip (hK18 _ _ ?_)); refine sr fun K27 hK27 => qa F fun a F => nil (hK27 _ _ ?_); refine sq fun K28 hK28 => ?_; refine sr fun K29 hK29 => qa F fun a F => nil (hK29 _ _ ?_); refine wp_block ?_; obtain ⟨x163, HL, HR162⟩ := bind_some H; have J403 : ∀ (c404 : Nat → Nat) (w405 : World) (a : Act) (o398 : Option Mer) (l400 : List api_Row) (A401 : Option Addr) (C402 : Nat), Fr a 84 [(6, .pointer p15), (8, .slice A401 l400.length C402)] → Ev (fun x => False ∨ m ≤ x) c0 w0 c404 w405 → CB (m + 8) c404 w405 → ME (m + 1) (m + 2) c404 w405 p15 o398 → SL true K_api_Row (m + 6) 0 c404 w405 A401 C402 l400 → haulagelaw10_grown.j7 o398 l400 = some r → K28 a w405 := by
   intro c404 w405 a o398 l400 A401 C402 F E B h397 h399 H; unfold haulagelaw10_grown.j7 at H; refine hK28 _ _ ?_; refine sr fun K406 hK406 => qm F fun a F => qm F fun a F => qa F fun a F => qa F fun a F => nil (hK406 _ _ ?_); refine wp_ret ?_; obtain rfl := si H
   as_aux_lemma =>
   refine out2 F rfl rfl rfl ?_; exact ⟨cf (fun x_ => if x_ = m + 1 then jr407 else if x_ = m + 2 then jr408 else if x_ = m + 6 then jr409 else if x_ < m then x_ else 0) c404, p15, A401, C402, rfl, E.lv B0, cfb, ME.rc h397 cfk cfk cfk (by omega), SL.rc h399 cfk cfk⟩
  refine loop_fuel (I := fun n a w => ∃ (o148 : Option Mer) (l149 : List api_Row) (A150 : Option Addr) (C151 : Nat) (i153 : Int) (c : Nat → Nat), Fr a 84 [(0, .slice A2 a1.length C3), (6, .pointer p15), (8, .slice A150 l149.length C151), (9, .int .i64 i153)] ∧ Ev (fun x => False ∨ m ≤ x) c0 w0 c w ∧ CB (m + 8) c w ∧ SL false K_haulagelaw10_Change j5 0 c w A2 C3 a1 ∧ ME (m + 1) (m + 2) c w p15 o148 ∧ SL true K_api_Row (m + 6) 0 c w A150 C151 l149 ∧ loop (fun (s_ : (Option Mer) × (List api_Row) × Int) => haulagelaw10_grown.b6 k a1 s_.1 s_.2.1 s_.2.2) n (o148, l149, i153) = some x163) (k := k) ⟨t9.1, [], none, 0, 0, c23, F.sub ⟨rfl, rfl, rfl, rfl, trivial⟩, E, B, h4, h16, SL.nil, HL⟩ ?_; clear HL H E F B; intro n160 X156 hX156 a w155 ⟨o148, l149, A150, C151, i153, c154, F, E, B, h4, h147, h152, HL⟩; obtain ⟨n161, ctl159, rfl, HB, HN157, HD158⟩ := loop_some HL; have H : haulagelaw10_grown.b6 k a1 o148 l149 i153 = some ctl159 := HB; clear HB HL; unfold haulagelaw10_grown.b6 at H; refine sq fun K164 hK164 => ?_; refine sr fun K165 hK165 => qm F fun a F => qm F fun a F => ?_; refine qv F (r_lensl F Try.underlying22 rfl) fun a F => ?_; refine qv F (r_lss F rfl rfl) fun a F => ?_; refine nil (hK165 _ _ ?_)
  by_cases hb166 : i153 < (a1.length : Int)
  ·replace H := ip hb166 H; refine wct (fb F (dt hb166)) (wp_skip (hK164 _ _ ?_)); refine sq fun K167 hK167 => ?_; refine wp_block ?_; refine sr fun K168 hK168 => qm F fun a F => qm F fun a F => ?_; replace H := ifN H; obtain ⟨g169, H⟩ := H; obtain ⟨ad170, cs171, e172, h173, r174⟩ := SL.at h4 i153 g169.1 g169.2; obtain ⟨A175, C176, A178, C179, rfl, h177, h180⟩ := r174
   as_aux_lemma =>
   replace h177 := SL.fl (i' := 0) h177 (fun q => q); replace h180 := SL.fl (i' := 0) h180 (fun q => q); obtain ⟨qa181, qqa181⟩ : ∃ q, q = (ad170.add (i153.toNat * 4)) := ⟨_, rfl⟩; have h173 : AT false j5 c154 w155 qa181 [.slice A175 (((rd a1 i153).Row).Key).length C176, .slice A178 (((rd a1 i153).Row).Value).length C179, .int .i64 (((rd a1 i153).Row).Rev), .bool ((rd a1 i153).Goes)] := by rw [qqa181]; exact h173
   refine qv F (r_indexAddr' F Try.underlying22 sz_69 rfl rfl g169.1 g169.2 e172 qqa181) fun a F => ?_; refine qv F (r_loads (cs := [.slice A175 (((rd a1 i153).Row).Key).length C176, .slice A178 (((rd a1 i153).Row).Value).length C179, .int .i64 (((rd a1 i153).Row).Rev), .bool ((rd a1 i153).Goes)]) F rfl ag_69 sz_69 h173) fun a F => ?_; refine q_eff F rfl rfl (by decide) (e_alloc F zv_69 c154 (m + 3)) ?_; rintro v w184 a ⟨c183, qa62, rfl, E185, h64, B186⟩ F; replace B := B186 _ B lm; replace h4 := h4.ev E185; replace h147 := h147.ev E185; replace h152 := h152.ev E185; replace h177 := h177.ev E185; replace h180 := h180.ev E185; replace E := E.n E185; replace h64 : AT _ _ _ _ _ [.slice none 0 0, .slice none 0 0, .int .i64 0, .bool false] := h64; refine q_eff0 F rfl rfl (e_storeN0 (us := [.slice A175 (((rd a1 i153).Row).Key).length C176, .slice A178 (((rd a1 i153).Row).Value).length C179, .int .i64 (((rd a1 i153).Row).Rev), .bool ((rd a1 i153).Goes)]) F rfl rfl sz_69 h64 (nb rfl) (one_all rfl)) ?_; rintro w187 a ⟨E188, h64, Z189⟩ F; replace B := B.size Z189; replace h4 := h4.ev E188 (ne_pm bj5) ne_zm; replace h147 := h147.ev E188; replace h152 := h152.ev E188
   as_aux_lemma =>
   replace h177 := h177.ev E188; replace h180 := h180.ev E188; replace E := E.trans E188 lc1; replace h64 : AT _ _ _ _ _ [.slice A175 (((rd a1 i153).Row).Key).length C176, .slice A178 (((rd a1 i153).Row).Value).length C179, .int .i64 (((rd a1 i153).Row).Rev), .bool ((rd a1 i153).Goes)] := h64; refine nil (hK168 _ _ ?_); replace F : Fr a 84 [(0, .slice A2 a1.length C3), (6, .pointer p15), (8, .slice A150 l149.length C151), (9, .int .i64 i153), (10, .pointer (some qa62))] := F.sub ⟨rfl, rfl, rfl, rfl, rfl, trivial⟩; refine sq fun K190 hK190 => ?_; refine sr fun K191 hK191 => qf F ff_69_1 fun a F => ?_; refine ql F ag_4 h64 fun a F => ?_; refine qv F (r_not F rfl) fun a F => ?_; refine nil (hK191 _ _ ?_)
   by_cases hb192 : ((rd a1 i153).Goes) = true
   ·replace H := ip hb192 H; refine wcf (fb F (congrArg not hb192)) (wp_skip (hK190 _ _ ?_)); refine sr fun K224 hK224 => qa F fun a F => nil (hK224 _ _ ?_); refine sq fun K225 hK225 => ?_; refine sr fun K226 hK226 => qa F fun a F => nil (hK226 _ _ ?_); refine wp_block ?_; obtain ⟨x310, HL, HR309⟩ := bind_some H; have J375 : ∀ (c376 : Nat → Nat) (w377 : World) (a : Act) (l372 : List api_Row) (A373 : Option Addr) (C374 : Nat), Fr a 84 [(0, .slice A2 a1.length C3), (6, .pointer p15), (8, .slice A150 l149.length C151), (9, .int .i64 i153), (10, .pointer (some qa62)), (11, .slice A373 l372.length C374)] → Ev (fun x => False ∨ m ≤ x) c0 w0 c376 w377 → CB (m + 8) c376 w377 → AT true (m + 3) c376 w377 qa62 [.slice A175 (((rd a1 i153).Row).Key).length C176, .slice A178 (((rd a1 i153).Row).Value).length C179, .int .i64 (((rd a1 i153).Row).Rev), .bool ((rd a1 i153).Goes)] → SL false K_haulagelaw10_Change j5 0 c376 w377 A2 C3 a1 → ME (m + 1) (m + 2) c376 w377 p15 o148 → SL false (Kint .u8) 0 0 c376 w377 A175 C176 (((rd a1 i153).Row).Key) → SL true K_api_Row (m + 7) 0 c376 w377 A373 C374 l372 → haulagelaw10_grown.j5 k a1 o148 l149 i153 l372 = some ctl159 → K225 a w377 := by
     intro c376 w377 a l372 A373 C374 F E B h64 h4 h147 h177 h371 H; unfold haulagelaw10_grown.j5 at H; refine hK225 _ _ ?_
     as_aux_lemma =>
     refine sq fun K378 hK378 => ?_; refine sr fun K379 hK379 => qm F fun a F => qf F ff_69_0 fun a F => ?_; refine qv F (r_fieldAddr2 F h64 rfl ff_36_0) fun a F => ?_; refine ql F ag_23 h64 fun a F => ?_; obtain ⟨t136, q137, H⟩ := bind_some H; refine qc F Try.func31 (merkle_Tree_Delete.calls k (m := m + 8) (pl hm0) B h147 h177 ⟨(pl hm0), lm⟩ ⟨(pl hm0), lm, mm⟩ _ q137) ?_; rintro e w381 ⟨c380, rfl, E382, B, h384⟩; refine rt fun a F => ?_; replace h4 := h4.ev E382 (nor (ne_pm bj5) (ne_pm bj5)) (nor ne_zm ne_zm); replace h371 := h371.ev E382 (nor mm mm) (nor ne_zm ne_zm); replace E := E.trans E382 lc2; refine qm F fun a F => ?_; refine qv F (r_lensl F Try.underlying27 rfl) fun a F => ?_; refine qm F fun a F => ?_; refine qv F (r_lensl F Try.underlying27 rfl) fun a F => ?_; refine qv F (r_lss F rfl rfl) fun a F => ?_; refine qv F (r_bneq F Try.underlying4 rfl rfl) fun a F => ?_; refine nil (hK379 _ _ ?_); replace F : Fr a 84 [(0, .slice A2 a1.length C3), (6, .pointer p15), (9, .int .i64 i153), (11, .slice A373 l372.length C374), (80, .bool (!(t136.1 == (decide ((l372.length : Int) < (l149.length : Int))))))] := F.sub ⟨rfl, rfl, rfl, rfl, rfl, trivial⟩
     by_cases hb386 : (t136.1 == (decide ((l372.length : Int) < (l149.length : Int)))) = true
     ·replace H := ip hb386 H; refine wcf (fb F (congrArg not hb386)) (wp_skip (hK378 _ _ ?_)); refine reg ?_
      as_aux_lemma =>
      refine qm F fun a F => qa F fun a F => ?_; obtain ⟨c388, hc388⟩ : ∃ c', c' = fun k => if c380 k = m + 7 then m + 6 else c380 k := ⟨_, rfl⟩; replace h4 := SL.rc (c' := c388) (j' := j5) (i' := 0) h4 (fun k_ hk_ => by rw [hc388]; show (if c380 k_ = m + 7 then m + 6 else c380 k_) = j5; rw [hk_]; exact if_neg (ne_pm bj5)) (fun k_ hk_ => by rw [hc388]; show (if c380 k_ = m + 7 then m + 6 else c380 k_) = 0; rw [hk_]; exact if_neg ne_zm); replace h371 := SL.rc (c' := c388) (j' := m + 6) (i' := 0) h371 (fun k_ hk_ => by rw [hc388]; show (if c380 k_ = m + 7 then m + 6 else c380 k_) = (m + 6); rw [hk_]; exact if_pos rfl) (fun k_ hk_ => by rw [hc388]; show (if c380 k_ = m + 7 then m + 6 else c380 k_) = 0; rw [hk_]; exact if_neg ne_zm); replace h384 := ME.rc (c' := c388) (j' := m + 1) (i' := m + 2) h384 (fun k_ hk_ => by rw [hc388]; show (if c380 k_ = m + 7 then m + 6 else c380 k_) = (m + 1); rw [hk_]; exact if_neg mm) (fun k_ hk_ => by rw [hc388]; show (if c380 k_ = m + 7 then m + 6 else c380 k_) = (m + 2); rw [hk_]; exact if_neg mm) (fun k_ hk_ => by rw [hc388]; show (if c380 k_ = m + 7 then m + 6 else c380 k_) = 0; rw [hk_]; exact if_neg ne_zm) (pl hm0); replace E : Ev (fun x => False ∨ m ≤ x) c0 w0 c388 w381 := E.recol B0 (fun b_ hb_ => by rw [hc388]; exact if_neg (by omega)); replace B : CB (m + 8) c388 w381 := B.recol (fun b_ => by rw [hc388]; show (if c380 b_ = m + 7 then m + 6 else c380 b_) = c380 b_ ∨ (if c380 b_ = m + 7 then m + 6 else c380 b_) < m + 8; split <;> first | exact Or.inr lm | exact Or.inl rfl); refine nil (hK167 _ _ ?_); refine reg ?_; refine qm F fun a F => ?_; refine qv F (r_add F rfl rfl) fun a F => ?_; refine qa F fun a F => nil ?_; replace H := HN157 _ (si H).symm; exact hX156 _ _ _ (Nat.lt_succ_self _) ⟨t136.2, l372, A373, C374, (IntKind.i64.wrap (i153 + 1)), c388, F.sub ⟨rfl, rfl, rfl, rfl, trivial⟩, E, B, h4, h384, h371, H⟩
     replace H := im hb386 H; refine wct (fb F (congrArg not (bfalse hb386))) ?_; refine sr fun K387 hK387 => qa F fun a F => qa F fun a F => nil (hK387 _ _ ?_); refine wp_ret ?_; refine thenR ?_; refine inbR ?_; refine thenR ?_; refine thenR ?_
     as_aux_lemma =>
     refine inbR ?_; refine thenR ?_; have hx_ := HD158 _ (si H).symm; have H := HR162; rw [← hx_] at H; replace H : some (none, []) = some r := H; obtain rfl := si H; refine out2 F rfl rfl rfl ?_; exact ⟨cf (fun x_ => if x_ = m + 1 then jr407 else if x_ = m + 2 then jr408 else if x_ = m + 6 then jr409 else if x_ < m then x_ else 0) c380, none, none, 0, rfl, E.lv B0, cfb, ME.nil, SL.nil⟩
    refine loop_fuel (I := fun n a w => ∃ (l296 : List api_Row) (A297 : Option Addr) (C298 : Nat) (i300 : Int) (c : Nat → Nat), Fr a 84 [(0, .slice A2 a1.length C3), (6, .pointer p15), (8, .slice A150 l149.length C151), (9, .int .i64 i153), (10, .pointer (some qa62)), (11, .slice A297 l296.length C298), (12, .int .i64 i300)] ∧ Ev (fun x => False ∨ m ≤ x) c0 w0 c w ∧ CB (m + 8) c w ∧ AT true (m + 3) c w qa62 [.slice A175 (((rd a1 i153).Row).Key).length C176, .slice A178 (((rd a1 i153).Row).Value).length C179, .int .i64 (((rd a1 i153).Row).Rev), .bool ((rd a1 i153).Goes)] ∧ SL false K_haulagelaw10_Change j5 0 c w A2 C3 a1 ∧ ME (m + 1) (m + 2) c w p15 o148 ∧ SL true K_api_Row (m + 6) 0 c w A150 C151 l149 ∧ SL false (Kint .u8) 0 0 c w A175 C176 (((rd a1 i153).Row).Key) ∧ SL false (Kint .u8) 0 0 c w A178 C179 (((rd a1 i153).Row).Value) ∧ SL true K_api_Row (m + 7) 0 c w A297 C298 l296 ∧ loop (fun (s_ : (List api_Row) × Int) => haulagelaw10_grown.b4 k a1 l149 i153 s_.1 s_.2) n (l296, i300) = some x310) (k := k) ⟨[], none, 0, 0, c183, F.sub ⟨rfl, rfl, rfl, rfl, rfl, rfl, rfl, trivial⟩, E, B, h64, h4, h147, h152, h177, h180, SL.nil, HL⟩ ?_; clear HL H E F B; intro n307 X303 hX303 a w302 ⟨l296, A297, C298, i300, c301, F, E, B, h64, h4, h147, h152, h177, h180, h299, HL⟩; obtain ⟨n308, ctl306, rfl, HB, HN304, HD305⟩ := loop_some HL; have H : haulagelaw10_grown.b4 k a1 l149 i153 l296 i300 = some ctl306 := HB; clear HB HL; unfold haulagelaw10_grown.b4 at H; refine sq fun K311 hK311 => ?_; refine sr fun K312 hK312 => qm F fun a F => qm F fun a F => ?_; refine qv F (r_lensl F Try.underlying27 rfl) fun a F => ?_; refine qv F (r_lss F rfl rfl) fun a F => ?_; refine nil (hK312 _ _ ?_)
    by_cases hb313 : i300 < (l149.length : Int)
    ·replace H := ip hb313 H
     as_aux_lemma =>
     refine wct (fb F (dt hb313)) (wp_skip (hK311 _ _ ?_)); refine sq fun K314 hK314 => ?_; refine wp_block ?_; refine sq fun K315 hK315 => ?_; refine regD (SB No c301 w302) 10 (.q 0 (.q 1 (.q 2 (.q 3 (.q 4 (.q 5 (.q 6 (.q 7 (.e 8 (.q 9 .nil)))))))))) Try_hm (by decide +kernel) ?_; intro w316 w1_ w2_ w3_ w4_; have E317 : Ev No c301 w302 c301 w316 := Ev.same w1_ w2_ w3_ w4_; replace B := B.same w1_; have zh64 := h64; have zh152 := h152; have ER : Ev No c301 w302 c301 w316 := Ev.same w1_ w2_ w3_ w4_; replace h64 := h64.ev E317; replace h4 := h4.ev E317; replace h147 := h147.ev E317; replace h152 := h152.ev E317; replace h177 := h177.ev E317; replace h180 := h180.ev E317; replace h299 := h299.ev E317; replace E := E.n E317; refine dm F ER.sb fun a F => ?_; refine dm F ER.sb fun a F => ?_; replace H := ifN H; obtain ⟨g318, H⟩ := H; obtain ⟨ad319, cs320, e321, h322, r323⟩ := SL.at zh152 i300 g318.1 g318.2; obtain ⟨A324, C325, A327, C328, rfl, h326, h329⟩ := r323
     as_aux_lemma =>
     replace h326 := SL.fl (i' := 0) h326 (fun q => q); obtain ⟨qa330, qqa330⟩ : ∃ q, q = (ad319.add (i300.toNat * 3)) := ⟨_, rfl⟩; have h322 : AT true (m + 6) c301 w302 qa330 [.slice A324 ((rd l149 i300).Key).length C325, .slice A327 ((rd l149 i300).Value).length C328, .int .i64 ((rd l149 i300).Rev)] := by rw [qqa330]; exact h322
     replace h326 := h326.ev ER nq nq; have zh322 := h322; refine dq F (fun wq hS => r_indexAddr' F Try.underlying27 sz_36 rfl rfl g318.1 g318.2 e321 qqa330) ER.sb fun a F => ?_; refine df F ff_36_0 ER.sb fun a F => ?_; refine dl F ag_23 zh322 nq ER.sb fun a F => ?_; refine df F ff_69_0 ER.sb fun a F => ?_; refine dq F (fun wq hS => r_fieldAddr2 F h64 rfl ff_36_0) ER.sb fun a F => ?_; refine dl F ag_23 zh64 nq ER.sb fun a F => ?_; refine d_e ?_; obtain ⟨t259, q260, H⟩ := bind_some H; refine oc F Try.func15 (haulagelaw10_same.calls k (m := m + 8) (pl hm0) B h326 h177 _ q260) ?_; rintro e w333 ⟨c332, rfl, E334, B⟩; refine rt fun a F => ?_; replace ER := ER.trans E334 nx; replace h64 := h64.ev E334; replace h4 := h4.ev E334; replace h147 := h147.ev E334; replace h152 := h152.ev E334; replace h177 := h177.ev E334
     as_aux_lemma =>
     replace h180 := h180.ev E334; replace h299 := h299.ev E334; replace E := E.n E334; refine ⟨fun _ => ER.sb, ?_⟩; refine dq F (fun wq hS => r_not F rfl) ER.sb fun a F => ?_; refine d_nil ?_; refine hK315 _ _ ?_; replace F : Fr a 84 [(0, .slice A2 a1.length C3), (6, .pointer p15), (8, .slice A150 l149.length C151), (9, .int .i64 i153), (10, .pointer (some qa62)), (11, .slice A297 l296.length C298), (12, .int .i64 i300), (62, .bool (!t259))] := F.sub ⟨rfl, rfl, rfl, rfl, rfl, rfl, rfl, rfl, trivial⟩
     by_cases hb337 : t259 = true
     ·replace H := ip hb337 H; refine wcf (fb F (congrArg not hb337)) (wp_skip (hK314 _ _ ?_)); refine reg ?_; refine qm F fun a F => ?_; refine qv F (r_add F rfl rfl) fun a F => ?_; refine qa F fun a F => nil ?_; replace H := HN304 _ (si H).symm; exact hX303 _ _ _ (Nat.lt_succ_self _) ⟨l296, A297, C298, (IntKind.i64.wrap (i300 + 1)), c332, F.sub ⟨rfl, rfl, rfl, rfl, rfl, rfl, rfl, trivial⟩, E, B, h64, h4, h147, h152, h177, h180, h299, H⟩
     replace H := im hb337 H; refine wct (fb F (congrArg not (bfalse hb337))) ?_; refine reg ?_; refine qm F fun a F => qm F fun a F => qm F fun a F => ?_; replace H := ifN H; obtain ⟨g338, H⟩ := H; obtain ⟨ad339, cs340, e341, h342, r343⟩ := SL.at h152 i300 g338.1 g338.2; obtain ⟨A344, C345, A347, C348, rfl, h346, h349⟩ := r343
     as_aux_lemma =>
     replace h346 := SL.fl (i' := 0) h346 (fun q => q); replace h349 := SL.fl (i' := 0) h349 (fun q => q); obtain ⟨qa350, qqa350⟩ : ∃ q, q = (ad339.add (i300.toNat * 3)) := ⟨_, rfl⟩; have h342 : AT true (m + 6) c332 w333 qa350 [.slice A344 ((rd l149 i300).Key).length C345, .slice A347 ((rd l149 i300).Value).length C348, .int .i64 ((rd l149 i300).Rev)] := by rw [qqa350]; exact h342
     refine qv F (r_indexAddr' F Try.underlying27 sz_36 rfl rfl g338.1 g338.2 e341 qqa350) fun a F => ?_; refine qv F (r_loads (cs := [.slice A344 ((rd l149 i300).Key).length C345, .slice A347 ((rd l149 i300).Value).length C348, .int .i64 ((rd l149 i300).Rev)]) F rfl ag_36 sz_36 h342) fun a F => ?_; refine q_eff F rfl rfl (by decide) (e_buildSlice (n := 1) (e := 36) (c := c332) (k := K_api_Row) (i := 0) F [(0, .agg #[.slice A344 ((rd l149 i300).Key).length C345, .slice A347 ((rd l149 i300).Value).length C348, .int .i64 ((rd l149 i300).Rev)])] [.slice A344 ((rd l149 i300).Key).length C345, .slice A347 ((rd l149 i300).Value).length C348, .int .i64 ((rd l149 i300).Rev)] ([(rd l149 i300)] : List api_Row) (by exact ⟨rfl, rfl, trivial⟩) (fun w => by kernel_rfl) rfl (by decide) rfl ⟨⟨A344, C345, A347, C348, rfl, (SL.fl h346 (fun q => q)), (SL.fl h349 (fun q => q))⟩, trivial⟩ (fun q => q) 0) ?_; rintro v w353 a ⟨c352, A354, C355, rfl, E356, h357, B358⟩ F; replace B := B358 _ B (pl hm0); replace h64 := h64.ev E356; replace h4 := h4.ev E356; replace h147 := h147.ev E356; replace h152 := h152.ev E356; replace h177 := h177.ev E356; replace h180 := h180.ev E356; replace h299 := h299.ev E356; replace E := E.n E356; replace H := ifN H; obtain ⟨g288, H⟩ := H; refine q_eff F rfl rfl (by decide) (e_append (k := K_api_Row) (xs := l296) (ys := [(rd l149 i300)]) (c := c352) (j := (m + 7)) (i := 0) F et_27 rfl rfl h299 h357 g288 (len_ok g288) ne_zm) ?_; rintro v w360 a ⟨c359, A361, C362, rfl, E363, h364, B365⟩ F; replace B := B365 _ B lm
     as_aux_lemma =>
     replace h64 := h64.ev E363; replace h4 := h4.ev E363 (ne_pm bj5) ne_zm; replace h147 := h147.ev E363; replace h152 := h152.ev E363; replace h177 := h177.ev E363; replace h180 := h180.ev E363; replace E := E.trans E363 lc1; refine qa F fun a F => nil (hK314 _ _ ?_); replace F : Fr a 84 [(0, .slice A2 a1.length C3), (6, .pointer p15), (8, .slice A150 l149.length C151), (9, .int .i64 i153), (10, .pointer (some qa62)), (11, .slice A361 (l296 ++ [(rd l149 i300)]).length C362), (12, .int .i64 i300)] := F.sub ⟨rfl, rfl, rfl, rfl, rfl, rfl, rfl, trivial⟩; refine reg ?_; refine qm F fun a F => ?_; refine qv F (r_add F rfl rfl) fun a F => ?_; refine qa F fun a F => nil ?_; replace H := HN304 _ (si H).symm; exact hX303 _ _ _ (Nat.lt_succ_self _) ⟨(l296 ++ [(rd l149 i300)]), A361, C362, (IntKind.i64.wrap (i300 + 1)), c359, F.sub ⟨rfl, rfl, rfl, rfl, rfl, rfl, rfl, trivial⟩, E, B, h64, h4, h147, h152, h177, h180, h364, H⟩
    replace H := im hb313 H; refine wcf (fb F (dz hb313)) ?_; refine wp_exit ?_; refine thenE ?_; refine thenE ?_; refine inbE ?_; have hx_ := HD305 _ (si H).symm; have H := HR309; rw [← hx_] at H; exact J375 c301 w302 a l296 A297 C298 (F.sub ⟨rfl, rfl, rfl, rfl, rfl, rfl, trivial⟩) E B h64 h4 h147 h177 h299 H
   as_aux_lemma =>
   replace H := im hb192 H; refine wct (fb F (congrArg not (bfalse hb192))) ?_; refine sr fun K193 hK193 => qm F fun a F => qf F ff_69_0 fun a F => ?_; refine qv F (r_loads (cs := [.slice A175 (((rd a1 i153).Row).Key).length C176, .slice A178 (((rd a1 i153).Row).Value).length C179, .int .i64 (((rd a1 i153).Row).Rev)]) F rfl ag_36 sz_36 (AT.sub h64 0 3 (nb rfl))) fun a F => ?_; obtain ⟨t74, q75, H⟩ := bind_some H; refine qc F Try.func30 (merkle_Tree_Put.calls k (m := m + 8) (pl hm0) B h147 h177 h180 ⟨(pl hm0), lm⟩ ⟨(pl hm0), lm, mm⟩ _ q75) ?_; rintro e w195 ⟨c194, rfl, E196, B, h198⟩; refine rt fun a F => ?_; replace h4 := h4.ev E196 (nor (ne_pm bj5) (ne_pm bj5)) (nor ne_zm ne_zm); replace h152 := h152.ev E196 (nor mm mm) (nor ne_zm ne_zm); replace h177 := h177.ev E196 (nor ne_zm ne_zm) (nor ne_zm ne_zm); replace h180 := h180.ev E196 (nor ne_zm ne_zm) (nor ne_zm ne_zm); replace h64 := h64.ev E196 (nor mm mm); replace E := E.trans E196 lc2; refine nil (hK193 _ _ ?_); refine sr fun K200 hK200 => qm F fun a F => qf F ff_69_0 fun a F => ?_; refine qv F (r_loads (cs := [.slice A175 (((rd a1 i153).Row).Key).length C176, .slice A178 (((rd a1 i153).Row).Value).length C179, .int .i64 (((rd a1 i153).Row).Rev)]) F rfl ag_36 sz_36 (AT.sub h64 0 3 (nb rfl))) fun a F => ?_; refine q_eff F rfl rfl (by decide) (e_buildSlice (n := 1) (e := 36) (c := c194) (k := K_api_Row) (i := 0) F [(0, .agg #[.slice A175 (((rd a1 i153).Row).Key).length C176, .slice A178 (((rd a1 i153).Row).Value).length C179, .int .i64 (((rd a1 i153).Row).Rev)])] [.slice A175 (((rd a1 i153).Row).Key).length C176, .slice A178 (((rd a1 i153).Row).Value).length C179, .int .i64 (((rd a1 i153).Row).Rev)] ([((rd a1 i153).Row)] : List api_Row) (by exact ⟨rfl, rfl, trivial⟩) (fun w => by kernel_rfl) rfl (by decide) rfl ⟨⟨A175, C176, A178, C179, rfl, (SL.fl h177 (fun q => q)), (SL.fl h180 (fun q => q))⟩, trivial⟩ (fun q => q) 0) ?_; rintro v w202 a ⟨c201, A203, C204, rfl, E205, h206, B207⟩ F; replace B := B207 _ B (pl hm0); replace h4 := h4.ev E205; replace h152 := h152.ev E205
   as_aux_lemma =>
   replace h198 := h198.ev E205; replace E := E.n E205; replace H := ifN H; obtain ⟨g90, H⟩ := H; refine q_eff F rfl rfl (by decide) (e_append (k := K_api_Row) (xs := l149) (ys := [((rd a1 i153).Row)]) (c := c201) (j := (m + 6)) (i := 0) F et_27 rfl rfl h152 h206 g90 (len_ok g90) ne_zm) ?_; rintro v w209 a ⟨c208, A210, C211, rfl, E212, h213, B214⟩ F; replace B := B214 _ B lm; replace h4 := h4.ev E212 (ne_pm bj5) ne_zm; replace h198 := h198.ev E212; replace E := E.trans E212 lc1; obtain ⟨t98, q99, H⟩ := bind_some H; refine qc F Try.func28 (haulagelaw10_sorted.calls k (m := m + 8) (pl hm0) B h213.r lm (m + 5) lm _ q99) ?_; rintro e w216 ⟨c215, A219, C220, rfl, E217, B, h221⟩; refine rt fun a F => ?_; replace h4 := h4.ev E217; replace h198 := h198.ev E217; replace E := E.n E217; refine qa F fun a F => ?_; obtain ⟨c223, hc223⟩ : ∃ c', c' = fun k => if c215 k = m + 5 then m + 6 else c215 k := ⟨_, rfl⟩; replace h4 := SL.rc (c' := c223) (j' := j5) (i' := 0) h4 (fun k_ hk_ => by rw [hc223]; show (if c215 k_ = m + 5 then m + 6 else c215 k_) = j5; rw [hk_]; exact if_neg (ne_pm bj5)) (fun k_ hk_ => by rw [hc223]; show (if c215 k_ = m + 5 then m + 6 else c215 k_) = 0; rw [hk_]; exact if_neg ne_zm); replace h198 := ME.rc (c' := c223) (j' := m + 1) (i' := m + 2) h198 (fun k_ hk_ => by rw [hc223]; show (if c215 k_ = m + 5 then m + 6 else c215 k_) = (m + 1); rw [hk_]; exact if_neg mm) (fun k_ hk_ => by rw [hc223]; show (if c215 k_ = m + 5 then m + 6 else c215 k_) = (m + 2); rw [hk_]; exact if_neg mm) (fun k_ hk_ => by rw [hc223]; show (if c215 k_ = m + 5 then m + 6 else c215 k_) = 0; rw [hk_]; exact if_neg ne_zm) (pl hm0); replace h221 := SL.rc (c' := c223) (j' := m + 6) (i' := 0) h221 (fun k_ hk_ => by rw [hc223]; show (if c215 k_ = m + 5 then m + 6 else c215 k_) = (m + 6); rw [hk_]; exact if_pos rfl) (fun k_ hk_ => by rw [hc223]; show (if c215 k_ = m + 5 then m + 6 else c215 k_) = 0; rw [hk_]; exact if_neg ne_zm)
   as_aux_lemma =>
   replace E : Ev (fun x => False ∨ m ≤ x) c0 w0 c223 w216 := E.recol B0 (fun b_ hb_ => by rw [hc223]; exact if_neg (by omega)); replace B : CB (m + 8) c223 w216 := B.recol (fun b_ => by rw [hc223]; show (if c215 b_ = m + 5 then m + 6 else c215 b_) = c215 b_ ∨ (if c215 b_ = m + 5 then m + 6 else c215 b_) < m + 8; split <;> first | exact Or.inr lm | exact Or.inl rfl); refine nil (hK200 _ _ ?_); replace F : Fr a 84 [(0, .slice A2 a1.length C3), (6, .pointer p15), (8, .slice A219 t98.length C220), (9, .int .i64 i153)] := F.sub ⟨rfl, rfl, rfl, rfl, trivial⟩; refine wp_exit ?_; refine thenE ?_; refine inbE ?_; refine hK167 _ _ ?_; refine reg ?_; refine qm F fun a F => ?_; refine qv F (r_add F rfl rfl) fun a F => ?_; refine qa F fun a F => nil ?_; replace H := HN157 _ (si H).symm; exact hX156 _ _ _ (Nat.lt_succ_self _) ⟨t74, t98, A219, C220, (IntKind.i64.wrap (i153 + 1)), c223, F.sub ⟨rfl, rfl, rfl, rfl, trivial⟩, E, B, h4, h198, h221, H⟩
  replace H := im hb166 H; refine wcf (fb F (dz hb166)) ?_; refine wp_exit ?_; refine thenE ?_; refine thenE ?_; refine inbE ?_; have hx_ := HD158 _ (si H).symm; have H := HR162; rw [← hx_] at H; exact J403 c154 w155 a o148 l149 A150 C151 (F.sub ⟨rfl, rfl, trivial⟩) E B h147 h152 H
 as_aux_lemma =>
 refine reg ?_; refine qm F fun a F => ?_; refine qv F (r_neq F rfl rfl) fun a F => ?_; refine qm F fun a F => ?_
 by_cases hb20 : t9.2 = 0
 ·replace H := ip hb20 H; refine qy F (congrArg not (dt hb20)) ?_; refine qm F fun a F => ?_; refine qy F (congrArg not (dt hb20)) ?_; refine qv F (r_peqlA F Try.underlying26 rfl rfl (ME.isNone h16)) fun a F => ?_; refine qv F (r_pick_f F rfl (congrArg not (dt hb20)) rfl) fun a F => ?_; refine nil ?_; exact J22 c11 w12 a (Option.isNone t9.1) (F.sub ⟨rfl, rfl, rfl, trivial⟩) E B h4 h16 H
 replace H := im hb20 H; refine qn F (congrArg not (dz hb20)) fun a F => qn F (congrArg not (dz hb20)) fun a F => ?_; refine qv F (r_pick_t F rfl (congrArg not (dz hb20)) rfl) fun a F => ?_; refine nil ?_; exact J22 c11 w12 a true (F.sub ⟨rfl, rfl, rfl, trivial⟩) E B h4 h16 H
theorem haulagelaw10_mask.calls {m : Nat} {c0 : Nat → Nat} {w0 : World} {a1 : Int} {a2 : Int} (hm0 : 0 < m) (B0 : CB m c0 w0) (r : Int) (H : haulagelaw10_mask.f a1 a2 = some r) : Calls Try.prog 51 #[.int .u64 a1, .int .i64 a2] w0 (fun e w_ => ∃ (c_ : Nat → Nat), e = .returned (.int .u64 r) ∧ Ev (fun x => False) c0 w0 c_ w_ ∧ CB m c_ w_) := by
 unfold haulagelaw10_mask.f at H; have B := B0.mono (show m ≤ m + 1 by omega); have E : Ev (fun x => False ∨ m ≤ x) c0 w0 c0 w0 := Ev.refl; refine enter (N := 14) (l := [.int .u64 a1, .int .i64 a2]) Try.func51 rfl rfl (nb rfl) fun a F => ?_; refine sr fun K3 hK3 => qa F fun a F => nil (hK3 _ _ ?_); refine sq fun K4 hK4 => ?_; refine sr fun K5 hK5 => qm F fun a F => ?_; refine qv F (r_geq F rfl rfl) fun a F => ?_; refine nil (hK5 _ _ ?_)
 by_cases hb6 : 64 ≤ a2
 ·replace H := ip hb6 H; refine wct (fb F (dt hb6)) ?_; refine sr fun K7 hK7 => qm F fun a F => qa F fun a F => nil (hK7 _ _ ?_); refine wp_ret ?_; refine thenR ?_; obtain rfl := si H; refine out1 F rfl rfl ?_; exact ⟨cf (ct m) c0, rfl, E.lv B0, cfb⟩
 replace H := im hb6 H; refine wcf (fb F (dz hb6)) (wp_skip (hK4 _ _ ?_)); refine sr fun K8 hK8 => qm F fun a F => qm F fun a F => ?_; refine qv F (r_convi F Try.underlying79 rfl rfl) fun a F => ?_; replace H := ifN H; obtain ⟨g9, H⟩ := H; refine qv F (r_shl F rfl rfl g9) fun a F => ?_; refine qv F (r_sub F rfl rfl) fun a F => ?_; refine qv F (r_and F rfl rfl) fun a F => ?_; refine qa F fun a F => nil (hK8 _ _ ?_); replace F : Fr a 14 [(4, .int .u64 (band .u64 a1 (IntKind.u64.wrap ((shl .u64 1 (IntKind.u64.wrap a2)) - 1))))] := F.sub ⟨rfl, trivial⟩; refine wp_ret ?_; obtain rfl := si H; refine out1 F rfl rfl ?_; exact ⟨cf (ct m) c0, rfl, E.lv B0, cfb⟩
theorem haulagelaw10_ofPair.calls (k : Nat) {m : Nat} {c0 : Nat → Nat} {w0 : World} {a1 : Int} {a2 : Int} {a3 : Int} (hm0 : 0 < m) (B0 : CB m c0 w0) (r : Int) (H : haulagelaw10_ofPair.f k a1 a2 a3 = some r) : Calls Try.prog 23 #[.int .u64 a1, .int .u64 a2, .int .i64 a3] w0 (fun e w_ => ∃ (c_ : Nat → Nat), e = .returned (.int .u64 r) ∧ Ev (fun x => False) c0 w0 c_ w_ ∧ CB m c_ w_) := by
 unfold haulagelaw10_ofPair.f at H; have B := B0.mono (show m ≤ m + 3 by omega); have E : Ev (fun x => False ∨ m ≤ x) c0 w0 c0 w0 := Ev.refl; refine enter (N := 29) (l := [.int .u64 a1, .int .u64 a2, .int .i64 a3]) Try.func23 rfl rfl (nb rfl) fun a F => ?_; refine sr fun K4 hK4 => qa F fun a F => nil (hK4 _ _ ?_); refine sr fun K5 hK5 => ?_; obtain ⟨t6, q7, H⟩ := bind_some H; refine qc F Try.func47 (parcel_New.calls (m := m + 3) (pl hm0) B (m + 1) lm (m + 2) lm _ q7) ?_; rintro e w9 ⟨c8, p12, rfl, E10, B, h13⟩; refine rt fun a F => ?_; replace E := E.n E10; refine qa F fun a F => nil (hK5 _ _ ?_); refine sr fun K15 hK15 => qm F fun a F => ?_; obtain ⟨t16, q17, H⟩ := bind_some H; refine qc F Try.func48 (parcel_Writer_Byte.calls (m := m + 3) (pl hm0) B h13 ⟨(pl hm0), lm⟩ ⟨(pl hm0), lm, mm⟩ _ q17) ?_; rintro e w19 ⟨c18, rfl, E20, B, h22⟩; refine rt fun a F => ?_; replace E := E.trans E20 lc2; refine nil (hK15 _ _ ?_); refine sr fun K24 hK24 => qm F fun a F => qm F fun a F => ?_; obtain ⟨t25, q26, H⟩ := bind_some H; refine qc F Try.func49 (parcel_Writer_Fixed.calls k (m := m + 3) (pl hm0) B h22 ⟨(pl hm0), lm⟩ ⟨(pl hm0), lm, mm⟩ _ q26) ?_; rintro e w28 ⟨c27, rfl, E29, B, h31⟩; refine rt fun a F => ?_; replace E := E.trans E29 lc2; refine nil (hK24 _ _ ?_); replace F : Fr a 29 [(1, .int .u64 a2), (2, .int .i64 a3), (7, .pointer p12)] := F.sub ⟨rfl, rfl, rfl, trivial⟩; refine sr fun K33 hK33 => qm F fun a F => qm F fun a F => ?_; obtain ⟨t34, q35, H⟩ := bind_some H; refine qc F Try.func49 (parcel_Writer_Fixed.calls k (m := m + 3) (pl hm0) B h31 ⟨(pl hm0), lm⟩ ⟨(pl hm0), lm, mm⟩ _ q35) ?_; rintro e w37 ⟨c36, rfl, E38, B, h40⟩; refine rt fun a F => ?_; replace E := E.trans E38 lc2; refine nil (hK33 _ _ ?_); refine sr fun K42 hK42 => qm F fun a F => ?_; obtain ⟨t43, q44, H⟩ := bind_some H; refine qc F Try.func50 (parcel_Writer_Done.calls (m := m + 3) (pl hm0) B h40 lm ⟨lm, mm⟩ 0 (pl hm0) _ q44) ?_; rintro e w46 ⟨c45, A49, C50, rfl, E47, B, h51⟩; refine rt fun a F => ?_; replace E := E.n E47; refine qm F fun a F => ?_; refine qx F fun a F => ?_; refine qx F fun a F => ?_; refine qa F fun a F => qa F fun a F => nil (hK42 _ _ ?_); replace F : Fr a 29 [(2, .int .i64 a3), (8, .slice A49 t43.1.length C50)] := F.sub ⟨rfl, rfl, trivial⟩; refine sr fun K53 hK53 => qm F fun a F => ?_; refine q_eff F rfl rfl (by decide) (e_buildSlice (n := 1) (e := 23) (c := c45) (k := (Kslice (Kint .u8))) (i := 0) F [(0, .slice A49 t43.1.length C50)] [.slice A49 t43.1.length C50] ([t43.1] : List (List Int)) (by exact ⟨rfl, rfl, trivial⟩) (fun w => by kernel_rfl) rfl (by decide) rfl ⟨⟨A49, C50, rfl, (SL.fl h51.r (fun q => q))⟩, trivial⟩ (fun q => q) 0) ?_; rintro v w55 a ⟨c54, A56, C57, rfl, E58, h59, B60⟩ F; replace B := B60 _ B (pl hm0); replace E := E.n E58; obtain ⟨t61, q62, H⟩ := bind_some H; refine qc F Try.func46 (seal_FNV.calls k (m := m + 3) (pl hm0) B h59.r (pl hm0) (pl hm0) _ q62) ?_; rintro e w64 ⟨c63, rfl, E65, B⟩; refine rt fun a F => ?_; replace E := E.n E65; refine qm F fun a F => ?_
 obtain ⟨t68, q69, H⟩ := bind_some H; refine qc F Try.func51 (haulagelaw10_mask.calls (m := m + 3) (pl hm0) B _ q69) ?_; rintro e w71 ⟨c70, rfl, E72, B⟩; refine rt fun a F => ?_; replace E := E.n E72; refine qa F fun a F => nil (hK53 _ _ ?_); refine wp_ret ?_; obtain rfl := si H; refine out1 F rfl rfl ?_; exact ⟨cf (ct m) c70, rfl, E.lv B0, cfb⟩
theorem haulagelaw10_ofRow.calls (k : Nat) {m : Nat} {c0 : Nat → Nat} {w0 : World} {A2 : Option Addr} {C3 : Nat} {A5 : Option Addr} {C6 : Nat} {a1 : api_Row} {a8 : Int} (hm0 : 0 < m) (B0 : CB m c0 w0) (h4 : SL false (Kint .u8) 0 0 c0 w0 A2 C3 a1.Key) (h7 : SL false (Kint .u8) 0 0 c0 w0 A5 C6 a1.Value) (r : Int) (H : haulagelaw10_ofRow.f k a1 a8 = some r) : Calls Try.prog 43 #[.agg #[.slice A2 a1.Key.length C3, .slice A5 a1.Value.length C6, .int .i64 a1.Rev], .int .i64 a8] w0 (fun e w_ => ∃ (c_ : Nat → Nat), e = .returned (.int .u64 r) ∧ Ev (fun x => False) c0 w0 c_ w_ ∧ CB m c_ w_) := by
 unfold haulagelaw10_ofRow.f at H; have B := B0.mono (show m ≤ m + 4 by omega); have E : Ev (fun x => False ∨ m ≤ x) c0 w0 c0 w0 := Ev.refl; refine enter (N := 41) (l := [.agg #[.slice A2 a1.Key.length C3, .slice A5 a1.Value.length C6, .int .i64 a1.Rev], .int .i64 a8]) Try.func43 rfl rfl (nb rfl) fun a F => ?_; refine sr fun K9 hK9 => ?_; refine q_eff F rfl rfl (by decide) (e_box F (v := .agg #[.slice A2 a1.Key.length C3, .slice A5 a1.Value.length C6, .int .i64 a1.Rev]) rfl c0 (m + 1)) ?_; rintro v w11 a ⟨c10, qa12, rfl, E13, h14, B15⟩ F; replace B := B15 _ B lm; replace h4 := h4.ev E13; replace h7 := h7.ev E13; replace E := E.n E13; replace h14 : AT _ _ _ _ _ [.slice A2 a1.Key.length C3, .slice A5 a1.Value.length C6, .int .i64 a1.Rev] := h14; refine qa F fun a F => nil (hK9 _ _ ?_); refine sr fun K17 hK17 => qf F ff_36_0 fun a F => ?_; refine ql F ag_23 h14 fun a F => ?_; refine qv F (r_lensl F Try.underlying23 rfl) fun a F => ?_; refine qf F ff_36_1 fun a F => ?_; refine ql F ag_23 h14 fun a F => ?_; refine qv F (r_lensl F Try.underlying23 rfl) fun a F => ?_; refine qv F (r_add F rfl rfl) fun a F => ?_; refine qv F (r_add F rfl rfl) fun a F => ?_; obtain ⟨t18, q19, H⟩ := bind_some H; refine qc F Try.func47 (parcel_New.calls (m := m + 4) (pl hm0) B (m + 2) lm (m + 3) lm _ q19) ?_; rintro e w21 ⟨c20, p24, rfl, E22, B, h25⟩; refine rt fun a F => ?_; replace h4 := h4.ev E22; replace h7 := h7.ev E22; replace h14 := h14.ev E22; replace E := E.n E22; refine qa F fun a F => nil (hK17 _ _ ?_); replace F : Fr a 41 [(1, .int .i64 a8), (2, .pointer (some qa12)), (5, .pointer p24)] := F.sub ⟨rfl, rfl, rfl, trivial⟩; refine sr fun K27 hK27 => qm F fun a F => ?_; obtain ⟨t28, q29, H⟩ := bind_some H; refine qc F Try.func48 (parcel_Writer_Byte.calls (m := m + 4) (pl hm0) B h25 ⟨(pl hm0), lm⟩ ⟨(pl hm0), lm, mm⟩ _ q29) ?_; rintro e w31 ⟨c30, rfl, E32, B, h34⟩; refine rt fun a F => ?_; replace h4 := h4.ev E32 (nor ne_zm ne_zm) (nor ne_zm ne_zm); replace h7 := h7.ev E32 (nor ne_zm ne_zm) (nor ne_zm ne_zm); replace h14 := h14.ev E32 (nor mm mm); replace E := E.trans E32 lc2; refine nil (hK27 _ _ ?_); refine sr fun K36 hK36 => qm F fun a F => qf F ff_36_0 fun a F => ?_; refine ql F ag_23 h14 fun a F => ?_; obtain ⟨t37, q38, H⟩ := bind_some H; refine qc F Try.func63 (parcel_Writer_Text.calls k (m := m + 4) (pl hm0) B h34 h4 ⟨(pl hm0), lm⟩ ⟨(pl hm0), lm, mm⟩ _ q38) ?_; rintro e w40 ⟨c39, rfl, E41, B, h43⟩; refine rt fun a F => ?_; replace h7 := h7.ev E41 (nor ne_zm ne_zm) (nor ne_zm ne_zm); replace h14 := h14.ev E41 (nor mm mm); replace E := E.trans E41 lc2; refine nil (hK36 _ _ ?_); refine sr fun K45 hK45 => qm F fun a F => qf F ff_36_1 fun a F => ?_; refine ql F ag_23 h14 fun a F => ?_; obtain ⟨t46, q47, H⟩ := bind_some H; refine qc F Try.func63 (parcel_Writer_Text.calls k (m := m + 4) (pl hm0) B h43 h7 ⟨(pl hm0), lm⟩ ⟨(pl hm0), lm, mm⟩ _ q47) ?_; rintro e w49 ⟨c48, rfl, E50, B, h52⟩; refine rt fun a F => ?_; replace h14 := h14.ev E50 (nor mm mm); replace E := E.trans E50 lc2
 refine nil (hK45 _ _ ?_); replace F : Fr a 41 [(1, .int .i64 a8), (2, .pointer (some qa12)), (5, .pointer p24)] := F.sub ⟨rfl, rfl, rfl, trivial⟩; refine sr fun K54 hK54 => qm F fun a F => qf F ff_36_2 fun a F => ?_; refine ql F ag_3 h14 fun a F => ?_; obtain ⟨t55, q56, H⟩ := bind_some H; refine qc F Try.func64 (parcel_Writer_Int.calls k (m := m + 4) (pl hm0) B h52 ⟨(pl hm0), lm⟩ ⟨(pl hm0), lm, mm⟩ _ q56) ?_; rintro e w58 ⟨c57, rfl, E59, B, h61⟩; refine rt fun a F => ?_; replace E := E.trans E59 lc2; refine nil (hK54 _ _ ?_); refine sr fun K63 hK63 => qm F fun a F => ?_; obtain ⟨t64, q65, H⟩ := bind_some H; refine qc F Try.func50 (parcel_Writer_Done.calls (m := m + 4) (pl hm0) B h61 lm ⟨lm, mm⟩ 0 (pl hm0) _ q65) ?_; rintro e w67 ⟨c66, A70, C71, rfl, E68, B, h72⟩; refine rt fun a F => ?_; replace E := E.n E68; refine qm F fun a F => ?_; refine qx F fun a F => ?_; refine qx F fun a F => ?_; refine qa F fun a F => qa F fun a F => nil (hK63 _ _ ?_); replace F : Fr a 41 [(1, .int .i64 a8), (6, .slice A70 t64.1.length C71)] := F.sub ⟨rfl, rfl, trivial⟩; refine sr fun K74 hK74 => qm F fun a F => ?_; refine q_eff F rfl rfl (by decide) (e_buildSlice (n := 1) (e := 23) (c := c66) (k := (Kslice (Kint .u8))) (i := 0) F [(0, .slice A70 t64.1.length C71)] [.slice A70 t64.1.length C71] ([t64.1] : List (List Int)) (by exact ⟨rfl, rfl, trivial⟩) (fun w => by kernel_rfl) rfl (by decide) rfl ⟨⟨A70, C71, rfl, (SL.fl h72.r (fun q => q))⟩, trivial⟩ (fun q => q) 0) ?_; rintro v w76 a ⟨c75, A77, C78, rfl, E79, h80, B81⟩ F; replace B := B81 _ B (pl hm0); replace E := E.n E79; obtain ⟨t82, q83, H⟩ := bind_some H; refine qc F Try.func46 (seal_FNV.calls k (m := m + 4) (pl hm0) B h80.r (pl hm0) (pl hm0) _ q83) ?_; rintro e w85 ⟨c84, rfl, E86, B⟩; refine rt fun a F => ?_; replace E := E.n E86; refine qm F fun a F => ?_; obtain ⟨t89, q90, H⟩ := bind_some H; refine qc F Try.func51 (haulagelaw10_mask.calls (m := m + 4) (pl hm0) B _ q90) ?_; rintro e w92 ⟨c91, rfl, E93, B⟩; refine rt fun a F => ?_; replace E := E.n E93; refine qa F fun a F => nil (hK74 _ _ ?_); refine wp_ret ?_; obtain rfl := si H; refine out1 F rfl rfl ?_; exact ⟨cf (ct m) c91, rfl, E.lv B0, cfb⟩
theorem haulagelaw10_ofRows.calls (k : Nat) {m : Nat} {c0 : Nat → Nat} {w0 : World} {j5 : Nat} {A2 : Option Addr} {C3 : Nat} {a1 : List api_Row} {a6 : Int} (hm0 : 0 < m) (B0 : CB m c0 w0) (h4 : SL false K_api_Row j5 0 c0 w0 A2 C3 a1) (bj5 : j5 < m) (r : Int) (H : haulagelaw10_ofRows.f k a1 a6 = some r) : Calls Try.prog 22 #[.slice A2 a1.length C3, .int .i64 a6] w0 (fun e w_ => ∃ (c_ : Nat → Nat), e = .returned (.int .u64 r) ∧ Ev (fun x => False) c0 w0 c_ w_ ∧ CB m c_ w_) := by
 unfold haulagelaw10_ofRows.f at H; have B := B0.mono (show m ≤ m + 3 by omega); have E : Ev (fun x => False ∨ m ≤ x) c0 w0 c0 w0 := Ev.refl; refine enter (N := 40) (l := [.slice A2 a1.length C3, .int .i64 a6]) Try.func22 rfl rfl (nb rfl) fun a F => ?_; refine sr fun K7 hK7 => qa F fun a F => nil (hK7 _ _ ?_); refine sr fun K8 hK8 => qm F fun a F => ?_; refine qv F (r_lensl F Try.underlying27 rfl) fun a F => ?_; refine qv F (r_mul F rfl rfl) fun a F => ?_; refine qv F (r_add F rfl rfl) fun a F => ?_; obtain ⟨t9, q10, H⟩ := bind_some H; refine qc F Try.func47 (parcel_New.calls (m := m + 3) (pl hm0) B (m + 1) lm (m + 2) lm _ q10) ?_; rintro e w12 ⟨c11, p15, rfl, E13, B, h16⟩; refine rt fun a F => ?_; replace h4 := h4.ev E13; replace E := E.n E13; refine qa F fun a F => nil (hK8 _ _ ?_); refine sr fun K18 hK18 => qm F fun a F => ?_; obtain ⟨t19, q20, H⟩ := bind_some H; refine qc F Try.func48 (parcel_Writer_Byte.calls (m := m + 3) (pl hm0) B h16 ⟨(pl hm0), lm⟩ ⟨(pl hm0), lm, mm⟩ _ q20) ?_; rintro e w22 ⟨c21, rfl, E23, B, h25⟩; refine rt fun a F => ?_; replace h4 := h4.ev E23 (nor (ne_pm bj5) (ne_pm bj5)) (nor ne_zm ne_zm); replace E := E.trans E23 lc2; refine nil (hK18 _ _ ?_); replace F : Fr a 40 [(0, .slice A2 a1.length C3), (1, .int .i64 a6), (5, .pointer p15)] := F.sub ⟨rfl, rfl, rfl, trivial⟩; refine sq fun K27 hK27 => ?_; refine sr fun K28 hK28 => qa F fun a F => nil (hK28 _ _ ?_); refine wp_block ?_; obtain ⟨x86, HL, HR85⟩ := bind_some H; have J122 : ∀ (c123 : Nat → Nat) (w124 : World) (a : Act) (o121 : Option Wri), Fr a 40 [(1, .int .i64 a6), (5, .pointer p15)] → Ev (fun x => False ∨ m ≤ x) c0 w0 c123 w124 → CB (m + 3) c123 w124 → WR (m + 1) (m + 2) c123 w124 p15 o121 → haulagelaw10_ofRows.j2 k a6 o121 = some r → K27 a w124 := by
  intro c123 w124 a o121 F E B h120 H; unfold haulagelaw10_ofRows.j2 at H; refine hK27 _ _ ?_; refine sr fun K125 hK125 => qm F fun a F => ?_; obtain ⟨t126, q127, H⟩ := bind_some H; refine qc F Try.func50 (parcel_Writer_Done.calls (m := m + 3) (pl hm0) B h120 lm ⟨lm, mm⟩ 0 (pl hm0) _ q127) ?_; rintro e w129 ⟨c128, A132, C133, rfl, E130, B, h134⟩; refine rt fun a F => ?_; replace E := E.n E130; refine qm F fun a F => ?_; refine qx F fun a F => ?_; refine qx F fun a F => ?_; refine qa F fun a F => qa F fun a F => nil (hK125 _ _ ?_); refine sr fun K136 hK136 => qm F fun a F => ?_; refine q_eff F rfl rfl (by decide) (e_buildSlice (n := 1) (e := 23) (c := c128) (k := (Kslice (Kint .u8))) (i := 0) F [(0, .slice A132 t126.1.length C133)] [.slice A132 t126.1.length C133] ([t126.1] : List (List Int)) (by exact ⟨rfl, rfl, trivial⟩) (fun w => by kernel_rfl) rfl (by decide) rfl ⟨⟨A132, C133, rfl, (SL.fl h134.r (fun q => q))⟩, trivial⟩ (fun q => q) 0) ?_; rintro v w138 a ⟨c137, A139, C140, rfl, E141, h142, B143⟩ F; replace B := B143 _ B (pl hm0); replace E := E.n E141; obtain ⟨t144, q145, H⟩ := bind_some H; refine qc F Try.func46 (seal_FNV.calls k (m := m + 3) (pl hm0) B h142.r (pl hm0) (pl hm0) _ q145) ?_; rintro e w147 ⟨c146, rfl, E148, B⟩; refine rt fun a F => ?_; replace E := E.n E148; refine qm F fun a F => ?_; obtain ⟨t151, q152, H⟩ := bind_some H; refine qc F Try.func51 (haulagelaw10_mask.calls (m := m + 3) (pl hm0) B _ q152) ?_; rintro e w154 ⟨c153, rfl, E155, B⟩; refine rt fun a F => ?_; replace E := E.n E155; refine qa F fun a F => nil (hK136 _ _ ?_); replace F : Fr a 40 [(4, .int .u64 t151)] := F.sub ⟨rfl, trivial⟩; refine wp_ret ?_; obtain rfl := si H; refine out1 F rfl rfl ?_; exact ⟨cf (ct m) c153, rfl, E.lv B0, cfb⟩
 refine loop_fuel (I := fun n a w => ∃ (o75 : Option Wri) (i76 : Int) (c : Nat → Nat), Fr a 40 [(0, .slice A2 a1.length C3), (1, .int .i64 a6), (5, .pointer p15), (6, .int .i64 i76)] ∧ Ev (fun x => False ∨ m ≤ x) c0 w0 c w ∧ CB (m + 3) c w ∧ SL false K_api_Row j5 0 c w A2 C3 a1 ∧ WR (m + 1) (m + 2) c w p15 o75 ∧ loop (fun (s_ : (Option Wri) × Int) => haulagelaw10_ofRows.b1 k a1 a6 s_.1 s_.2) n (o75, i76) = some x86) (k := k) ⟨t19, 0, c21, F.sub ⟨rfl, rfl, rfl, rfl, trivial⟩, E, B, h4, h25, HL⟩ ?_; clear HL H E F B; intro n83 X79 hX79 a w78 ⟨o75, i76, c77, F, E, B, h4, h74, HL⟩; obtain ⟨n84, ctl82, rfl, HB, HN80, HD81⟩ := loop_some HL; have H : haulagelaw10_ofRows.b1 k a1 a6 o75 i76 = some ctl82 := HB; clear HB HL; unfold haulagelaw10_ofRows.b1 at H; refine sq fun K87 hK87 => ?_; refine sr fun K88 hK88 => qm F fun a F => qm F fun a F => ?_; refine qv F (r_lensl F Try.underlying27 rfl) fun a F => ?_; refine qv F (r_lss F rfl rfl) fun a F => ?_; refine nil (hK88 _ _ ?_)
 by_cases hb89 : i76 < (a1.length : Int)
 ·replace H := ip hb89 H; refine wct (fb F (dt hb89)) (wp_skip (hK87 _ _ ?_)); refine sq fun K90 hK90 => ?_; refine wp_block ?_; refine reg ?_; refine qm F fun a F => qm F fun a F => qm F fun a F => ?_; replace H := ifN H; obtain ⟨g91, H⟩ := H; obtain ⟨ad92, cs93, e94, h95, r96⟩ := SL.at h4 i76 g91.1 g91.2; obtain ⟨A97, C98, A100, C101, rfl, h99, h102⟩ := r96; replace h99 := SL.fl (i' := 0) h99 (fun q => q); replace h102 := SL.fl (i' := 0) h102 (fun q => q); obtain ⟨qa103, qqa103⟩ : ∃ q, q = (ad92.add (i76.toNat * 3)) := ⟨_, rfl⟩; have h95 : AT false j5 c77 w78 qa103 [.slice A97 ((rd a1 i76).Key).length C98, .slice A100 ((rd a1 i76).Value).length C101, .int .i64 ((rd a1 i76).Rev)] := by rw [qqa103]; exact h95
  refine qv F (r_indexAddr' F Try.underlying27 sz_36 rfl rfl g91.1 g91.2 e94 qqa103) fun a F => ?_; refine qv F (r_loads (cs := [.slice A97 ((rd a1 i76).Key).length C98, .slice A100 ((rd a1 i76).Value).length C101, .int .i64 ((rd a1 i76).Rev)]) F rfl ag_36 sz_36 h95) fun a F => ?_; refine qm F fun a F => ?_; obtain ⟨t58, q59, H⟩ := bind_some H; refine qc F Try.func43 (haulagelaw10_ofRow.calls k (m := m + 3) (pl hm0) B h99 h102 _ q59) ?_; rintro e w106 ⟨c105, rfl, E107, B⟩; refine rt fun a F => ?_; replace h4 := h4.ev E107; replace h74 := h74.ev E107; replace E := E.n E107; obtain ⟨t65, q66, H⟩ := bind_some H; refine qc F Try.func49 (parcel_Writer_Fixed.calls k (m := m + 3) (pl hm0) B h74 ⟨(pl hm0), lm⟩ ⟨(pl hm0), lm, mm⟩ _ q66) ?_; rintro e w111 ⟨c110, rfl, E112, B, h114⟩; refine rt fun a F => ?_; replace h4 := h4.ev E112 (nor (ne_pm bj5) (ne_pm bj5)) (nor ne_zm ne_zm); replace E := E.trans E112 lc2; refine nil (hK90 _ _ ?_); replace F : Fr a 40 [(0, .slice A2 a1.length C3), (1, .int .i64 a6), (5, .pointer p15), (6, .int .i64 i76)] := F.sub ⟨rfl, rfl, rfl, rfl, trivial⟩; refine reg ?_; refine qm F fun a F => ?_; refine qv F (r_add F rfl rfl) fun a F => ?_; refine qa F fun a F => nil ?_; replace H := HN80 _ (si H).symm; exact hX79 _ _ _ (Nat.lt_succ_self _) ⟨t65, (IntKind.i64.wrap (i76 + 1)), c110, F.sub ⟨rfl, rfl, rfl, rfl, trivial⟩, E, B, h4, h114, H⟩
 replace H := im hb89 H; refine wcf (fb F (dz hb89)) ?_; refine wp_exit ?_; refine thenE ?_; refine thenE ?_; refine inbE ?_; have hx_ := HD81 _ (si H).symm; have H := HR85; rw [← hx_] at H; exact J122 c77 w78 a o75 (F.sub ⟨rfl, rfl, trivial⟩) E B h74 H
theorem haulagelaw10_round.calls {m : Nat} {c0 : Nat → Nat} {w0 : World} {a1 : Int} {a2 : Int} (hm0 : 0 < m) (B0 : CB m c0 w0) (r : Int) (H : haulagelaw10_round.f a1 a2 = some r) : Calls Try.prog 8 #[.int .i64 a1, .int .i64 a2] w0 (fun e w_ => ∃ (c_ : Nat → Nat), e = .returned (.int .i64 r) ∧ Ev (fun x => False) c0 w0 c_ w_ ∧ CB m c_ w_) := by
 unfold haulagelaw10_round.f at H; have B := B0.mono (show m ≤ m + 1 by omega); have E : Ev (fun x => False ∨ m ≤ x) c0 w0 c0 w0 := Ev.refl; refine enter (N := 15) (l := [.int .i64 a1, .int .i64 a2]) Try.func8 rfl rfl (nb rfl) fun a F => ?_; refine sr fun K3 hK3 => qa F fun a F => nil (hK3 _ _ ?_); refine sr fun K4 hK4 => qm F fun a F => qm F fun a F => ?_; replace H := ifN H; obtain ⟨g5, H⟩ := H; refine qv F (r_rem F rfl rfl g5) fun a F => ?_; refine qa F fun a F => nil (hK4 _ _ ?_); refine sq fun K6 hK6 => ?_; refine sr fun K7 hK7 => qm F fun a F => ?_; refine qv F (r_lss F rfl rfl) fun a F => ?_; refine nil (hK7 _ _ ?_)
 by_cases hb8 : (Int.tmod a1 a2) < 0
 ·replace H := ip hb8 H; refine wct (fb F (dt hb8)) ?_; refine reg ?_; refine qm F fun a F => qm F fun a F => ?_; refine qv F (r_add F rfl rfl) fun a F => ?_; refine qa F fun a F => nil (hK6 _ _ ?_); replace F : Fr a 15 [(5, .int .i64 (IntKind.i64.wrap ((Int.tmod a1 a2) + a2)))] := F.sub ⟨rfl, trivial⟩; refine sr fun K9 hK9 => qm F fun a F => qa F fun a F => nil (hK9 _ _ ?_); refine wp_ret ?_; obtain rfl := si H; refine out1 F rfl rfl ?_; exact ⟨cf (ct m) c0, rfl, E.lv B0, cfb⟩
 replace H := im hb8 H; refine wcf (fb F (dz hb8)) (wp_skip (hK6 _ _ ?_)); replace F : Fr a 15 [(5, .int .i64 (Int.tmod a1 a2))] := F.sub ⟨rfl, trivial⟩; refine sr fun K10 hK10 => qm F fun a F => qa F fun a F => nil (hK10 _ _ ?_); refine wp_ret ?_; obtain rfl := si H; refine out1 F rfl rfl ?_; exact ⟨cf (ct m) c0, rfl, E.lv B0, cfb⟩
theorem haulagelaw10_sameRows.calls (k : Nat) {m : Nat} {c0 : Nat → Nat} {w0 : World} {j5 : Nat} {j10 : Nat} {A2 : Option Addr} {C3 : Nat} {A7 : Option Addr} {C8 : Nat} {a1 : List api_Row} {a6 : List api_Row} (hm0 : 0 < m) (B0 : CB m c0 w0) (h4 : SL false K_api_Row j5 0 c0 w0 A2 C3 a1) (h9 : SL false K_api_Row j10 0 c0 w0 A7 C8 a6) (bj5 : j5 < m) (bj10 : j10 < m) (r : Bool) (H : haulagelaw10_sameRows.f k a1 a6 = some r) : Calls Try.prog 18 #[.slice A2 a1.length C3, .slice A7 a6.length C8] w0 (fun e w_ => ∃ (c_ : Nat → Nat), e = .returned (.bool r) ∧ Ev (fun x => False) c0 w0 c_ w_ ∧ CB m c_ w_) := by
 unfold haulagelaw10_sameRows.f at H; have B := B0.mono (show m ≤ m + 1 by omega); have E : Ev (fun x => False ∨ m ≤ x) c0 w0 c0 w0 := Ev.refl; refine enter (N := 27) (l := [.slice A2 a1.length C3, .slice A7 a6.length C8]) Try.func18 rfl rfl (nb rfl) fun a F => ?_; refine sr fun K11 hK11 => qa F fun a F => nil (hK11 _ _ ?_); refine sq fun K12 hK12 => ?_; refine sr fun K13 hK13 => qm F fun a F => ?_; refine qv F (r_lensl F Try.underlying27 rfl) fun a F => ?_; refine qm F fun a F => ?_; refine qv F (r_lensl F Try.underlying27 rfl) fun a F => ?_; refine qv F (r_neq F rfl rfl) fun a F => ?_; refine nil (hK13 _ _ ?_)
 by_cases hb14 : (a1.length : Int) = (a6.length : Int)
 ·replace H := ip hb14 H; refine wcf (fb F (congrArg not (dt hb14))) (wp_skip (hK12 _ _ ?_)); refine sq fun K16 hK16 => ?_; refine sr fun K17 hK17 => qa F fun a F => nil (hK17 _ _ ?_); refine wp_block ?_; obtain ⟨x28, HL, HR27⟩ := bind_some H; have J74 : ∀ (c75 : Nat → Nat) (w76 : World) (a : Act), Fr a 27 [] → Ev (fun x => False ∨ m ≤ x) c0 w0 c75 w76 → CB (m + 1) c75 w76 → haulagelaw10_sameRows.j2 = some r → K16 a w76 := by
   intro c75 w76 a  F E B  H; unfold haulagelaw10_sameRows.j2 at H; refine hK16 _ _ ?_; refine sr fun K77 hK77 => qa F fun a F => nil (hK77 _ _ ?_); refine wp_ret ?_; obtain rfl := si H; refine out1 F rfl rfl ?_; exact ⟨cf (ct m) c75, rfl, E.lv B0, cfb⟩
  refine loop_fuel (I := fun n a w => ∃ (i18 : Int) (c : Nat → Nat), Fr a 27 [(0, .slice A2 a1.length C3), (1, .slice A7 a6.length C8), (5, .int .i64 i18)] ∧ Ev (fun x => False ∨ m ≤ x) c0 w0 c w ∧ CB (m + 1) c w ∧ SL false K_api_Row j5 0 c w A2 C3 a1 ∧ SL false K_api_Row j10 0 c w A7 C8 a6 ∧ loop (fun (s_ : Int) => haulagelaw10_sameRows.b1 k a1 a6 s_) n i18 = some x28) (k := k) ⟨0, c0, F.sub ⟨rfl, rfl, rfl, trivial⟩, E, B, h4, h9, HL⟩ ?_; clear HL H E F B; intro n25 X21 hX21 a w20 ⟨i18, c19, F, E, B, h4, h9, HL⟩; obtain ⟨n26, ctl24, rfl, HB, HN22, HD23⟩ := loop_some HL; have H : haulagelaw10_sameRows.b1 k a1 a6 i18 = some ctl24 := HB; clear HB HL; unfold haulagelaw10_sameRows.b1 at H; refine sq fun K29 hK29 => ?_; refine sr fun K30 hK30 => qm F fun a F => qm F fun a F => ?_; refine qv F (r_lensl F Try.underlying27 rfl) fun a F => ?_; refine qv F (r_lss F rfl rfl) fun a F => ?_; refine nil (hK30 _ _ ?_)
  by_cases hb31 : i18 < (a1.length : Int)
  ·replace H := ip hb31 H; refine wct (fb F (dt hb31)) (wp_skip (hK29 _ _ ?_)); refine sq fun K32 hK32 => ?_; refine wp_block ?_; refine sq fun K33 hK33 => ?_; refine regD (SB No c19 w20) 10 (.q 0 (.q 1 (.q 2 (.q 3 (.q 4 (.q 5 (.q 6 (.q 7 (.e 8 (.q 9 .nil)))))))))) Try_hm (by decide +kernel) ?_; intro w34 w1_ w2_ w3_ w4_; have E35 : Ev No c19 w20 c19 w34 := Ev.same w1_ w2_ w3_ w4_; replace B := B.same w1_; have zh4 := h4; have zh9 := h9; have ER : Ev No c19 w20 c19 w34 := Ev.same w1_ w2_ w3_ w4_; replace h4 := h4.ev E35; replace h9 := h9.ev E35; replace E := E.n E35; refine dm F ER.sb fun a F => ?_; refine dm F ER.sb fun a F => ?_; replace H := ifN H; obtain ⟨g36, H⟩ := H; obtain ⟨ad37, cs38, e39, h40, r41⟩ := SL.at zh4 i18 g36.1 g36.2; obtain ⟨A42, C43, A45, C46, rfl, h44, h47⟩ := r41; replace h44 := SL.fl (i' := 0) h44 (fun q => q); replace h47 := SL.fl (i' := 0) h47 (fun q => q); obtain ⟨qa48, qqa48⟩ : ∃ q, q = (ad37.add (i18.toNat * 3)) := ⟨_, rfl⟩; have h40 : AT false j5 c19 w20 qa48 [.slice A42 ((rd a1 i18).Key).length C43, .slice A45 ((rd a1 i18).Value).length C46, .int .i64 ((rd a1 i18).Rev)] := by rw [qqa48]; exact h40
   replace h44 := h44.ev ER nq nq; replace h47 := h47.ev ER nq nq; have zh40 := h40; refine dq F (fun wq hS => r_indexAddr' F Try.underlying27 sz_36 rfl rfl g36.1 g36.2 e39 qqa48) ER.sb fun a F => ?_; refine dq F (fun wq hS => r_loads (cs := [.slice A42 ((rd a1 i18).Key).length C43, .slice A45 ((rd a1 i18).Value).length C46, .int .i64 ((rd a1 i18).Rev)]) F rfl ag_36 sz_36 (AT.sb zh40 hS nq)) ER.sb fun a F => ?_; refine dm F ER.sb fun a F => ?_; refine dm F ER.sb fun a F => ?_; replace H := ifN H; obtain ⟨g50, H⟩ := H; obtain ⟨ad51, cs52, e53, h54, r55⟩ := SL.at zh9 i18 g50.1 g50.2; obtain ⟨A56, C57, A59, C60, rfl, h58, h61⟩ := r55; replace h58 := SL.fl (i' := 0) h58 (fun q => q); replace h61 := SL.fl (i' := 0) h61 (fun q => q); obtain ⟨qa62, qqa62⟩ : ∃ q, q = (ad51.add (i18.toNat * 3)) := ⟨_, rfl⟩; have h54 : AT false j10 c19 w20 qa62 [.slice A56 ((rd a6 i18).Key).length C57, .slice A59 ((rd a6 i18).Value).length C60, .int .i64 ((rd a6 i18).Rev)] := by rw [qqa62]; exact h54
   replace h58 := h58.ev ER nq nq; replace h61 := h61.ev ER nq nq; have zh54 := h54; refine dq F (fun wq hS => r_indexAddr' F Try.underlying27 sz_36 rfl rfl g50.1 g50.2 e53 qqa62) ER.sb fun a F => ?_; refine dq F (fun wq hS => r_loads (cs := [.slice A56 ((rd a6 i18).Key).length C57, .slice A59 ((rd a6 i18).Value).length C60, .int .i64 ((rd a6 i18).Rev)]) F rfl ag_36 sz_36 (AT.sb zh54 hS nq)) ER.sb fun a F => ?_; refine d_e ?_; obtain ⟨t64, q65, H⟩ := bind_some H; refine oc F Try.func14 (haulagelaw10_sameRow.calls k (m := m + 1) (pl hm0) B h44 h47 h58 h61 _ q65) ?_; rintro e w67 ⟨c66, rfl, E68, B⟩; refine rt fun a F => ?_; replace ER := ER.trans E68 nx; replace h4 := h4.ev E68; replace h9 := h9.ev E68; replace E := E.n E68; refine ⟨fun _ => ER.sb, ?_⟩; refine dq F (fun wq hS => r_not F rfl) ER.sb fun a F => ?_; refine d_nil ?_; refine hK33 _ _ ?_; replace F : Fr a 27 [(0, .slice A2 a1.length C3), (1, .slice A7 a6.length C8), (5, .int .i64 i18), (26, .bool (!t64))] := F.sub ⟨rfl, rfl, rfl, rfl, trivial⟩
   by_cases hb71 : t64 = true
   ·replace H := ip hb71 H; refine wcf (fb F (congrArg not hb71)) (wp_skip (hK32 _ _ ?_)); refine reg ?_; refine qm F fun a F => ?_; refine qv F (r_add F rfl rfl) fun a F => ?_; refine qa F fun a F => nil ?_; replace H := HN22 _ (si H).symm; exact hX21 _ _ _ (Nat.lt_succ_self _) ⟨(IntKind.i64.wrap (i18 + 1)), c66, F.sub ⟨rfl, rfl, rfl, trivial⟩, E, B, h4, h9, H⟩
   replace H := im hb71 H; refine wct (fb F (congrArg not (bfalse hb71))) ?_; refine sr fun K72 hK72 => qa F fun a F => nil (hK72 _ _ ?_); refine wp_ret ?_; refine inbR ?_; refine thenR ?_; refine thenR ?_; refine inbR ?_; refine thenR ?_; have hx_ := HD23 _ (si H).symm; have H := HR27; rw [← hx_] at H; replace H : some false = some r := H; obtain rfl := si H; refine out1 F rfl rfl ?_; exact ⟨cf (ct m) c66, rfl, E.lv B0, cfb⟩
  replace H := im hb31 H; refine wcf (fb F (dz hb31)) ?_; refine wp_exit ?_; refine thenE ?_; refine thenE ?_; refine inbE ?_; have hx_ := HD23 _ (si H).symm; have H := HR27; rw [← hx_] at H; exact J74 c19 w20 a  (F.sub trivial) E B  H
 replace H := im hb14 H; refine wct (fb F (congrArg not (dz hb14))) ?_; refine sr fun K15 hK15 => qa F fun a F => nil (hK15 _ _ ?_); refine wp_ret ?_; refine thenR ?_; obtain rfl := si H; refine out1 F rfl rfl ?_; exact ⟨cf (ct m) c0, rfl, E.lv B0, cfb⟩
theorem merkle_Tree_Get.calls (k : Nat) {m : Nat} {c0 : Nat → Nat} {w0 : World} {j4 : Nat} {j5 : Nat} {p2 : Option Addr} {A7 : Option Addr} {C8 : Nat} {a1 : Option Mer} {a6 : List Int} (hm0 : 0 < m) (B0 : CB m c0 w0) (h3 : ME j4 j5 c0 w0 p2 a1) (h9 : SL false (Kint .u8) 0 0 c0 w0 A7 C8 a6) (bj4 : j4 < m) (bj5 : j5 < m ∧ j5 ≠ j4) (r : api_Row × Bool) (H : merkle_Tree_Get.f k a1 a6 = some r) : Calls Try.prog 13 #[.pointer p2, .slice A7 a6.length C8] w0 (fun e w_ => ∃ (c_ : Nat → Nat) (A0_ : Option Addr) (C0_ : Nat) (A2_ : Option Addr) (C2_ : Nat), e = .returned (.tuple #[.agg #[.slice A0_ r.1.Key.length C0_, .slice A2_ r.1.Value.length C2_, .int .i64 r.1.Rev], .bool r.2]) ∧ Ev (fun x => False) c0 w0 c_ w_ ∧ CB m c_ w_ ∧ SL false (Kint .u8) 0 0 c_ w_ A0_ C0_ r.1.Key ∧ SL false (Kint .u8) 0 0 c_ w_ A2_ C2_ r.1.Value) := by
 unfold merkle_Tree_Get.f at H; have B := B0.mono (show m ≤ m + 2 by omega); have E : Ev (fun x => False ∨ m ≤ x) c0 w0 c0 w0 := Ev.refl; refine enter (N := 32) (l := [.pointer p2, .slice A7 a6.length C8]) Try.func13 rfl rfl (nb rfl) fun a F => ?_; refine sr fun K10 hK10 => ?_; refine q_eff F rfl rfl (by decide) (e_alloc F zv_36 c0 (m + 1)) ?_; rintro v w12 a ⟨c11, qa13, rfl, E14, h15, B16⟩ F; replace B := B16 _ B lm; replace h3 := h3.ev E14; replace h9 := h9.ev E14; replace E := E.n E14; replace h15 : AT _ _ _ _ _ [.slice none 0 0, .slice none 0 0, .int .i64 0] := h15; refine qa F fun a F => nil (hK10 _ _ ?_); refine sq fun K18 hK18 => ?_; refine sr fun K19 hK19 => qm F fun a F => ?_; refine qv F (r_peqlA F Try.underlying26 rfl rfl (ME.isNone h3)) fun a F => ?_; refine nil (hK19 _ _ ?_)
 by_cases hb20 : (Option.isNone a1) = true
 ·replace H := ip hb20 H; refine wct (fb F hb20) ?_; refine sr fun K21 hK21 => ?_; refine qv F (r_build (v := .agg #[.slice none 0 0, .slice none 0 0, .int .i64 0]) F [] (by exact trivial) (fun w => by kernel_rfl)) fun a F => ?_; refine q_eff0 F rfl rfl (e_storeN0 (us := [.slice none 0 0, .slice none 0 0, .int .i64 0]) F rfl rfl sz_36 h15 (nb rfl) (one_all rfl)) ?_; rintro w22 a ⟨E23, h15, Z24⟩ F; replace E := E.trans E23 lc1; replace h15 : AT _ _ _ _ _ [.slice none 0 0, .slice none 0 0, .int .i64 0] := h15; refine qa F fun a F => nil (hK21 _ _ ?_); refine wp_ret ?_; refine thenR ?_; obtain rfl := si H; refine outR2 F rfl ⟨_, rfl, lv_agg (cs := [.slice none 0 0, .slice none 0 0, .int .i64 0]) ag_36 sz_36 h15⟩ rfl ?_; exact ⟨cf (ct m) c11, none, 0, none, 0, rfl, E.lv B0, cfb, SL.nil, SL.nil⟩
 replace H := im hb20 H; refine wcf (fb F (bfalse hb20)) (wp_skip (hK18 _ _ ?_)); refine sr fun K25 hK25 => qm F fun a F => qm F fun a F => ?_; obtain ⟨t26, q27, H⟩ := bind_some H; refine qc F Try.func42 (merkle_Tree_at.calls k (m := m + 2) (pl hm0) B h3 h9 (Nat.lt_add_right _ bj4) ⟨(Nat.lt_add_right _ bj5.1), bj5.2⟩ _ q27) ?_; rintro e w29 ⟨c28, rfl, E30, B⟩; refine rt fun a F => ?_; replace h3 := h3.ev E30; replace h15 := h15.ev E30; replace E := E.n E30; refine qm F fun a F => ?_; refine qx F fun a F => ?_; refine qx F fun a F => ?_; refine qx F fun a F => ?_; refine qa F fun a F => qa F fun a F => qa F fun a F => nil (hK25 _ _ ?_); replace F : Fr a 32 [(0, .pointer p2), (4, .pointer (some qa13)), (6, .int .i64 t26.1), (7, .int .i64 t26.2.1), (8, .bool t26.2.2)] := F.sub ⟨rfl, rfl, rfl, rfl, rfl, trivial⟩; refine sq fun K33 hK33 => ?_; refine sr fun K34 hK34 => qm F fun a F => ?_; refine qv F (r_not F rfl) fun a F => ?_; refine nil (hK34 _ _ ?_)
 by_cases hb35 : t26.2.2 = true
 ·replace H := ip hb35 H; refine wcf (fb F (congrArg not hb35)) (wp_skip (hK33 _ _ ?_)); refine sr fun K40 hK40 => qm F fun a F => qm F fun a F => ?_; obtain ⟨ob41, e42, H⟩ := bind_some H; have z43 := h3; rw [e42] at z43; obtain ⟨ad44, cs46, cs48, rfl, hat45, h47, h49⟩ := ME.some z43; refine qi F fun a F => ?_; refine qf F ff_75_2 fun a F => ?_; replace H := ifN H; obtain ⟨g51, H⟩ := H; obtain ⟨cs53, h54, r55⟩ := ARO.at (off := 513) (AT.eqv (ds := (([.int .i64 ob41.bits] : List Value) ++ (cs46 ++ (([] : List Value)))) ++ (cs48 ++ (([.int .i64 ob41.many] : List Value)))) hat45 (by simp only [List.append_assoc])) (by have l0_ : cs46.length = 512 := (h47.1 : cs46.length = 512); simp only [List.length_append, List.length_cons, List.length_nil] <;> omega) h49 t26.1 g51.1 (by have g_ := g51.2; omega); obtain ⟨A57, C58, rfl, h59⟩ := r55; obtain ⟨qa56, qqa56⟩ : ∃ q, q = (ad44.add (513 + t26.1.toNat * 1)) := ⟨_, rfl⟩; have h54 : AT true j4 c28 w29 qa56 [.slice A57 (rd ob41.rows t26.1).length C58] := by rw [qqa56]; exact h54
  refine qv F (r_indexArr3 F ua_73 sz_27 rfl rfl g51.1 (by have g_ := g51.2; omega) hat45 qqa56) fun a F => ?_; refine qv F (r_load F rfl ag_27 (AT.cell0 h54 rfl)) fun a F => ?_; refine qm F fun a F => ?_; replace H := ifN H; obtain ⟨g61, H⟩ := H; obtain ⟨ad62, cs63, e64, h65, r66⟩ := SL.at h59 t26.2.1 g61.1 g61.2; obtain ⟨A67, C68, A70, C71, rfl, h69, h72⟩ := r66; replace h69 := SL.fl (i' := 0) h69 (fun q => q); replace h72 := SL.fl (i' := 0) h72 (fun q => q); obtain ⟨qa73, qqa73⟩ : ∃ q, q = (ad62.add (t26.2.1.toNat * 3)) := ⟨_, rfl⟩; have h65 : AT true j5 c28 w29 qa73 [.slice A67 ((rd (rd ob41.rows t26.1) t26.2.1).Key).length C68, .slice A70 ((rd (rd ob41.rows t26.1) t26.2.1).Value).length C71, .int .i64 ((rd (rd ob41.rows t26.1) t26.2.1).Rev)] := by rw [qqa73]; exact h65
  refine qv F (r_indexAddr' F Try.underlying27 sz_36 rfl rfl g61.1 g61.2 e64 qqa73) fun a F => ?_; refine qv F (r_loads (cs := [.slice A67 ((rd (rd ob41.rows t26.1) t26.2.1).Key).length C68, .slice A70 ((rd (rd ob41.rows t26.1) t26.2.1).Value).length C71, .int .i64 ((rd (rd ob41.rows t26.1) t26.2.1).Rev)]) F rfl ag_36 sz_36 h65) fun a F => ?_; obtain ⟨t75, q76, H⟩ := bind_some H; refine qc F Try.func41 (merkle_own.calls (m := m + 2) (pl hm0) B h69 h72 _ q76) ?_; rintro e w78 ⟨c77, A81, C82, A84, C85, rfl, E79, B, h83, h86⟩; refine rt fun a F => ?_; replace h15 := h15.ev E79; replace E := E.n E79; refine q_eff0 F rfl rfl (e_storeN0 (us := [.slice A81 t75.Key.length C82, .slice A84 t75.Value.length C85, .int .i64 t75.Rev]) F rfl rfl sz_36 h15 (nb rfl) (one_all rfl)) ?_; rintro w88 a ⟨E89, h15, Z90⟩ F; replace h83 := h83.ev E89; replace h86 := h86.ev E89; replace E := E.trans E89 lc1; replace h15 : AT _ _ _ _ _ [.slice A81 t75.Key.length C82, .slice A84 t75.Value.length C85, .int .i64 t75.Rev] := h15; refine qa F fun a F => nil (hK40 _ _ ?_); replace F : Fr a 32 [(4, .pointer (some qa13)), (5, .bool true)] := F.sub ⟨rfl, rfl, trivial⟩; refine wp_ret ?_; obtain rfl := si H; refine outR2 F rfl ⟨_, rfl, lv_agg (cs := [.slice A81 t75.Key.length C82, .slice A84 t75.Value.length C85, .int .i64 t75.Rev]) ag_36 sz_36 h15⟩ rfl ?_; exact ⟨cf (ct m) c77, A81, C82, A84, C85, rfl, E.lv B0, cfb, SL.rc h83 cfk cfk, SL.rc h86 cfk cfk⟩
 replace H := im hb35 H; refine wct (fb F (congrArg not (bfalse hb35))) ?_; refine sr fun K36 hK36 => ?_; refine qv F (r_build (v := .agg #[.slice none 0 0, .slice none 0 0, .int .i64 0]) F [] (by exact trivial) (fun w => by kernel_rfl)) fun a F => ?_; refine q_eff0 F rfl rfl (e_storeN0 (us := [.slice none 0 0, .slice none 0 0, .int .i64 0]) F rfl rfl sz_36 h15 (nb rfl) (one_all rfl)) ?_; rintro w37 a ⟨E38, h15, Z39⟩ F; replace E := E.trans E38 lc1; replace h15 : AT _ _ _ _ _ [.slice none 0 0, .slice none 0 0, .int .i64 0] := h15; refine qa F fun a F => nil (hK36 _ _ ?_); refine wp_ret ?_; refine thenR ?_; obtain rfl := si H; refine outR2 F rfl ⟨_, rfl, lv_agg (cs := [.slice none 0 0, .slice none 0 0, .int .i64 0]) ag_36 sz_36 h15⟩ rfl ?_; exact ⟨cf (ct m) c28, none, 0, none, 0, rfl, E.lv B0, cfb, SL.nil, SL.nil⟩
theorem merkle_Tree_Len.calls {m : Nat} {c0 : Nat → Nat} {w0 : World} {j4 : Nat} {j5 : Nat} {p2 : Option Addr} {a1 : Option Mer} (hm0 : 0 < m) (B0 : CB m c0 w0) (h3 : ME j4 j5 c0 w0 p2 a1) (bj4 : j4 < m) (bj5 : j5 < m ∧ j5 ≠ j4) (r : Int) (H : merkle_Tree_Len.f a1 = some r) : Calls Try.prog 20 #[.pointer p2] w0 (fun e w_ => ∃ (c_ : Nat → Nat), e = .returned (.int .i64 r) ∧ Ev (fun x => False) c0 w0 c_ w_ ∧ CB m c_ w_) := by
 unfold merkle_Tree_Len.f at H; have B := B0.mono (show m ≤ m + 1 by omega); have E : Ev (fun x => False ∨ m ≤ x) c0 w0 c0 w0 := Ev.refl; refine enter (N := 9) (l := [.pointer p2]) Try.func20 rfl rfl (nb rfl) fun a F => ?_; refine sr fun K6 hK6 => qa F fun a F => nil (hK6 _ _ ?_); refine sq fun K7 hK7 => ?_; refine sr fun K8 hK8 => qm F fun a F => ?_; refine qv F (r_peqlA F Try.underlying26 rfl rfl (ME.isNone h3)) fun a F => ?_; refine nil (hK8 _ _ ?_)
 by_cases hb9 : (Option.isNone a1) = true
 ·replace H := ip hb9 H; refine wct (fb F hb9) ?_; refine sr fun K10 hK10 => qa F fun a F => nil (hK10 _ _ ?_); refine wp_ret ?_; refine thenR ?_; obtain rfl := si H; refine out1 F rfl rfl ?_; exact ⟨cf (ct m) c0, rfl, E.lv B0, cfb⟩
 replace H := im hb9 H; refine wcf (fb F (bfalse hb9)) (wp_skip (hK7 _ _ ?_)); refine sr fun K11 hK11 => qm F fun a F => ?_; obtain ⟨ob12, e13, H⟩ := bind_some H; have z14 := h3; rw [e13] at z14; obtain ⟨ad15, cs17, cs19, rfl, hat16, h18, h20⟩ := ME.some z14; refine qi F fun a F => ?_; refine qf F ff_75_3 fun a F => ?_; refine qv F (r_load F rfl ag_3 (AT.cell hat16 ((get_app (n := 1) (k := 768) rfl).trans ((get_app (n := 512) (k := 256) (h18.1 : cs17.length = 512)).trans ((get_app (n := 0) (k := 256) rfl).trans ((get_app (n := 256) (k := 0) (ARO.len h20 : cs19.length = 256)).trans rfl)))))) fun a F => ?_; refine qa F fun a F => nil (hK11 _ _ ?_); refine wp_ret ?_; obtain rfl := si H; refine out1 F rfl rfl ?_; exact ⟨cf (ct m) c0, rfl, E.lv B0, cfb⟩
end Go.Proofs.Ytdnaoecfnjalgaa.G
namespace Go.Proofs
open Go.Shelf
def Try.sortRows_ren : Go.Shelf.Ren := ⟨fun | 6 => 45 | 15 => 67 | 14 => 66 | 28 => 89 | 29 => 90 | 20 => 81 | 21 => 82 | 22 => 83 | 23 => 84 | 24 => 85 | 25 => 86 | 26 => 87 | 27 => 88 | 46 => 102 | 47 => 103 | 48 => 104 | 49 => 105 | 50 => 106 | 57 => 111 | n => n, fun | 22 => 27 | 24 => 36 | 25 => 82 | 3 => 3 | 39 => 79 | 0 => 0 | 53 => 121 | 55 => 30 | 4 => 4 | 46 => 130 | 45 => 129 | 50 => 80 | 5 => 5 | 9 => 9 | 66 => 143 | 70 => 146 | 76 => 151 | 77 => 152 | n => n, fun | n => n⟩
theorem Try.sortRows : Go.Proofs.SlLaysF0.n6 Try.prog Try.sortRows_ren := {
 mixed := by kernel_rfl
 f6 := ⟨Try.f45.name, by decide, Try.func45.trans (congrArg some (by kernel_rfl))⟩
 f14 := ⟨Try.f66.name, by decide, Try.func66.trans (congrArg some (by kernel_rfl))⟩
 f15 := Try.func67.trans (congrArg some (by kernel_rfl))
 f20 := ⟨Try.f81.name, by decide, Try.func81.trans (congrArg some (by kernel_rfl))⟩
 f21 := ⟨Try.f82.name, by decide, Try.func82.trans (congrArg some (by kernel_rfl))⟩
 f22 := ⟨Try.f83.name, by decide, Try.func83.trans (congrArg some (by kernel_rfl))⟩
 f23 := ⟨Try.f84.name, by decide, Try.func84.trans (congrArg some (by kernel_rfl))⟩
 f24 := ⟨Try.f85.name, by decide, Try.func85.trans (congrArg some (by kernel_rfl))⟩
 f25 := ⟨Try.f86.name, by decide, Try.func86.trans (congrArg some (by kernel_rfl))⟩
 f26 := ⟨Try.f87.name, by decide, Try.func87.trans (congrArg some (by kernel_rfl))⟩
 f27 := ⟨Try.f88.name, by decide, Try.func88.trans (congrArg some (by kernel_rfl))⟩
 f28 := Try.func89.trans (congrArg some (by kernel_rfl))
 f29 := Try.func90.trans (congrArg some (by kernel_rfl))
 f46 := ⟨Try.f102.name, by decide, Try.func102.trans (congrArg some (by kernel_rfl))⟩
 f47 := Try.func103.trans (congrArg some (by kernel_rfl))
 f48 := Try.func104.trans (congrArg some (by kernel_rfl))
 f49 := ⟨Try.f105.name, by decide, Try.func105.trans (congrArg some (by kernel_rfl))⟩
 f50 := ⟨Try.f106.name, by decide, Try.func106.trans (congrArg some (by kernel_rfl))⟩
 f57 := ⟨Try.f111.name, by decide, Try.func111.trans (congrArg some (by kernel_rfl))⟩
 t0 := Try.underlying0
 a0 := Try.isAgg0
 z0 := Try.sizeOf0
 v0 := Try.zeroValue0
 t3 := Try.underlying3
 a3 := Try.isAgg3
 z3 := Try.sizeOf3
 v3 := Try.zeroValue3
 t4 := Try.underlying4
 a4 := Try.isAgg4
 z4 := Try.sizeOf4
 v4 := Try.zeroValue4
 t5 := Try.underlying5
 a5 := Try.isAgg5
 z5 := Try.sizeOf5
 v5 := Try.zeroValue5
 t9 := Try.underlying9
 a9 := Try.isAgg9
 z9 := Try.sizeOf9
 v9 := Try.zeroValue9
 t22 := Try.underlying27
 a22 := Try.isAgg27
 z22 := Try.sizeOf27
 v22 := Try.zeroValue27
 t25 := Try.underlying82
 a25 := Try.isAgg82
 z25 := Try.sizeOf82
 v25 := Try.zeroValue82
 t39 := Try.underlying79
 a39 := Try.isAgg79
 z39 := Try.sizeOf79
 v39 := Try.zeroValue79
 t45 := Try.underlying129
 a45 := Try.isAgg129
 z45 := Try.sizeOf129
 v45 := Try.zeroValue129
 t46 := Try.underlying130
 a46 := Try.isAgg130
 z46 := Try.sizeOf130
 v46 := Try.zeroValue130
 t50 := Try.underlying80
 a50 := Try.isAgg80
 z50 := Try.sizeOf80
 v50 := Try.zeroValue80
 t53 := Try.underlying121
 a53 := Try.isAgg121
 z53 := Try.sizeOf121
 v53 := Try.zeroValue121
 t55 := Try.underlying30
 a55 := Try.isAgg30
 z55 := Try.sizeOf30
 v55 := Try.zeroValue30
 t66 := Try.underlying143
 a66 := Try.isAgg143
 z66 := Try.sizeOf143
 v66 := Try.zeroValue143
 t70 := Try.underlying146
 a70 := Try.isAgg146
 z70 := Try.sizeOf146
 v70 := Try.zeroValue146
 t76 := Try.underlying151
 a76 := Try.isAgg151
 z76 := Try.sizeOf151
 v76 := Try.zeroValue151
 t77 := Try.underlying152
 a77 := Try.isAgg152
 z77 := Try.sizeOf152
 v77 := Try.zeroValue152 }
end Go.Proofs
namespace Go.Proofs.Ytdnaoecfnjalgaa.G
open Go
set_option linter.unusedVariables false
set_option linter.unusedSimpArgs false
theorem wr {n : Int} (h0 : -1000000000000000000 ≤ n) (h1 : n ≤ 1000000000000000000) : IntKind.i64.wrap n = n := by rw [IntKind.wrap_i64]; omega
theorem loop_next {S X : Type} {f : S → Option (Ctl S X)} {n : Nat} {s s' : S} (h : f s = some (.next s')) : loop f (n + 1) s = loop f n s' := by
 show (f s).bind _ = _; rw [h]; rfl
theorem loop_done {S X : Type} {f : S → Option (Ctl S X)} {n : Nat} {s : S} {x : X} (h : f s = some (.done x)) : loop f (n + 1) s = some x := by
 show (f s).bind _ = _; rw [h]; rfl
abbrev Fuel (k : Nat) : Prop := 1099511627776 ≤ k
theorem bind_eq {α β : Type} {x : Option α} {f : α → Option β} {a : α} (h : x = some a) : x.bind f = f a := by rw [h]; rfl
theorem shr7u (n : Nat) : shr .u64 (n : Int) 7 = ((n / 128 : Nat) : Int) := by
 unfold shr
 have : (2 : Int) ^ (min (7 : Int).toNat IntKind.u64.bits) = 128 := by decide
 rw [this, Int.fdiv_eq_ediv_of_nonneg _ (by omega)]
 omega
def nmF : Nat → Nat → Nat
 | 0, _ => 0
 | f + 1, n => if n ≤ 127 then 0 else nmF f (n / 128) + 1
theorem nmF_le : ∀ f n, nmF f n ≤ f
 | 0, _ => Nat.le_refl _
 | f + 1, n => by
  have := nmF_le f (n / 128)
  unfold nmF; split <;> omega
theorem rd_eq {α : Type} [Inhabited α] {xs : List α} {i : Nat} (h : i < xs.length) : rd xs (i : Int) = xs[i] := by
 unfold rd
 rw [Int.toNat_natCast, List.getD_eq_getElem?_getD, List.getElem?_eq_getElem h]
 rfl
theorem take_one {α : Type} {xs : List α} {i : Nat} (h : i < xs.length) : xs.take (i + 1) = xs.take i ++ [xs[i]] := by
 rw [List.take_add_one, List.getElem?_eq_getElem h]; rfl
theorem wrS (i : Nat) (h : i < 1000000000000) : IntKind.i64.wrap ((i : Int) + 1) = ((i + 1 : Nat) : Int) := by rw [wr (by omega) (by omega)]; omega
theorem loop_inv {S X : Type} {f : S → Option (Ctl S X)} {I : Nat → S → Prop} {P : X → Prop} {N : Nat}
  (step : ∀ i s, i < N → I i s → (∃ s', f s = some (.next s') ∧ I (i + 1) s') ∨ (∃ x, f s = some (.done x) ∧ P x))
  (last : ∀ s, I N s → ∃ x, f s = some (.done x) ∧ P x) : ∀ (n i : Nat) (s : S) (m : Nat), I i s → i + n = N → n < m → ∃ x, loop f m s = some x ∧ P x
 | _, _, _, 0, _, _, h => absurd h (by omega)
 | 0, i, s, m + 1, hI, hN, _ => by
  obtain rfl : i = N := by omega
  obtain ⟨x, h1, h2⟩ := last s hI
  exact ⟨x, loop_done h1, h2⟩
 | n + 1, i, s, m + 1, hI, hN, hm => by
  rcases step i s (by omega) hI with ⟨s', h1, h2⟩ | ⟨x, h1, h2⟩
  ·rw [loop_next h1]
   exact loop_inv step last n (i + 1) s' m h2 (by omega) (by omega)
  ·exact ⟨x, loop_done h1, h2⟩
def fmP : Nat → Nat → List Int
 | 0, _ => []
 | f + 1, n => if n ≤ 127 then [] else bor .u8 (IntKind.u8.wrap n) 128 :: fmP f (n / 128)
def fmL : Nat → Nat → Nat
 | 0, n => n
 | f + 1, n => if n ≤ 127 then n else fmL f (n / 128)
theorem fmP_len : ∀ f n, (fmP f n).length = nmF f n
 | 0, _ => rfl
 | f + 1, n => by
  unfold fmP nmF
  split
  ·rfl
  ·rw [List.length_cons, fmP_len f]
theorem form_loop : ∀ (f n k : Nat) (l : List Int), n < 128 ^ f → f < k → l.length + f < 1000 → loop (fun (s_ : Int × List Int) => parcel_form.b1 s_.1 s_.2) k ((n : Int), l) = some ((fmL f n : Int), l ++ fmP f n)
 | _, _, 0, _, _, h, _ => absurd h (by omega)
 | 0, n, k + 1, l, h, _, _ => by
  have : n = 0 := by simpa using h
  subst this
  rw [loop_done (x := ((0 : Int), l))]
  ·simp [fmP, fmL]
  ·simp [parcel_form.b1]
 | f + 1, n, k + 1, l, h, hk, hs => by
  by_cases c : n ≤ 127
  ·rw [loop_done (x := ((n : Int), l))]
   ·simp [fmP, fmL, c]
   ·unfold parcel_form.b1; rw [if_neg (by omega)]
  ·have hd : n / 128 < 128 ^ f := by rw [Nat.pow_succ] at h; omega
   rw [loop_next (s' := (((n / 128 : Nat) : Int), l ++ [bor .u8 (IntKind.u8.wrap n) 128]))]
   ·rw [form_loop f (n / 128) k _ hd (by omega) (by simp; omega)]
    simp [fmP, fmL, c]
   ·unfold parcel_form.b1
    rw [if_pos (by omega), if_pos (by simp; omega), shr7u]
theorem wru {n : Int} (h0 : 0 ≤ n) (h1 : n < 9223372036854775808) : IntKind.u64.wrap n = n := by
 simp only [IntKind.wrap, IntKind.bits, IntKind.signed]; simp; omega
abbrev W (room : Int) (b : List Int) : Option Wri := some ⟨room, b, [], 0⟩
theorem lay_eq {room : Int} {b a : List Int} (h1 : (b.length + a.length : Nat) ≤ room) (h2 : room ≤ 1000000000000) : parcel_Writer_lay.f (W room b) a = some (W room (b ++ a)) := by
 unfold parcel_Writer_lay.f parcel_Writer_whole.f
 simp only [Option.isNone_some, Bool.false_eq_true, if_false, Option.bind_some, decide_true, if_true]
 rw [wr (by omega) (by omega), if_neg (by omega), if_pos (by omega)]
theorem concat_eq {k : Nat} (hk : Fuel k) {x y : List Int} (h : x.length + y.length < 2000000000000) : slices_Concat.f k [x, y] = some (x ++ y) := by
 have h24 : 1099511627776 ≤ k := hk
 obtain ⟨q, rfl⟩ : ∃ q, k = q + 1 + 1 + 1 := ⟨k - 3, by omega⟩
 unfold slices_Concat.f
 have e1 : loop (fun (s_ : Int × Int) => slices_Concat.b1 [x, y] s_.1 s_.2) (q + 1 + 1 + 1) (0, 0) = some ((x.length + y.length : Nat) : Int) := by
  rw [loop_next (s' := ((x.length : Int), (1 : Int)))]
  ·rw [loop_next (s' := (((x.length + y.length : Nat) : Int), (2 : Int)))]
   ·refine loop_done ?_
    simp [slices_Concat.b1]
   ·have r1 : rd [x, y] 1 = y := rfl
    have w1 : IntKind.i64.wrap ((x.length : Int) + (y.length : Int)) = ((x.length + y.length : Nat) : Int) := by rw [wr (by omega) (by omega)]; omega
    unfold slices_Concat.b1
    simp only [r1, w1]
    rw [if_pos (by simp), if_pos (by simp), if_neg (by omega)]
    rfl
  ·have r1 : rd [x, y] 0 = x := rfl
   have w1 : IntKind.i64.wrap (0 + (x.length : Int)) = (x.length : Int) := by rw [wr (by omega) (by omega)]; omega
   unfold slices_Concat.b1
   simp only [r1, w1]
   rw [if_pos (by simp), if_pos (by simp), if_neg (by omega)]
   rfl
 rw [bind_eq e1]
 unfold slices_Concat.j2
 have e2 : slices_Grow.f [] ((x.length + y.length : Nat) : Int) = some [] := by
  unfold slices_Grow.f; rw [if_pos ⟨by omega, by omega, rfl⟩]
 rw [bind_eq e2]
 have e3 : loop (fun (s_ : (List Int) × Int) => slices_Concat.b3 [x, y] s_.1 s_.2) (q + 1 + 1 + 1) ([], 0) = some (x ++ y) := by
  rw [loop_next (s' := (x, (1 : Int)))]
  ·rw [loop_next (s' := (x ++ y, (2 : Int)))]
   ·refine loop_done ?_
    simp [slices_Concat.b3]
   ·have r1 : rd [x, y] 1 = y := rfl
    unfold slices_Concat.b3
    simp only [r1]
    rw [if_pos (by simp), if_pos (by simp), if_pos (by omega)]
    rfl
  ·have r1 : rd [x, y] 0 = x := rfl
   unfold slices_Concat.b3
   simp only [r1]
   rw [if_pos (by simp), if_pos (by simp), if_pos (by simp; omega)]
   rfl
 rw [bind_eq e3]
 rfl
theorem done_eq {room : Int} {b : List Int} (h : b.length ≤ 1000000000000) : parcel_Writer_Done.f (W room b) = some (b, 0) := by
 unfold parcel_Writer_Done.f
 simp only [Option.isNone_some, Bool.false_eq_true, if_false, Option.bind_some, if_true, List.length_nil]
 rw [if_neg (by omega), if_pos (by omega)]
 simp
theorem u64_range (x : Int) : ∃ n : Nat, IntKind.u64.wrap x = (n : Int) ∧ n < 18446744073709551616 := by
 refine ⟨(IntKind.u64.wrap x).toNat, ?_, ?_⟩ <;> simp only [IntKind.wrap, IntKind.bits, IntKind.signed] <;> simp <;> omega
theorem down_tot {k : Nat} (hk : Fuel k) (x : Int) : ∃ l, parcel_downuint64.f k (List.replicate 8 (0 : Int)) x = some l ∧ l.length = 8 := by
 have h24 : 1099511627776 ≤ k := hk
 unfold parcel_downuint64.f
 have L := loop_inv (f := fun (s_ : (List Int) × Int × Int) => parcel_downuint64.b1 (List.replicate 8 (0 : Int)) s_.1 s_.2.1 s_.2.2) (I := fun i s => s.1.length = 8 ∧ s.2.2 = (i : Int)) (P := fun l => l.length = 8) (N := 8) ?_ ?_ 8 0 (List.replicate 8 (0 : Int), x, 0) k ⟨rfl, rfl⟩ rfl (by omega)
 ·obtain ⟨l, e, h⟩ := L
  rw [bind_eq e]
  exact ⟨l, by unfold parcel_downuint64.j2; rw [if_pos (by rw [h]; rfl)], h⟩
 ·rintro i ⟨l, y, j⟩ hi ⟨hl, hj⟩
  left
  simp only at hj hl; subst hj
  simp only [parcel_downuint64.b1]
  rw [if_pos (by simp; omega), if_pos (by omega), wrS i (by omega)]
  exact ⟨_, rfl, by simpa using hl, rfl⟩
 ·rintro ⟨l, y, j⟩ ⟨hl, hj⟩
  simp only at hj hl; subst hj
  simp only [parcel_downuint64.b1]
  rw [if_neg (by simp)]
  exact ⟨_, rfl, hl⟩
def brange (xs : List Int) : Prop := ∀ n ∈ xs, 0 ≤ n ∧ n ≤ 255
theorem comes_loop (a b : List Int) (ha : a.length < 4000000) : ∀ (n i m : Nat), i + n = a.length → n < m → i ≤ b.length →
  (∃ x, loop (fun (s_ : Int) => haulagelaw10_comes.b2 a b s_) m (i : Int) = some x ∧ (match x with | .inl _ => haulagelaw10_comes.j3 a b | .inr q => some q) = some (cm (a.drop i) (b.drop i)))
 | _, _, 0, _, h, _ => absurd h (by omega)
 | 0, i, m + 1, h, _, hb => by
  refine ⟨Sum.inl (), loop_done ?_, ?_⟩
  ·unfold haulagelaw10_comes.b2 haulagelaw10_comes.j1
   rw [if_neg (by omega), if_neg (by simp)]
  ·show haulagelaw10_comes.j3 a b = _
   unfold haulagelaw10_comes.j3
   rw [List.drop_of_length_le (by omega)]
   congr 1
   by_cases c : i < b.length
   ·rw [List.drop_eq_getElem_cons c, decide_eq_true (by omega)]; rfl
   ·rw [List.drop_of_length_le (by omega), decide_eq_false (by omega)]; rfl
 | n + 1, i, m + 1, h, hm, hb => by
  have hi : i < a.length := by omega
  rw [List.drop_eq_getElem_cons hi]
  by_cases c : i < b.length
  ·rw [List.drop_eq_getElem_cons c]
   by_cases e : a[i] = b[i]
   ·rw [loop_next (s' := ((i + 1 : Nat) : Int))]
    ·have := comes_loop a b ha n (i + 1) m (by omega) (by omega) (by omega)
     simp only [cm, e, if_true]
     exact this
    ·unfold haulagelaw10_comes.b2 haulagelaw10_comes.j1
     rw [if_pos (by omega), if_pos (by simp; omega), if_pos (by omega), if_pos (by omega), rd_eq hi, rd_eq c, if_pos e, wrS i (by omega)]
   ·refine ⟨Sum.inr (decide (a[i] < b[i])), loop_done ?_, ?_⟩
    ·unfold haulagelaw10_comes.b2 haulagelaw10_comes.j1
     rw [if_pos (by omega), if_pos (by simp; omega), if_pos (by omega), if_pos (by omega), rd_eq hi, rd_eq c, if_neg e, if_pos (by omega), if_pos (by omega)]
    ·simp only [cm, if_neg e]
  ·refine ⟨Sum.inl (), loop_done ?_, ?_⟩
   ·unfold haulagelaw10_comes.b2 haulagelaw10_comes.j1
    rw [if_pos (by omega), if_neg (by simp; omega)]
   ·show haulagelaw10_comes.j3 a b = _
    unfold haulagelaw10_comes.j3
    rw [List.drop_of_length_le (show b.length ≤ i by omega)]
    congr 1
    rw [decide_eq_false (by omega)]; rfl
theorem comes_eq {k : Nat} (hk : Fuel k) (a b : List Int) (ha : a.length < 4000000) : haulagelaw10_comes.f k a b = some (cm a b) := by
 have h24 : 1099511627776 ≤ k := hk
 obtain ⟨x, e, h⟩ := comes_loop a b ha a.length 0 k (by omega) (by omega) (Nat.zero_le _)
 unfold haulagelaw10_comes.f
 rw [show (0 : Int) = ((0 : Nat) : Int) from rfl, bind_eq e]
 rw [List.drop_zero, List.drop_zero] at h
 cases x <;> exact h
theorem same_loop (a b : List Int) (hl : a.length = b.length) : ∀ (n i m : Nat), i + n = a.length → n < m → a.length < 4000000000 →
  loop (fun (s_ : Int) => haulagelaw10_same.b1 a b s_) m (i : Int) = some (if a.drop i = b.drop i then Sum.inl () else Sum.inr false)
 | _, _, 0, _, h, _ => absurd h (by omega)
 | 0, i, m + 1, h, _, _ => by
  refine loop_done ?_
  unfold haulagelaw10_same.b1
  rw [if_neg (by omega), if_pos]
  rw [List.drop_of_length_le (by omega), List.drop_of_length_le (by omega)]
 | n + 1, i, m + 1, h, hm, hb => by
  have hi : i < a.length := by omega
  have hj : i < b.length := by omega
  rw [List.drop_eq_getElem_cons hi, List.drop_eq_getElem_cons hj]
  by_cases c : a[i] = b[i]
  ·rw [loop_next (s' := ((i + 1 : Nat) : Int)), same_loop a b hl n (i + 1) m (by omega) (by omega) hb]
   ·simp only [c, List.cons.injEq, true_and]
   ·unfold haulagelaw10_same.b1
    rw [if_pos (by omega), if_pos (by omega), if_pos (by omega), rd_eq hi, rd_eq hj, if_pos c, wrS i (by omega)]
  ·rw [if_neg (by simp only [List.cons.injEq, c, false_and, not_false_eq_true])]
   refine loop_done ?_
   unfold haulagelaw10_same.b1
   rw [if_pos (by omega), if_pos (by omega), if_pos (by omega), rd_eq hi, rd_eq hj, if_neg c]
theorem same_eq {k : Nat} (hk : Fuel k) (a b : List Int) (h : a.length < 4000000000 ∨ b.length < 4000000000) : haulagelaw10_same.f k a b = some (decide (a = b)) := by
 have h24 : 1099511627776 ≤ k := hk
 unfold haulagelaw10_same.f
 by_cases c : a.length = b.length
 ·rw [if_pos (by omega), show (0 : Int) = ((0 : Nat) : Int) from rfl, bind_eq (same_loop a b c a.length 0 k (by omega) (by omega) (by omega))]
  simp only [List.drop_zero]
  by_cases e : a = b
  ·simp [e, haulagelaw10_same.j2]
  ·simp [e]
 ·rw [if_neg (by omega), decide_eq_false (fun e => c (by rw [e]))]
theorem cm_irr : ∀ a : List Int, cm a a = false
 | [] => rfl
 | a :: x => by simp only [cm, if_true]; exact cm_irr x
theorem cm_tr : ∀ {a b c : List Int}, cm a b = true → cm b c = true → cm a c = true
 | [], [], _, h, _ => by cases h
 | [], _ :: _, [], _, h => by simp [cm] at h
 | [], _ :: _, _ :: _, _, _ => rfl
 | _ :: _, [], _, h, _ => by simp [cm] at h
 | _ :: _, _ :: _, [], _, h => by simp [cm] at h
 | a :: x, b :: y, c :: z, h1, h2 => by
  simp only [cm] at h1 h2 ⊢
  by_cases e1 : a = b
  ·subst e1
   rw [if_pos rfl] at h1
   by_cases e2 : a = c
   ·subst e2
    rw [if_pos rfl] at h2 ⊢
    exact cm_tr h1 h2
   ·rw [if_neg e2] at h2 ⊢; exact h2
  ·rw [if_neg e1] at h1
   by_cases e2 : b = c
   ·subst e2; rw [if_neg e1]; exact h1
   ·rw [if_neg e2] at h2
    simp only [decide_eq_true_eq] at h1 h2
    rw [if_neg (by omega)]
    simp only [decide_eq_true_eq]; omega
theorem cm_tri : ∀ {a b : List Int}, cm a b = false → cm b a = false → a = b
 | [], [], _, _ => rfl
 | [], _ :: _, h, _ => by simp [cm] at h
 | _ :: _, [], _, h => by simp [cm] at h
 | a :: x, b :: y, h1, h2 => by
  simp only [cm] at h1 h2
  by_cases e : a = b
  ·subst e
   rw [if_pos rfl] at h1 h2
   rw [cm_tri h1 h2]
  ·rw [if_neg e] at h1
   rw [if_neg (fun q => e q.symm)] at h2
   simp only [decide_eq_false_iff_not] at h1 h2
   omega
theorem cm_asym {a b : List Int} (h : cm a b = true) : cm b a = false := by
 cases e : cm b a with
 | false => rfl
 | true => have := cm_tr h e; rw [cm_irr] at this; cases this
theorem cm_ntr {a b c : List Int} (h1 : cm a b = false) (h2 : cm b c = false) : cm a c = false := by
 cases e : cm a c with
 | false => rfl
 | true =>
  cases hb : cm b a with
  | true => rw [cm_tr hb e] at h2; cases h2
  | false => have := cm_tri h1 hb; subst this; rw [e] at h2; cases h2
theorem cm_ne {a b : List Int} (h : cm a b = true) : a ≠ b := by rintro rfl; rw [cm_irr] at h; cases h
theorem cm_first : ∀ (a b : List Int) (i : Nat) (ha : i < a.length) (hb : i < b.length), (∀ j (h1 : j < i), a[j] = b[j]) → a[i] ≠ b[i] → cm a b = decide (a[i] < b[i])
 | [], _, i, ha, _, _, _ => absurd ha (by simp)
 | _ :: _, [], i, _, hb, _, _ => absurd hb (by simp)
 | a :: x, b :: y, 0, _, _, _, h => by
  simp only [List.getElem_cons_zero] at h ⊢
  simp only [cm, if_neg h]
 | a :: x, b :: y, i + 1, ha, hb, h1, h => by
  have h0 := h1 0 (by omega)
  simp only [List.getElem_cons_zero] at h0
  simp only [List.getElem_cons_succ] at h ⊢
  simp only [cm, if_pos h0]
  exact cm_first x y i (by simpa using ha) (by simpa using hb) (fun j hj => by have := h1 (j + 1) (by omega); simpa using this) h
theorem cm_none : ∀ (a b : List Int), (∀ j (h1 : j < a.length) (h2 : j < b.length), a[j] = b[j]) → cm a b = decide (a.length < b.length) ∧ (a.length = b.length → a = b)
 | [], [], _ => ⟨rfl, fun _ => rfl⟩
 | [], _ :: _, _ => ⟨by simp [cm], fun h => by simp at h⟩
 | _ :: _, [], _ => ⟨by simp [cm], fun h => by simp at h⟩
 | a :: x, b :: y, h => by
  have h0 := h 0 (by simp) (by simp)
  simp only [List.getElem_cons_zero] at h0
  obtain ⟨h1, h2⟩ := cm_none x y (fun j a b => by have := h (j + 1) (by simpa using a) (by simpa using b); simpa using this)
  refine ⟨?_, fun e => ?_⟩
  ·simp only [cm, if_pos h0, h1, List.length_cons]
   exact decide_eq_decide.2 (by omega)
  ·rw [h0, h2 (by simpa using e)]
theorem bs_get {l : List Int} (h : brange l) {i : Nat} (hi : i < l.length) : (bs l)[i]! = UInt8.ofNat l[i].toNat := by
 have hs : (bs l).size = l.length := by simp [bs, ByteArray.size]
 rw [getElem!_pos (bs l) i (by omega)]
 show (bs l).data[i]'(by simp [bs]; omega) = _
 simp [bs]
theorem bs_size (l : List Int) : (bs l).size = l.length := by simp [bs, ByteArray.size]
theorem u8_lt {x y : Int} (hx : 0 ≤ x ∧ x ≤ 255) (hy : 0 ≤ y ∧ y ≤ 255) : (UInt8.ofNat x.toNat < UInt8.ofNat y.toNat) ↔ x < y := by
 rw [UInt8.lt_iff_toNat_lt]
 simp only [UInt8.toNat_ofNat']
 omega
theorem u8_eq {x y : Int} (hx : 0 ≤ x ∧ x ≤ 255) (hy : 0 ≤ y ∧ y ≤ 255) : (UInt8.ofNat x.toNat = UInt8.ofNat y.toNat) ↔ x = y := by
 rw [← UInt8.toNat_inj]
 simp only [UInt8.toNat_ofNat']
 omega
theorem cmp_eq {a b : List Int} (ha : brange a) (hb : brange b) : Extern.BytealgCompare.cmp (bs a) (bs b) = if cm a b = true then -1 else if a = b then 0 else 1 := by
 unfold Extern.BytealgCompare.cmp
 rw [bs_size, bs_size]
 have hA : ∀ i (h : i < a.length), 0 ≤ a[i] ∧ a[i] ≤ 255 := fun i h => ha _ (List.getElem_mem h)
 have hB : ∀ i (h : i < b.length), 0 ≤ b[i] ∧ b[i] ≤ 255 := fun i h => hb _ (List.getElem_mem h)
 have key : ∀ i, i < min a.length b.length → (((bs a)[i]! != (bs b)[i]!) = true ↔ ∃ (h1 : i < a.length) (h2 : i < b.length), a[i] ≠ b[i]) := by
  intro i hi
  rw [bs_get ha (by omega), bs_get hb (by omega)]
  simp only [bne_iff_ne, ne_eq]
  rw [u8_eq (hA i (by omega)) (hB i (by omega))]
  exact ⟨fun h => ⟨by omega, by omega, h⟩, fun ⟨_, _, h⟩ => h⟩
 cases hf : (List.range (min a.length b.length)).find? fun i => (bs a)[i]! != (bs b)[i]! with
 | some i =>
  rw [List.find?_range_eq_some] at hf
  obtain ⟨h1, h2, h3⟩ := hf
  have hi : i < min a.length b.length := by simpa using h2
  obtain ⟨g1, g2, g3⟩ := (key i hi).1 h1
  have hc := cm_first a b i g1 g2 (fun j hj => by
   have := h3 j hj
   have hj' : j < min a.length b.length := by omega
   have h4 : ¬ ((bs a)[j]! != (bs b)[j]!) = true := by simpa using this
   rw [key j hj'] at h4
   have h1 : j < a.length := by omega
   have h2 : j < b.length := by omega
   exact Decidable.byContradiction fun q => h4 ⟨h1, h2, q⟩) g3
  simp only
  rw [bs_get ha g1, bs_get hb g2]
  by_cases c : a[i] < b[i]
  ·rw [if_pos ((u8_lt (hA i g1) (hB i g2)).2 c), if_pos (by rw [hc]; simpa using c)]
  ·rw [if_neg (fun q => c ((u8_lt (hA i g1) (hB i g2)).1 q)), if_neg (by rw [hc]; simpa using c), if_neg (fun e => g3 (by subst e; rfl))]
 | none =>
  rw [List.find?_eq_none] at hf
  obtain ⟨h1, h2⟩ := cm_none a b (fun j g1 g2 => by
   have hj' : j < min a.length b.length := by omega
   have h4 := hf j (List.mem_range.2 hj')
   rw [key j hj'] at h4
   exact Decidable.byContradiction fun q => h4 ⟨g1, g2, q⟩)
  simp only
  rw [h1]
  rcases Nat.lt_trichotomy a.length b.length with c | c | c
  ·have n1 : ¬ b.length < a.length := by omega
   simp [c, n1]
  ·have e := h2 c
   subst e
   simp
  ·have n1 : ¬ a.length < b.length := by omega
   have ne : a ≠ b := fun q => by rw [q] at c; omega
   simp [c, n1, ne]
theorem byKey_eq {r s : api_Row} (h1 : brange r.Key) (h2 : brange s.Key) : merkle_byKey.f r s = some (if cm r.Key s.Key = true then -1 else if r.Key = s.Key then 0 else 1) := by
 unfold merkle_byKey.f bytes_Compare.f
 rw [Option.bind_some, cmp_eq h1 h2]
theorem sameRow_eq {k : Nat} (hk : Fuel k) (r s : api_Row) (h1 : r.Key.length < 4000000000) (h2 : r.Value.length < 4000000000) : haulagelaw10_sameRow.f k r s = some (decide (r = s)) := by
 unfold haulagelaw10_sameRow.f
 rw [bind_eq (same_eq hk _ _ (.inl h1))]
 obtain ⟨a, b, c⟩ := r
 obtain ⟨a', b', c'⟩ := s
 simp only [api_Row.mk.injEq]
 by_cases e1 : a = a'
 ·rw [if_pos (by simpa using e1), bind_eq (same_eq hk _ _ (.inl h2))]
  by_cases e2 : b = b'
  ·rw [if_pos (by simpa using e2)]; simp [e1, e2]
  ·rw [if_neg (by simpa using e2)]; simp [e2]
 ·rw [if_neg (by simpa using e1)]; simp [e1]
end Go.Proofs.Ytdnaoecfnjalgaa.G
namespace Go.Proofs.Ytdnaoecfnjalgaa.G
open Go
set_option linter.unusedVariables false
section
variable {α : Type} {key : α → List Int}
theorem insK_perm (r : α) : ∀ l : List α, (insK key r l).Perm (r :: l)
 | [] => .refl _
 | x :: l => by
  unfold insK
  split
  ·exact .refl _
  ·exact ((insK_perm r l).cons x).trans (List.Perm.swap r x l)
theorem srtK_perm : ∀ l : List α, (srtK key l).Perm l
 | [] => .refl _
 | x :: l => (insK_perm x (srtK key l)).trans ((srtK_perm l).cons x)
def SrtK (key : α → List Int) (l : List α) : Prop := l.Pairwise fun a b => cm (key a) (key b) = true
theorem insK_srt (r : α) : ∀ l : List α, SrtK key l → (∀ x ∈ l, key x ≠ key r) → SrtK key (insK key r l)
 | [], _, _ => by simp [insK, SrtK]
 | x :: l, h, hn => by
  unfold insK
  obtain ⟨h1, h2⟩ := List.pairwise_cons.1 h
  split
  ·rename_i c
   refine List.pairwise_cons.2 ⟨fun y hy => ?_, h⟩
   rcases List.mem_cons.1 hy with rfl | hy
   ·exact c
   ·exact cm_tr c (h1 y hy)
  ·rename_i c
   refine List.pairwise_cons.2 ⟨fun y hy => ?_, insK_srt r l h2 fun z hz => hn z (List.mem_cons_of_mem _ hz)⟩
   have hc : cm (key x) (key r) = true := by
    cases e : cm (key x) (key r) with
    | true => rfl
    | false => exact absurd (cm_tri e (by simpa using c)) (hn x (List.mem_cons_self ..))
   rcases List.mem_cons.1 ((insK_perm r l).mem_iff.1 hy) with rfl | hy
   ·exact hc
   ·exact h1 y hy
theorem srtK_srt : ∀ l : List α, (l.map key).Nodup → SrtK key (srtK key l)
 | [], _ => .nil
 | x :: l, h => by
  rw [List.map_cons, List.nodup_cons] at h
  exact insK_srt x _ (srtK_srt l h.2) fun y hy e => h.1 (List.mem_map.2 ⟨y, (srtK_perm l).mem_iff.1 hy, e⟩)
theorem srt_uniq : ∀ {l l' : List α}, SrtK key l → SrtK key l' → l.Perm l' → l = l'
 | [], l', _, _, h => (List.nil_perm.1 h).symm
 | a :: t, [], _, _, h => absurd h.symm (by intro q; exact absurd (List.nil_perm.1 q) (by simp))
 | a :: t, b :: t', h1, h2, h => by
  obtain ⟨g1, g2⟩ := List.pairwise_cons.1 h1
  obtain ⟨k1, k2⟩ := List.pairwise_cons.1 h2
  have e : a = b := by
   rcases List.mem_cons.1 (h.mem_iff.1 (List.mem_cons_self ..)) with e | e
   ·exact e
   ·rcases List.mem_cons.1 (h.mem_iff.2 (List.mem_cons_self ..)) with e2 | e2
    ·exact e2.symm
    ·have := cm_asym (k1 a e); rw [g1 b e2] at this; cases this
  subst e
  rw [srt_uniq g2 k2 (h.cons_inv)]
theorem srtK_eq {l ys : List α} (hn : (l.map key).Nodup) (hp : ys.Perm l) (hs : SrtK key ys) : ys = srtK key l :=
 srt_uniq hs (srtK_srt l hn) (hp.trans (srtK_perm l).symm)
end
end Go.Proofs.Ytdnaoecfnjalgaa.G
namespace Go.Proofs.Ytdnaoecfnjalgaa.G
open Go Go.RowKit Go.Shelf Go.Sort Go.Lib
set_option linter.unusedVariables false
set_option linter.unusedSimpArgs false
theorem r_box_Row {P : Program} {a : Act} {N : Nat} {L : List (Nat × Value)} {D : List Deferred} {w : World} {x : Operand} {v : Value} {d : Option Tmp} {e ty : TypeId} {pos : String} {af : Array Edge} {gd : Option (Nat × Bool)} (F : Fr a N L D) (hx : ev L x = some v) :
  (execOp a.eval { dst := d, op := .box e x, type := ty, pos := pos, after := af, guard := gd }).run P w = .ok (.value (.pointer (some ⟨w.heap.size, 0, none⟩))) (w.alloc (.cells v.cells e (0, 0))) := by
 simp [execOp, Instr.box, F.ev hx, newVar, newRow]
theorem compare_exact_Row {c : Nat → Nat} {w0 : World} {j1 j4 : Nat} {A2 A5 : Option Addr} {C3 C6 : Nat} {a1 a4 : List Int} (h1 : SL false (Kint .u8) j1 0 c w0 A2 C3 a1) (h4 : SL false (Kint .u8) j4 0 c w0 A5 C6 a4) :
  Calls Try.prog 55 #[.slice A2 a1.length C3, .slice A5 a4.length C6] w0 (fun e w_ => e = .returned (.int .i64 (Extern.BytealgCompare.cmp (bs a1) (bs a4))) ∧ w_ = w0) := by
 refine enter (N := 8) (l := [.slice A2 a1.length C3, .slice A5 a4.length C6]) Try.func55 rfl rfl (Nat.le_of_ble_eq_true rfl) fun a F => ?_
 refine wp_seq_k fun K5 hK5 => reg ?_
 refine q_val F rfl rfl (by decide) (r_assign F rfl) fun a F => nil ?_
 refine hK5 _ _ ?_
 refine wp_seq_k fun K6 hK6 => reg ?_
 refine q_val F rfl rfl (by decide) (r_move F rfl) fun a F => ?_
 refine q_val F rfl rfl (by decide) (r_move F rfl) fun a F => ?_
 refine q_val F rfl rfl (by decide) (r_extern F Try.func75 (by kernel_rfl) (by kernel_rfl) (by kernel_rfl) (e := Extern.BytealgCompare.compare) (by kernel_rfl) rfl (run_compare h1 h4)) fun a F => ?_
 refine q_val F rfl rfl (by decide) (r_assign F rfl) fun a F => nil ?_
 refine hK6 _ _ ?_
 refine wp_ret ?_
 refine out1 F rfl rfl ?_
 exact ⟨rfl, rfl⟩
set_option maxHeartbeats 1000000 in
theorem closure_Row {c : Nat → Nat} {W : World} {A1 A2 : Option Addr} {C1 C2 : Nat} {k1 k2 : List Int} {u1 u2 v1 v2 : Value} (h1 : SL false (Kint .u8) 0 0 c W A1 C1 k1) (h2 : SL false (Kint .u8) 0 0 c W A2 C2 k2) :
  Calls Try.prog 40 #[.agg #[.slice A1 k1.length C1, u1, u2], .agg #[.slice A2 k2.length C2, v1, v2]] W fun e w' => e = .returned (.int .i64 (Extern.BytealgCompare.cmp (bs k1) (bs k2))) ∧ ∃ q os', w' = grow (W.drewN q) os' := by
 refine enter (N := 10) (l := [.agg #[.slice A1 k1.length C1, u1, u2], .agg #[.slice A2 k2.length C2, v1, v2]]) Try.func40 rfl rfl (Nat.le_of_ble_eq_true rfl) fun a F => ?_
 refine wp_seq_k fun K1 hK1 => reg ?_
 obtain ⟨E1, g1, _⟩ := alloc_new (M := No) c W (Value.agg #[.slice A1 k1.length C1, u1, u2]).cells 36 (0, 0) 1 true (fun _ k _ => by simp)
 refine q_val F rfl rfl (by decide) (r_box_Row F rfl) fun a F => ?_
 have h1 := h1.ev E1 (fun q => q) (fun q => q)
 have h2 := h2.ev E1 (fun q => q) (fun q => q)
 obtain ⟨W1, hW1⟩ : ∃ w, w = W.alloc (.cells (Value.agg #[.slice A1 k1.length C1, u1, u2]).cells 36 (0, 0)) := ⟨_, rfl⟩
 rw [← hW1] at h1 h2 E1 g1 ⊢
 obtain ⟨E2, g2, _⟩ := alloc_new (M := No) (cset c W.heap.size 1) W1 (Value.agg #[.slice A2 k2.length C2, v1, v2]).cells 36 (0, 0) 1 true (fun _ k _ => by simp)
 refine q_val F rfl rfl (by decide) (r_box_Row F rfl) fun a F => ?_
 have h1 := h1.ev E2 (fun q => q) (fun q => q)
 have h2 := h2.ev E2 (fun q => q) (fun q => q)
 have g1 := g1.ev E2 (fun q => q)
 refine q_val F rfl rfl (by decide) (r_assign F rfl) fun a F => nil ?_
 refine hK1 _ _ ?_
 refine wp_seq_k fun K2 hK2 => reg ?_
 refine q_val F rfl rfl (by decide) (r_fieldAddr F rfl ff_36_0) fun a F => ?_
 refine q_val F rfl rfl (by decide) (r_load (v := .slice A1 k1.length C1) F rfl ag_23 (AT.cell g1 rfl)) fun a F => ?_
 refine q_val F rfl rfl (by decide) (r_fieldAddr F rfl ff_36_0) fun a F => ?_
 refine q_val F rfl rfl (by decide) (r_load (v := .slice A2 k2.length C2) F rfl ag_23 (AT.cell g2 rfl)) fun a F => ?_
 refine q_call F rfl rfl (by decide) (r_call F Try.func55 rfl (by kernel_rfl) rfl) (compare_exact_Row h1 h2) ?_
 rintro e w ⟨rfl, rfl⟩
 refine ⟨_, rfl, fun a F => ?_⟩
 refine q_val F rfl rfl (by decide) (r_assign F rfl) fun a F => nil ?_
 refine hK2 _ _ ?_
 refine wp_ret ?_
 refine out1 F rfl rfl ?_
 refine ⟨rfl, 0, #[.cells (Value.agg #[.slice A1 k1.length C1, u1, u2]).cells 36 (0, 0), .cells (Value.agg #[.slice A2 k2.length C2, v1, v2]).cells 36 (0, 0)], ?_⟩
 rw [hW1, alloc_eq_grow, alloc_eq_grow, grow_grow]
 rfl
theorem sub_block_Row {cs : List Value} {n sz : Nat} {q : Nat} (hq : q < sz) (u : List Value) (h : (cs.drop (n * sz)).take sz = u) : cs[n * sz + q]? = u[q]? := by
 rw [← h, List.getElem?_take_of_lt hq, List.getElem?_drop]
set_option maxHeartbeats 2000000 in
theorem sort_keyed_Row {m : Nat} {c0 : Nat → Nat} {w0 : World} {j1 : Nat} {A2 : Option Addr} {C3 : Nat} {xs : List api_Row} (B0 : CB m c0 w0) (h4 : SL true K_api_Row j1 0 c0 w0 A2 C3 xs) (bj1 : 0 < j1 ∧ j1 < m) (hs : xs.length < 4611686018427387904) (hb : ∀ x ∈ xs, brange x.Key) (hn : (xs.map (·.Key)).Nodup) :
  Calls Try.prog 45 #[.slice A2 xs.length C3, .func (.func 40) #[] #[]] w0 (fun e w_ => ∃ (c_ : Nat → Nat) (ys : List api_Row), e = .returned (.tuple #[]) ∧ Ev (fun x => x = j1) c0 w0 c_ w_ ∧ CB m c_ w_ ∧ SL true K_api_Row j1 0 c_ w_ A2 C3 ys ∧ ys.Perm xs ∧ SrtK (·.Key) ys) := by
 by_cases hnil : xs = []
 ·subst hnil
  refine (AnyF.slices_SortFunc_none Try.sortRows A2 C3 _ w0).mono ?_
  rintro e w' ⟨rfl, rfl⟩
  exact ⟨c0, [], rfl, Ev.refl, B0, h4, List.Perm.refl _, .nil⟩
 obtain ⟨l, hl⟩ : ∃ l, xs.length = l + 1 := ⟨xs.length - 1, by have := List.length_pos_iff.2 hnil; omega⟩
 obtain ⟨cs, h2, h3, hcl, hrow, hr⟩ := h4
 have hcl : cs.length = C3 * 3 := hcl
 rcases hrow with rfl | ⟨p, rfl, hat⟩
 ·simp at hcl; omega
 let en : Fin (l + 1) → List Value := fun k => (cs.drop (k.val * 3)).take 3
 let at_ : Fin (l + 1) → api_Row := fun k => xs.getD k.val default
 have hrep : ∀ k : Fin (l + 1), K_api_Row.rep 0 c0 w0 (en k) (at_ k) := fun k => by
  have hk : k.val < xs.length := by have := k.isLt; omega
  have e : at_ k = xs[k.val] := by show xs.getD k.val default = _; rw [List.getD_eq_getElem?_getD, List.getElem?_eq_getElem hk]; rfl
  rw [e]
  exact hr k.val hk
 have hin : ∀ k, brange (at_ k).Key := fun k => by
  have hk : k.val < xs.length := by have := k.isLt; omega
  refine hb _ ?_
  show xs.getD k.val default ∈ xs
  rw [List.getD_eq_getElem?_getD, List.getElem?_eq_getElem hk]
  exact List.getElem_mem _
 have hk3 : ∀ k, (en k).length = 3 := fun k => K_api_Row.len (hrep k)
 have h1 : ∀ k, ∀ v ∈ en k, v.oneCell' = true := fun k v hv => K_api_Row.one (hrep k) v hv
 let cf : Fin (l + 1) → Fin (l + 1) → Int := fun x y => Extern.BytealgCompare.cmp (bs (at_ x).Key) (bs (at_ y).Key)
 have hlt : ∀ x y, ltOf cf x y = cm (at_ x).Key (at_ y).Key := fun x y => by
  show decide (Extern.BytealgCompare.cmp (bs (at_ x).Key) (bs (at_ y).Key) < 0) = _
  rw [cmp_eq (hin x) (hin y)]
  cases hc : cm (at_ x).Key (at_ y).Key with
  | true => rw [if_pos rfl]; rfl
  | false => rw [if_neg (by simp)]; split <;> rfl
 have swo : SWO (ltOf cf) := {
  irrefl := fun x => by rw [hlt]; exact cm_irr _
  trans := fun x y z h1 h2 => by rw [hlt] at *; exact cm_tr h1 h2
  ntrans := fun x y z h1 h2 => by rw [hlt] at *; exact cm_ntr h1 h2 }
 have tot : ∀ x y, ltOf cf x y = false → ltOf cf y x = false → x = y := fun x y g1 g2 => by
  rw [hlt] at g1 g2
  have hx : x.val < xs.length := by have := x.isLt; omega
  have hy : y.val < xs.length := by have := y.isLt; omega
  have ex : at_ x = xs[x.val] := by show xs.getD x.val default = _; rw [List.getD_eq_getElem?_getD, List.getElem?_eq_getElem hx]; rfl
  have ey : at_ y = xs[y.val] := by show xs.getD y.val default = _; rw [List.getD_eq_getElem?_getD, List.getElem?_eq_getElem hy]; rfl
  rw [ex, ey] at g1 g2
  have e : (xs.map (·.Key))[x.val]'(by simpa using hx) = (xs.map (·.Key))[y.val]'(by simpa using hy) := by rw [List.getElem_map, List.getElem_map]; exact cm_tri g1 g2
  exact Fin.ext ((List.getElem_inj hn).1 e)
 let d : Array (Fin (l + 1)) := (List.finRange (l + 1)).toArray
 have hd : d.size = l + 1 := by simp [d]
 have hdk : ∀ k (h : k < d.size), d[k]! = ⟨k, by omega⟩ := fun k h => by
  rw [getElem!_pos d k h]; simp [d]
 have hat' := hat
 obtain ⟨b, off, cur, ty, fz, rfl, hbk, hc, hcells, hfree⟩ := hat
 have hlt0 := lt_of_get hbk
 have hlen4 : xs.length * 3 ≤ cs.length := by rw [hcl]; exact Nat.mul_le_mul_right _ h2
 have flat : ∀ t, t < (l + 1) * 3 → (flatK en 3 d)[t]! = cs.getD t undef := fun t ht => by
  rw [get_flatK _ _ _ _ (by rw [hd]; exact ht), hdk _ (by rw [hd]; omega)]
  show ((cs.drop (t / 3 * 3)).take 3)[t % 3]! = _
  have e := sub_block_Row (cs := cs) (n := t / 3) (sz := 3) (q := t % 3) (Nat.mod_lt _ (by decide)) _ rfl
  have e3 : t / 3 * 3 + t % 3 = t := Nat.div_add_mod' t 3
  rw [e3] at e
  rw [List.getD_eq_getElem?_getD, e, List.getElem?_eq_getElem (by simp; omega), getElem!_pos]
  rfl
 have hH : HoldsK en 3 w0 b off d := fun t ht => by
  have ht' : t < (l + 1) * 3 := by rw [size_flatK, hd] at ht; exact ht
  rw [flat t ht']
  refine ⟨?_, ?_⟩
  ·rw [← add_eq, hat'.cell (List.getElem?_eq_getElem (by omega))]
   rw [List.getD_eq_getElem?_getD, List.getElem?_eq_getElem (by omega)]
   rfl
  ·rw [← add_eq]; exact hat'.free (by omega)
 have eg : ∀ args w, (callFunc 40 args).run Try.prog w = .ok (.enter 40 args) w := enters_of Try.func40 (by kernel_rfl) rfl
 have old : ∀ n (τ : Array (Fin (l + 1))) os k, k < w0.heap.size → b ≠ k → (sortWorldK en 3 w0 b off n τ os).heap[k]? = w0.heap[k]? := fun n τ os k hk hne => by
  unfold sortWorldK
  rw [heap_grow_old _ _ (by simpa [putRowK, putRow, mapBlock, Sort.ahead] using hk)]
  simp [putRowK, putRow, mapBlock, Sort.ahead, Array.getElem?_modify, hne]
 have hE : ∀ n (τ : Array (Fin (l + 1))) os, Ev (fun x => x = j1) c0 w0 (fun k => if k < w0.heap.size then c0 k else j1) (sortWorldK en 3 w0 b off n τ os) := fun n τ os => ⟨rfl, rfl, rfl, by simp [sortWorldK, grow, putRowK, putRow, mapBlock, Sort.ahead], fun k hk => if_pos hk, fun k hk hm => old n τ os k hk (fun q => hm (by rw [← q]; exact hc))⟩
 have hcmp : CmpLays Try.prog 40 #[] en 3 cf b off d.size w0 := fun mm os dk _ x y => by
  have gx := hrep x
  have gy := hrep y
  obtain ⟨A1, C1, A1', C1', e1, f1, _⟩ := gx
  obtain ⟨A2, C2, A2', C2', e2, f2, _⟩ := gy
  rw [e1, e2]
  exact closure_Row (f1.ev (hE mm dk os) (by omega) (by omega)) (f2.ev (hE mm dk os) (by omega) (by omega))
 have hcall := AnyQ.slices_SortFunc_total Try.sortRows 3 Try.isAgg36 Try.sizeOf36 en hk3 h1 cf swo 40 #[] b off C3 d w0 eg hcmp hH hlt0 (by rw [hd]; omega) tot
 rw [hl, ← hd]
 change Calls Try.prog 45 #[.slice (some ⟨b, off, none⟩) d.size C3, .func (.func 40) #[] #[]] w0 _ at hcall
 refine hcall.mono ?_
 rintro e w' ⟨rfl, n, os, rfl⟩
 generalize hσ : (d.toList.mergeSort fun x y => !ltOf cf y x) = σ
 have hperm : σ.Perm (List.finRange (l + 1)) := by rw [← hσ]; exact List.mergeSort_perm _ _
 have hsl : σ.length = l + 1 := by rw [hperm.length_eq]; simp
 have hfs : (flatK en 3 σ.toArray).size = (l + 1) * 3 := by rw [size_flatK]; simp [hsl]
 have new : (sortWorldK en 3 w0 b off n σ.toArray os).heap[b]? = some (.cells (putCells id off (flatK en 3 σ.toArray) cur) ty fz) := by
  unfold sortWorldK
  rw [heap_grow_old _ _ (by simpa [putRowK, putRow, mapBlock, Sort.ahead] using hlt0)]
  simp [putRowK, putRow, mapBlock, Sort.ahead, Array.getElem?_modify, hbk, onCells]
 refine ⟨_, σ.map at_, rfl, hE n _ os, fun k _ => ?_, ?_, ?_, ?_⟩
 ·show (if k < w0.heap.size then c0 k else j1) < m
  split
  ·exact B0 k (by assumption)
  ·exact bj1.2
 ·have hcur : ∀ t, t < C3 * 3 → off + t < cur.size := fun t ht => by
   have := hcells t (by omega)
   rw [List.getElem?_eq_getElem (by omega)] at this
   exact (Array.getElem?_eq_some_iff.1 this).1
  refine ⟨(flatK en 3 σ.toArray).toList ++ cs.drop ((l + 1) * 3), by simp [hsl]; omega, h3, by simp only [List.length_append, Array.length_toList, hfs, List.length_drop]; show _ = C3 * 3; omega, .inr ⟨_, rfl, b, off, _, ty, fz, rfl, new, by show (if b < w0.heap.size then c0 b else j1) = j1; rw [if_pos hlt0]; exact hc, fun k hk => ?_, fun q k hk => hfree q k (by simp only [List.length_append, Array.length_toList, hfs, List.length_drop] at hk; omega)⟩, fun k hk => ?_⟩
  ·simp only [List.length_append, Array.length_toList, hfs, List.length_drop] at hk
   simp only [putCells, Array.getElem?_mapIdx]
   have hck := hcur k (by omega)
   rw [Array.getElem?_eq_getElem hck]
   simp only [Option.map_some, hfs]
   by_cases cc : k < (l + 1) * 3
   ·rw [if_pos (by omega), List.getElem?_append_left (by rw [Array.length_toList, hfs]; exact cc)]
    have e : off + k - off = k := by omega
    rw [e, Array.getElem?_toList, Array.getElem?_eq_getElem (by rw [hfs]; exact cc), getElem!_pos _ k (by rw [hfs]; exact cc)]
    rfl
   ·rw [if_neg (by omega), List.getElem?_append_right (by rw [Array.length_toList, hfs]; omega), List.getElem?_drop, Array.length_toList, hfs]
    have e : (l + 1) * 3 + (k - (l + 1) * 3) = k := by omega
    rw [e, ← hcells k (by omega), Array.getElem?_eq_getElem hck]
  ·have hk' : k < σ.length := by simpa using hk
   show K_api_Row.rep 0 _ _ ((((flatK en 3 σ.toArray).toList ++ cs.drop ((l + 1) * 3)).drop (k * 3)).take 3) (σ.map at_)[k]
   have hle : (k + 1) * 3 ≤ (l + 1) * 3 := Nat.mul_le_mul_right _ (by omega)
   have e1 : (((flatK en 3 σ.toArray).toList ++ cs.drop ((l + 1) * 3)).drop (k * 3)).take 3 = en σ[k] := by
    apply List.ext_getElem?
    intro q
    by_cases hq : q < 3
    ·rw [List.getElem?_take_of_lt hq, List.getElem?_drop, List.getElem?_append_left (by rw [Array.length_toList, hfs]; omega), Array.getElem?_toList, Array.getElem?_eq_getElem (by rw [hfs]; omega)]
     have e2 := get_flatK en 3 σ.toArray (k * 3 + q) (by simp [hsl]; omega)
     rw [getElem!_pos _ _ (by rw [hfs]; omega)] at e2
     rw [e2]
     have e3 : (k * 3 + q) / 3 = k := by omega
     have e4 : (k * 3 + q) % 3 = q := by omega
     rw [e3, e4]
     have e5 : σ.toArray[k]! = σ[k] := by rw [getElem!_pos _ k (by simpa using hk')]; simp
     rw [e5, getElem!_pos _ q (by rw [hk3]; exact hq), List.getElem?_eq_getElem (by rw [hk3]; exact hq)]
    ·rw [List.getElem?_eq_none (by simp; omega), List.getElem?_eq_none (by rw [hk3]; omega)]
   rw [e1, List.getElem_map]
   exact K_api_Row.ev (hrep σ[k]) (hE n _ os) (by omega)
 ·have e1 : xs = (List.finRange (l + 1)).map at_ := by
   apply List.ext_getElem
   ·simp [hl]
   ·intro k a b
    simp only [List.getElem_map, List.getElem_finRange]
    show _ = xs.getD k default
    rw [List.getD_eq_getElem?_getD, List.getElem?_eq_getElem a]
    rfl
  have := hperm.map at_
  rw [← e1] at this
  exact this
 ·unfold SrtK
  rw [List.pairwise_map]
  have hsrt : σ.Pairwise (fun x y => (!ltOf cf y x) = true) := by
   rw [← hσ]
   exact List.pairwise_mergeSort (le := fun x y => !ltOf cf y x) (fun a b c g1 g2 => by
    rw [hlt] at *
    simp only [Bool.not_eq_true'] at *
    exact cm_ntr g2 g1) (fun a b => by
    rw [hlt, hlt]
    cases h : cm (at_ b).Key (at_ a).Key with
    | false => rfl
    | true => rw [cm_asym h]; rfl) _
  have hnd : σ.Nodup := hperm.nodup_iff.2 (List.nodup_finRange _)
  refine (List.Pairwise.and hsrt hnd).imp fun {x y} hxy => ?_
  obtain ⟨g1, g2⟩ := hxy
  have g3 : ltOf cf y x = false := by simpa using g1
  cases hq : ltOf cf x y with
  | true => rw [hlt] at hq; exact hq
  | false => exact absurd (tot x y hq g3) g2
theorem slices_SortRow.calls {m : Nat} {c0 : Nat → Nat} {w0 : World} {j1 : Nat} {A2 : Option Addr} {C3 : Nat} {a1 : List api_Row} (hm0 : 0 < m) (B0 : CB m c0 w0) (h4 : SL true K_api_Row j1 0 c0 w0 A2 C3 a1) (bj1 : 0 < j1 ∧ j1 < m) (r : List api_Row) (H : slices_SortRow.f a1 = some r) :
  Calls Try.prog 45 #[.slice A2 a1.length C3, .func (.func 40) #[] #[]] w0 (fun e w_ => ∃ (c_ : Nat → Nat), e = .returned (.tuple #[]) ∧ Ev (fun x => x = j1) c0 w0 c_ w_ ∧ CB m c_ w_ ∧ SL true K_api_Row j1 0 c_ w_ A2 C3 r ∧ r.length = a1.length) := by
 unfold slices_SortRow.f at H
 obtain ⟨⟨g0, g1, g2⟩, H⟩ := ifN H
 have H := Option.some.inj H
 refine (sort_keyed_Row B0 h4 bj1 g2 (fun x hx n hn => g0 x hx n hn) g1).mono ?_
 rintro e w' ⟨c_, ys, rfl, E, B, h, hp, hs⟩
 have := srtK_eq g1 hp hs
 rw [H] at this
 subst this
 exact ⟨c_, rfl, E, B, h, hp.length_eq⟩
end Go.Proofs.Ytdnaoecfnjalgaa.G
namespace Go.Proofs.Ytdnaoecfnjalgaa.G
open Go Go.RowKit
set_option linter.unusedVariables false
set_option linter.unusedSimpArgs false
set_option maxHeartbeats 1000000 in
theorem slices_GrowRow.calls {m : Nat} {c0 : Nat → Nat} {w0 : World} {n : Int} (hm0 : 0 < m) (B0 : CB m c0 w0) (h1 : SL false K_api_Row 0 0 c0 w0 none 0 ([] : List api_Row)) (jr : Nat) (bjr : jr < m) (r : List api_Row) (H : slices_GrowRow.f [] n = some r) :
  Calls Try.prog 65 #[.slice none 0 0, .int .i64 n] w0 (fun e w_ => ∃ (c_ : Nat → Nat) (A0_ : Option Addr) (C0_ : Nat), e = .returned (.slice A0_ r.length C0_) ∧ Ev (fun x => False) c0 w0 c_ w_ ∧ CB m c_ w_ ∧ SL true K_api_Row jr 0 c_ w_ A0_ C0_ r) := by
 unfold slices_GrowRow.f at H
 obtain ⟨⟨g0, g1, _⟩, H⟩ := ifN H
 have H := Option.some.inj H
 subst H
 have B := B0.mono (show m ≤ m + 2 by omega)
 have E : Ev (fun x => False ∨ m ≤ x) c0 w0 c0 w0 := Ev.refl
 refine enter (N := 27) (l := [.slice none 0 0, .int .i64 n]) Try.func65 rfl rfl (Nat.le_of_ble_eq_true rfl) fun a F => ?_
 refine wp_seq_k fun K1 hK1 => ?_
 refine reg ?_
 refine q_val F rfl rfl (by decide) (r_assign F rfl) fun a F => ?_
 refine nil ?_
 refine hK1 _ _ ?_
 refine wp_seq_k fun K2 hK2 => ?_
 refine wp_seq_k fun K3 hK3 => ?_
 refine reg ?_
 refine q_val F rfl rfl (by decide) (r_move F rfl) fun a F => ?_
 refine q_val F rfl rfl (by decide) (r_lss F rfl rfl) fun a F => ?_
 refine nil ?_
 refine hK3 _ _ ?_
 refine wp_cond_false ((F.ev rfl).trans (congrArg Value.bool (decide_eq_false (by omega)))) ?_
 refine wp_skip ?_
 refine hK2 _ _ ?_
 refine wp_seq_k fun K5 hK5 => ?_
 refine wp_seq_k fun K4 hK4 => ?_
 refine reg ?_
 refine q_val F rfl rfl (by decide) (r_move F rfl) fun a F => ?_
 refine q_val F rfl rfl (by decide) (r_move F rfl) fun a F => ?_
 refine q_val F rfl rfl (by decide) (r_capsl F Try.underlying27 rfl) fun a F => ?_
 refine q_val F rfl rfl (by decide) (r_move F rfl) fun a F => ?_
 refine q_val F rfl rfl (by decide) (r_lensl F Try.underlying27 rfl) fun a F => ?_
 refine q_val F rfl rfl (by decide) (r_sub F rfl rfl) fun a F => ?_
 refine q_val F rfl rfl (by decide) (r_sub F rfl rfl) fun a F => ?_
 have hw : IntKind.i64.wrap (n - IntKind.i64.wrap (((0 : Nat) : Int) - ((0 : Nat) : Int))) = n := by simp only [IntKind.wrap_i64]; omega
 rw [hw] at F
 refine q_val F rfl rfl (by decide) (r_assign F rfl) fun a F => ?_
 refine nil ?_
 refine hK4 _ _ ?_
 refine wp_seq_k fun K6 hK6 => ?_
 refine reg ?_
 refine q_val F rfl rfl (by decide) (r_move F rfl) fun a F => ?_
 refine q_val F rfl rfl (by decide) (r_gtr F rfl rfl) fun a F => ?_
 refine nil ?_
 refine hK6 _ _ ?_
 by_cases hn : 0 < n
 ·refine wp_cond_true ((F.ev rfl).trans (congrArg Value.bool (decide_eq_true hn))) ?_
  obtain ⟨k, rfl⟩ := Int.eq_ofNat_of_zero_le g0
  refine reg ?_
  refine q_val F rfl rfl (by decide) (r_move F rfl) fun a F => ?_
  refine q_val F rfl rfl (by decide) (r_move F rfl) fun a F => ?_
  refine q_val F rfl rfl (by decide) (r_capsl F Try.underlying27 rfl) fun a F => ?_
  refine q_val F rfl rfl (by decide) (r_slice (A := none) (xs := ([] : List api_Row)) (cap := 0) (vl := none) (vh := some (.int .i64 ((0 : Nat) : Int))) (vm := none) F rfl rfl rfl rfl (v := .slice none 0 0) (fun w => by kernel_rfl)) fun a F => ?_
  refine q_val F rfl rfl (by decide) (r_move F rfl) fun a F => ?_
  refine q_eff F rfl rfl (by decide) (e_growz (k := K_api_Row) (x0 := api_Row.mk [] [] 0) (n := k) F et_27 Try.underlying3 rfl rfl (fun _ _ _ => ⟨none, 0, none, 0, rfl, SL.nil, SL.nil⟩) (by omega) (by omega) (by unfold maxLen; omega) c0 (m + 1) 0) ?_
  rintro v w1 a ⟨c1, A1, C1, rfl, E1, h2, B1⟩ F
  have B := B1 _ B (by omega)
  have E := E.trans E1 (fun x q => q.elim)
  refine q_val F rfl rfl (by decide) (r_move F rfl) fun a F => ?_
  refine q_val F rfl rfl (by decide) (r_lensl F Try.underlying27 rfl) fun a F => ?_
  obtain ⟨A2, C2, hr, h3⟩ := cut_h (kh := .i64) Try.underlying27 sz_36 h2 (h := ((0 : Nat) : Int)) ⟨by omega, by omega⟩
  refine q_val F rfl rfl (by decide) (r_slice (vl := none) (vh := some (.int .i64 ((0 : Nat) : Int))) (vm := none) F rfl rfl rfl rfl hr) fun a F => ?_
  refine q_val F rfl rfl (by decide) (r_assign F rfl) fun a F => ?_
  refine nil ?_
  refine hK5 _ _ ?_
  refine wp_seq_k fun K7 hK7 => ?_
  refine reg ?_
  refine q_val F rfl rfl (by decide) (r_move F rfl) fun a F => ?_
  refine q_val F rfl rfl (by decide) (r_assign F rfl) fun a F => ?_
  refine nil ?_
  refine hK7 _ _ ?_
  refine wp_ret ?_
  refine out1 F rfl rfl ?_
  exact ⟨fun b_ => (fun x_ => if x_ = m + 1 then jr else if x_ < m then x_ else 0) (c1 b_), A2, C2, rfl, E.leave B0 (fun x_ => if x_ = m + 1 then jr else if x_ < m then x_ else 0) (by intro x_ hx_; show (if x_ = m + 1 then jr else if x_ < m then x_ else 0) = x_; ((repeat' split) <;> omega)), (fun b_ hb_ => by show (if (c1 b_) = m + 1 then jr else if (c1 b_) < m then (c1 b_) else 0) < m; ((repeat' split) <;> omega)),
   SL.rc h3 (fun k_ hk_ => by show (if (c1 k_) = m + 1 then jr else if (c1 k_) < m then (c1 k_) else 0) = _; rw [hk_]; ((repeat' split) <;> omega)) (fun k_ hk_ => by show (if (c1 k_) = m + 1 then jr else if (c1 k_) < m then (c1 k_) else 0) = _; rw [hk_]; ((repeat' split) <;> omega))⟩
 ·refine wp_cond_false ((F.ev rfl).trans (congrArg Value.bool (decide_eq_false hn))) ?_
  refine wp_skip ?_
  refine hK5 _ _ ?_
  refine wp_seq_k fun K7 hK7 => ?_
  refine reg ?_
  refine q_val F rfl rfl (by decide) (r_move F rfl) fun a F => ?_
  refine q_val F rfl rfl (by decide) (r_assign F rfl) fun a F => ?_
  refine nil ?_
  refine hK7 _ _ ?_
  refine wp_ret ?_
  refine out1 F rfl rfl ?_
  exact ⟨c0, none, 0, rfl, Ev.refl, B0, SL.nil⟩
end Go.Proofs.Ytdnaoecfnjalgaa.G
namespace Go.Proofs.Ytdnaoecfnjalgaa.G
open Go Go.RowKit
set_option linter.unusedVariables false
set_option linter.unusedSimpArgs false
set_option maxRecDepth 100000
set_option maxHeartbeats 40000000
theorem slices_ConcathaulageapiRowhaulageapiRow.calls (k : Nat) {m : Nat} {c0 : Nat → Nat} {w0 : World} {j5 : Nat} {j6 : Nat} {A2 : Option Addr} {C3 : Nat} {a1 : List (List api_Row)} (hm0 : 0 < m) (B0 : CB m c0 w0) (h4 : SLV K_api_Row j5 j6 c0 w0 A2 a1) (bj5 : j5 < m) (bj6 : j6 < m) (jr112 : Nat) (bjr112 : jr112 < m) (r : (List api_Row)) (H : slices_ConcathaulageapiRowhaulageapiRow.f k a1 = some r) : Calls Try.prog 44 #[.slice A2 a1.length C3] w0 (fun e w_ => ∃ (c_ : Nat → Nat) (A0_ : Option Addr) (C0_ : Nat), e = .returned (.slice A0_ r.length C0_) ∧ Ev (fun x => False) c0 w0 c_ w_ ∧ CB m c_ w_ ∧ SL true K_api_Row jr112 0 c_ w_ A0_ C0_ r) := by
 unfold slices_ConcathaulageapiRowhaulageapiRow.f at H; have B := B0.mono (show m ≤ m + 2 by omega); have E : Ev (fun x => False ∨ m ≤ x) c0 w0 c0 w0 := Ev.refl; refine enter (N := 36) (l := [.slice A2 a1.length C3]) Try.func44 rfl rfl (nb rfl) fun a F => ?_; refine sr fun K7 hK7 => qa F fun a F => nil (hK7 _ _ ?_); refine sr fun K8 hK8 => qa F fun a F => nil (hK8 _ _ ?_); refine sq fun K9 hK9 => ?_; refine sr fun K10 hK10 => qm F fun a F => ?_; refine qv F (r_lensl F Try.underlying88 rfl) fun a F => ?_; refine qm F fun a F => nil (hK10 _ _ ?_); refine wp_block ?_; obtain ⟨x22, HL, HR21⟩ := bind_some H; have J44 : ∀ (c45 : Nat → Nat) (w46 : World) (a : Act) (i43 : Int), Fr a 36 [(0, .slice A2 a1.length C3), (3, .int .i64 i43)] → Ev (fun x => False ∨ m ≤ x) c0 w0 c45 w46 → CB (m + 2) c45 w46 → SLV K_api_Row j5 j6 c45 w46 A2 a1 → slices_ConcathaulageapiRowhaulageapiRow.j2 k a1 i43 = some r → K9 a w46 := by
  intro c45 w46 a i43 F E B h4 H; unfold slices_ConcathaulageapiRowhaulageapiRow.j2 at H; refine hK9 _ _ ?_; refine sr fun K47 hK47 => qm F fun a F => ?_; obtain ⟨t48, q49, H⟩ := bind_some H; refine qc F Try.func65 (slices_GrowRow.calls (m := m + 2) (pl hm0) B SL.nil (m + 1) lm _ q49) ?_; rintro e w51 ⟨c50, A54, C55, rfl, E52, B, h56⟩; refine rt fun a F => ?_; replace h4 := h4.ev E52; replace E := E.n E52; refine qa F fun a F => nil (hK47 _ _ ?_); refine sq fun K58 hK58 => ?_; refine sr fun K59 hK59 => qm F fun a F => ?_; refine qv F (r_lensl F Try.underlying88 rfl) fun a F => ?_; refine qm F fun a F => nil (hK59 _ _ ?_); refine wp_block ?_; obtain ⟨x75, HL, HR74⟩ := bind_some H; have J108 : ∀ (c109 : Nat → Nat) (w110 : World) (a : Act) (l105 : List api_Row) (A106 : Option Addr) (C107 : Nat), Fr a 36 [(6, .slice A106 l105.length C107)] → Ev (fun x => False ∨ m ≤ x) c0 w0 c109 w110 → CB (m + 2) c109 w110 → SL true K_api_Row (m + 1) 0 c109 w110 A106 C107 l105 → slices_ConcathaulageapiRowhaulageapiRow.j4 l105 = some r → K58 a w110 := by
   intro c109 w110 a l105 A106 C107 F E B h104 H; unfold slices_ConcathaulageapiRowhaulageapiRow.j4 at H; refine hK58 _ _ ?_; refine sr fun K111 hK111 => qm F fun a F => qa F fun a F => nil (hK111 _ _ ?_); refine wp_ret ?_; obtain rfl := si H; refine out1 F rfl rfl ?_; exact ⟨cf (fun x_ => if x_ = m + 1 then jr112 else if x_ < m then x_ else 0) c109, A106, C107, rfl, E.lv B0, cfb, SL.rc h104 cfk cfk⟩
  refine loop_fuel (I := fun n a w => ∃ (l60 : List api_Row) (A61 : Option Addr) (C62 : Nat) (i65 : Int) (c : Nat → Nat), Fr a 36 [(6, .slice A61 l60.length C62), (25, .slice A2 a1.length C3), (26, .int .i64 (a1.length : Int)), (27, .int .i64 i65)] ∧ Ev (fun x => False ∨ m ≤ x) c0 w0 c w ∧ CB (m + 2) c w ∧ SLV K_api_Row j5 j6 c w A2 a1 ∧ SL true K_api_Row (m + 1) 0 c w A61 C62 l60 ∧ loop (fun (s_ : (List api_Row) × Int) => slices_ConcathaulageapiRowhaulageapiRow.b3 a1 s_.1 s_.2) n (l60, i65) = some x75) (k := k) ⟨t48, A54, C55, 0, c50, F.sub ⟨rfl, rfl, rfl, rfl, trivial⟩, E, B, h4, h56, HL⟩ ?_; clear HL H E F B; intro n72 X68 hX68 a w67 ⟨l60, A61, C62, i65, c66, F, E, B, h4, h63, HL⟩; obtain ⟨n73, ctl71, rfl, HB, HN69, HD70⟩ := loop_some HL; have H : slices_ConcathaulageapiRowhaulageapiRow.b3 a1 l60 i65 = some ctl71 := HB; clear HB HL; unfold slices_ConcathaulageapiRowhaulageapiRow.b3 at H; refine sr fun K76 hK76 => ?_; refine qv F (r_lss F rfl rfl) fun a F => ?_; refine nil (hK76 _ _ ?_); refine sq fun K77 hK77 => ?_
  by_cases hb78 : i65 < (a1.length : Int)
  ·replace H := ip hb78 H; refine wct (fb F (dt hb78)) (wp_skip (hK77 _ _ ?_)); refine sq fun K79 hK79 => ?_; refine wp_block ?_; refine sr fun K80 hK80 => ?_; replace H := ifN H; obtain ⟨g81, H⟩ := H; obtain ⟨ad82, cs83, e84, h85, A86, C87, rfl, h88⟩ := SLV.at h4 i65 g81.1 g81.2; obtain ⟨qa89, qqa89⟩ : ∃ q, q = (ad82.add (i65.toNat * 1)) := ⟨_, rfl⟩; have h85 : AT false j5 c66 w67 qa89 [.slice A86 (rd a1 i65).length C87] := by rw [qqa89]; exact h85
   refine qv F (r_indexAddr' F Try.underlying88 sz_27 rfl rfl g81.1 g81.2 e84 qqa89) fun a F => ?_; refine qv F (r_load F rfl ag_27 (AT.cell0 h85 rfl)) fun a F => ?_; refine qa F fun a F => nil (hK80 _ _ ?_); refine reg ?_; refine qm F fun a F => qm F fun a F => ?_; replace H := ifN H; obtain ⟨g91, H⟩ := H; refine q_eff F rfl rfl (by decide) (e_append (k := K_api_Row) (xs := l60) (ys := (rd a1 i65)) (c := c66) (j := (m + 1)) (i := 0) F et_27 rfl rfl h63 h88 g91 (len_ok g91) ne_zm) ?_; rintro v w93 a ⟨c92, A94, C95, rfl, E96, h97, B98⟩ F; replace B := B98 _ B lm; replace h4 := h4.ev E96 (ne_pm bj5) (ne_pm bj6) ne_zm; replace E := E.trans E96 lc1; refine qa F fun a F => nil (hK79 _ _ ?_); refine reg ?_; refine qv F (r_add F rfl rfl) fun a F => ?_; refine qm F fun a F => nil ?_; replace H := HN69 _ (si H).symm; exact hX68 _ _ _ (Nat.lt_succ_self _) ⟨(l60 ++ (rd a1 i65)), A94, C95, (IntKind.i64.wrap (i65 + 1)), c92, F.sub ⟨rfl, rfl, rfl, rfl, trivial⟩, E, B, h4, h97, H⟩
  replace H := im hb78 H; refine wcf (fb F (dz hb78)) ?_; refine wp_exit ?_; refine thenE ?_; refine thenE ?_; refine inbE ?_; have hx_ := HD70 _ (si H).symm; have H := HR74; rw [← hx_] at H; exact J108 c66 w67 a l60 A61 C62 (F.sub ⟨rfl, trivial⟩) E B h63 H
 refine loop_fuel (I := fun n a w => ∃ (i11 : Int) (i12 : Int) (c : Nat → Nat), Fr a 36 [(0, .slice A2 a1.length C3), (3, .int .i64 i11), (9, .slice A2 a1.length C3), (10, .int .i64 (a1.length : Int)), (11, .int .i64 i12)] ∧ Ev (fun x => False ∨ m ≤ x) c0 w0 c w ∧ CB (m + 2) c w ∧ SLV K_api_Row j5 j6 c w A2 a1 ∧ loop (fun (s_ : Int × Int) => slices_ConcathaulageapiRowhaulageapiRow.b1 a1 s_.1 s_.2) n (i11, i12) = some x22) (k := k) ⟨0, 0, c0, F.sub ⟨rfl, rfl, rfl, rfl, rfl, trivial⟩, E, B, h4, HL⟩ ?_; clear HL H E F B; intro n19 X15 hX15 a w14 ⟨i11, i12, c13, F, E, B, h4, HL⟩; obtain ⟨n20, ctl18, rfl, HB, HN16, HD17⟩ := loop_some HL; have H : slices_ConcathaulageapiRowhaulageapiRow.b1 a1 i11 i12 = some ctl18 := HB; clear HB HL; unfold slices_ConcathaulageapiRowhaulageapiRow.b1 at H; refine sr fun K23 hK23 => ?_; refine qv F (r_lss F rfl rfl) fun a F => ?_; refine nil (hK23 _ _ ?_); refine sq fun K24 hK24 => ?_
 by_cases hb25 : i12 < (a1.length : Int)
 ·replace H := ip hb25 H; refine wct (fb F (dt hb25)) (wp_skip (hK24 _ _ ?_)); refine sq fun K26 hK26 => ?_; refine wp_block ?_; refine sr fun K27 hK27 => ?_; replace H := ifN H; obtain ⟨g28, H⟩ := H; obtain ⟨ad29, cs30, e31, h32, A33, C34, rfl, h35⟩ := SLV.at h4 i12 g28.1 g28.2; obtain ⟨qa36, qqa36⟩ : ∃ q, q = (ad29.add (i12.toNat * 1)) := ⟨_, rfl⟩; have h32 : AT false j5 c13 w14 qa36 [.slice A33 (rd a1 i12).length C34] := by rw [qqa36]; exact h32
  refine qv F (r_indexAddr' F Try.underlying88 sz_27 rfl rfl g28.1 g28.2 e31 qqa36) fun a F => ?_; refine qv F (r_load F rfl ag_27 (AT.cell0 h32 rfl)) fun a F => ?_; refine qa F fun a F => nil (hK27 _ _ ?_); refine sr fun K38 hK38 => qm F fun a F => qm F fun a F => ?_; refine qv F (r_lensl F Try.underlying27 rfl) fun a F => ?_; refine qv F (r_add F rfl rfl) fun a F => ?_; refine qa F fun a F => nil (hK38 _ _ ?_); replace F : Fr a 36 [(0, .slice A2 a1.length C3), (3, .int .i64 (IntKind.i64.wrap (i11 + ((rd a1 i12).length : Int)))), (9, .slice A2 a1.length C3), (10, .int .i64 (a1.length : Int)), (11, .int .i64 i12)] := F.sub ⟨rfl, rfl, rfl, rfl, rfl, trivial⟩; refine sr fun K39 hK39 => qm F fun a F => ?_; refine qv F (r_lss F rfl rfl) fun a F => ?_; refine nil (hK39 _ _ ?_)
  by_cases hb40 : (IntKind.i64.wrap (i11 + ((rd a1 i12).length : Int))) < 0
  ·replace H := ip hb40 H; refine wct (fb F (dt hb40)) ?_; refine reg ?_
   cases H
  replace H := im hb40 H; refine wcf (fb F (dz hb40)) (wp_skip (hK26 _ _ ?_)); refine reg ?_; refine qv F (r_add F rfl rfl) fun a F => ?_; refine qm F fun a F => nil ?_; replace H := HN16 _ (si H).symm; exact hX15 _ _ _ (Nat.lt_succ_self _) ⟨(IntKind.i64.wrap (i11 + ((rd a1 i12).length : Int))), (IntKind.i64.wrap (i12 + 1)), c13, F.sub ⟨rfl, rfl, rfl, rfl, rfl, trivial⟩, E, B, h4, H⟩
 replace H := im hb25 H; refine wcf (fb F (dz hb25)) ?_; refine wp_exit ?_; refine thenE ?_; refine thenE ?_; refine inbE ?_; have hx_ := HD17 _ (si H).symm; have H := HR21; rw [← hx_] at H; exact J44 c13 w14 a i11 (F.sub ⟨rfl, rfl, trivial⟩) E B h4 H
theorem merkle_Tree_Rows.calls (k : Nat) {m : Nat} {c0 : Nat → Nat} {w0 : World} {j4 : Nat} {j5 : Nat} {p2 : Option Addr} {a1 : Option Mer} (hm0 : 0 < m) (B0 : CB m c0 w0) (h3 : ME j4 j5 c0 w0 p2 a1) (bj4 : j4 < m) (bj5 : j5 < m ∧ j5 ≠ j4) (jr55 : Nat) (bjr55 : jr55 < m) (r : (List api_Row)) (H : merkle_Tree_Rows.f k a1 = some r) : Calls Try.prog 19 #[.pointer p2] w0 (fun e w_ => ∃ (c_ : Nat → Nat) (A0_ : Option Addr) (C0_ : Nat), e = .returned (.slice A0_ r.length C0_) ∧ Ev (fun x => False) c0 w0 c_ w_ ∧ CB m c_ w_ ∧ SL true K_api_Row jr55 0 c_ w_ A0_ C0_ r) := by
 unfold merkle_Tree_Rows.f at H; have B := B0.mono (show m ≤ m + 2 by omega); have E : Ev (fun x => False ∨ m ≤ x) c0 w0 c0 w0 := Ev.refl; refine enter (N := 15) (l := [.pointer p2]) Try.func19 rfl rfl (nb rfl) fun a F => ?_; refine sr fun K6 hK6 => qa F fun a F => nil (hK6 _ _ ?_); refine sq fun K7 hK7 => ?_; refine sr fun K8 hK8 => qm F fun a F => ?_; refine qv F (r_peqlA F Try.underlying26 rfl rfl (ME.isNone h3)) fun a F => ?_; refine nil (hK8 _ _ ?_)
 by_cases hb9 : (Option.isNone a1) = true
 ·replace H := ip hb9 H; refine wct (fb F hb9) ?_; refine sr fun K10 hK10 => qa F fun a F => nil (hK10 _ _ ?_); refine wp_ret ?_; refine thenR ?_; obtain rfl := si H; refine out1 F rfl rfl ?_; exact ⟨cf (fun x_ => if x_ = m + 1 then jr55 else if x_ < m then x_ else 0) c0, none, 0, rfl, E.lv B0, cfb, SL.nil⟩
 replace H := im hb9 H; refine wcf (fb F (bfalse hb9)) (wp_skip (hK7 _ _ ?_)); refine sr fun K11 hK11 => qm F fun a F => ?_; obtain ⟨ob12, e13, H⟩ := bind_some H; have z14 := h3; rw [e13] at z14; obtain ⟨ad15, cs17, cs19, rfl, hat16, h18, h20⟩ := ME.some z14; refine qi F fun a F => ?_; refine qf F ff_75_2 fun a F => ?_; have h22 : SLV K_api_Row j4 j5 c0 w0 (some (ad15.add 513)) ob12.rows := SLV.of (off := 513) (AT.eqv (ds := (([.int .i64 ob12.bits] : List Value) ++ (cs17 ++ (([] : List Value)))) ++ (cs19 ++ (([.int .i64 ob12.many] : List Value)))) hat16 (by simp only [List.append_assoc])) (by have l0_ : cs17.length = 512 := (h18.1 : cs17.length = 512); simp only [List.length_append, List.length_cons, List.length_nil] <;> omega) h20 (by decide); have hx23 : ob12.rows.length = 256 := ARO.xl h20; refine qv F (r_sliceArr F ua_73 sz_27 rfl hx23 (by decide)) fun a F => ?_; obtain ⟨t24, q25, H⟩ := bind_some H; refine qc F Try.func44 (slices_ConcathaulageapiRowhaulageapiRow.calls k (m := m + 2) (pl hm0) B h22 (Nat.lt_add_right _ bj4) (Nat.lt_add_right _ bj5.1) 0 (pl hm0) _ q25) ?_; rintro e w27 ⟨c26, A30, C31, rfl, E28, B, h32⟩; refine rt fun a F => ?_; replace E := E.n E28; obtain ⟨t34, q35, H⟩ := bind_some H; refine qc F Try.func33 (merkle_owned.calls k (m := m + 2) (pl hm0) B h32.r (pl hm0) (m + 1) lm _ q35) ?_; rintro e w37 ⟨c36, A40, C41, rfl, E38, B, h42⟩; refine rt fun a F => ?_; replace E := E.n E38; refine qa F fun a F => nil (hK11 _ _ ?_); replace F : Fr a 15 [(3, .slice A40 t34.length C41)] := F.sub ⟨rfl, trivial⟩; refine sr fun K44 hK44 => qm F fun a F => ?_; obtain ⟨t45, q46, H⟩ := bind_some H; refine qc F Try.func45 (slices_SortRow.calls (m := m + 2) (pl hm0) B h42 (by omega) _ q46) ?_; rintro e w48 ⟨c47, rfl, E49, B, h51, hl52⟩; refine rt fun a F => ?_; replace E := E.trans E49 lc1; replace hl52 := hl52.symm; replace F := F.sub (L' := [(3, .slice A40 t45.length C41), (12, .slice A40 t45.length C41)]) ⟨(by rw [← hl52]; rfl), (by rw [← hl52]; rfl), trivial⟩; refine nil (hK44 _ _ ?_); refine sr fun K54 hK54 => qm F fun a F => qa F fun a F => nil (hK54 _ _ ?_); refine wp_ret ?_; obtain rfl := si H; refine out1 F rfl rfl ?_; exact ⟨cf (fun x_ => if x_ = m + 1 then jr55 else if x_ < m then x_ else 0) c47, A40, C41, rfl, E.lv B0, cfb, SL.rc h51 cfk cfk⟩
theorem haulagelaw10_MerkleRows.calls (k : Nat) {m : Nat} {c0 : Nat → Nat} {w0 : World} {A2 : Option Addr} {C3 : Nat} {a1 : List haulagelaw10_Change} {a5 : Int} (hm0 : 0 < m) (B0 : CB m c0 w0) (h4 : SL false K_haulagelaw10_Change 0 0 c0 w0 A2 C3 a1) (r : Bool) (H : haulagelaw10_MerkleRows.f k a1 a5 = some r) : Calls Try.prog 5 #[.slice A2 a1.length C3, .int .i64 a5] w0 (fun e w_ => ∃ (c_ : Nat → Nat), e = .returned (.bool r) ∧ Ev (fun x => False) c0 w0 c_ w_ ∧ CB m c_ w_) := by
 unfold haulagelaw10_MerkleRows.f at H; have B := B0.mono (show m ≤ m + 9 by omega); have E : Ev (fun x => False ∨ m ≤ x) c0 w0 c0 w0 := Ev.refl; refine enter (N := 156) (l := [.slice A2 a1.length C3, .int .i64 a5]) Try.func5 rfl rfl (nb rfl) fun a F => ?_; refine sr fun K6 hK6 => qa F fun a F => nil (hK6 _ _ ?_); refine sq fun K7 hK7 => ?_; refine sr fun K8 hK8 => ?_; obtain ⟨t9, q10, H⟩ := bind_some H; refine qc F Try.func7 (haulagelaw10_awake.calls k (m := m + 9) (pl hm0) B _ q10) ?_; rintro e w12 ⟨c11, rfl, E13, B⟩; refine rt fun a F => ?_; replace h4 := h4.ev E13; replace E := E.n E13; refine qv F (r_not F rfl) fun a F => ?_; refine nil (hK8 _ _ ?_)
 by_cases hb16 : t9 = true
 ·replace H := ip hb16 H; refine wcf (fb F (congrArg not hb16)) (wp_skip (hK7 _ _ ?_)); refine sr fun K18 hK18 => qm F fun a F => ?_; obtain ⟨t19, q20, H⟩ := bind_some H; refine qc F Try.func8 (haulagelaw10_round.calls (m := m + 9) (pl hm0) B _ q20) ?_; rintro e w22 ⟨c21, rfl, E23, B⟩
  as_aux_lemma =>
  refine rt fun a F => ?_; replace h4 := h4.ev E23; replace E := E.n E23; refine qv F (r_add F rfl rfl) fun a F => ?_; refine qa F fun a F => nil (hK18 _ _ ?_); refine sr fun K26 hK26 => qm F fun a F => qm F fun a F => ?_; obtain ⟨t27, q28, H⟩ := bind_some H; refine qc F Try.func9 (haulagelaw10_grown.calls k (m := m + 9) (pl hm0) B h4 (pl hm0) (m + 1) ⟨(pl hm0), lm⟩ (m + 2) ⟨(pl hm0), lm⟩ 0 (pl hm0) _ q28) ?_; rintro e w30 ⟨c29, p33, A35, C36, rfl, E31, B, h34, h37⟩; refine rt fun a F => ?_; replace E := E.n E31; refine qm F fun a F => ?_; refine qx F fun a F => ?_; refine qx F fun a F => ?_; refine qa F fun a F => qa F fun a F => nil (hK26 _ _ ?_); replace F : Fr a 156 [(5, .int .i64 (IntKind.i64.wrap (1 + t19))), (6, .pointer p33), (7, .slice A35 t27.2.length C36)] := F.sub ⟨rfl, rfl, rfl, trivial⟩; refine sq fun K39 hK39 => ?_; refine sr fun K40 hK40 => qm F fun a F => ?_; refine qv F (r_peqlA F Try.underlying26 rfl rfl (ME.isNone h34)) fun a F => ?_; refine nil (hK40 _ _ ?_)
  by_cases hb41 : (Option.isNone t27.1) = true
  ·replace H := ip hb41 H; refine wct (fb F hb41) ?_
   as_aux_lemma =>
   refine sr fun K42 hK42 => qa F fun a F => nil (hK42 _ _ ?_); refine wp_ret ?_; refine thenR ?_; obtain rfl := si H; refine out1 F rfl rfl ?_; exact ⟨cf (ct m) c29, rfl, E.lv B0, cfb⟩
  replace H := im hb41 H; refine wcf (fb F (bfalse hb41)) (wp_skip (hK39 _ _ ?_)); refine sr fun K43 hK43 => qm F fun a F => qm F fun a F => ?_; obtain ⟨t44, q45, H⟩ := bind_some H; refine qc F Try.func17 (merkle_New.calls k (m := m + 9) (pl hm0) B h37.r (m + 3) ⟨(pl hm0), lm⟩ (m + 4) ⟨(pl hm0), lm⟩ _ q45) ?_; rintro e w47 ⟨c46, p50, rfl, E48, B, h51⟩; refine rt fun a F => ?_; replace h34 := h34.ev E48; replace h37 := h37.ev E48; replace E := E.n E48; refine qm F fun a F => ?_; refine qx F fun a F => ?_; refine qx F fun a F => ?_; refine qa F fun a F => qa F fun a F => nil (hK43 _ _ ?_); replace F : Fr a 156 [(5, .int .i64 (IntKind.i64.wrap (1 + t19))), (6, .pointer p33), (7, .slice A35 t27.2.length C36), (8, .pointer p50), (9, .int .i64 t44.2)] := F.sub ⟨rfl, rfl, rfl, rfl, rfl, trivial⟩; refine sq fun K53 hK53 => ?_
  as_aux_lemma =>
  refine sq fun K54 hK54 => ?_; have J101 : ∀ (c102 : Nat → Nat) (w103 : World) (a : Act) (b100 : Bool), Fr a 156 [(5, .int .i64 (IntKind.i64.wrap (1 + t19))), (6, .pointer p33), (7, .slice A35 t27.2.length C36), (8, .pointer p50), (62, .bool b100)] → Ev (fun x => False ∨ m ≤ x) c0 w0 c102 w103 → CB (m + 9) c102 w103 → ME (m + 1) (m + 2) c102 w103 p33 t27.1 → SL true K_api_Row 0 0 c102 w103 A35 C36 t27.2 → ME (m + 3) (m + 4) c102 w103 p50 t44.1 → haulagelaw10_MerkleRows.j1 k t19 t27 t44 b100 = some r → K54 a w103 := by
   intro c102 w103 a b100 F E B h34 h37 h51 H; unfold haulagelaw10_MerkleRows.j1 at H; refine hK54 _ _ ?_
   by_cases hb104 : b100 = true
   ·replace H := ip hb104 H; refine wct (fb F hb104) ?_; refine sr fun K105 hK105 => qa F fun a F => nil (hK105 _ _ ?_); refine wp_ret ?_; refine thenR ?_; obtain rfl := si H; refine out1 F rfl rfl ?_; exact ⟨cf (ct m) c102, rfl, E.lv B0, cfb⟩
   replace H := im hb104 H; refine wcf (fb F (bfalse hb104)) (wp_skip (hK53 _ _ ?_)); refine sr fun K106 hK106 => ?_; have h113 : ARO (KOsl K_api_Row) (m + 6) c102 w103 ((List.replicate 512 ([.slice none 0 0] : List Value)).flatten) 512 (List.replicate 512 ([] : List api_Row)) noHole := ARO.zero (e := (KOsl K_api_Row)) (pl hm0) (fun γ c => ⟨none, 0, rfl, SL.nil⟩) 512; refine q_eff F rfl rfl (by decide) (e_alloc F zv_53 c102 (m + 5)) ?_; rintro v w108 a ⟨c107, qa109, rfl, E110, h111, B112⟩ F; replace B := B112 _ B lm; replace h34 := h34.ev E110; replace h37 := h37.ev E110
   as_aux_lemma =>
   replace h51 := h51.ev E110; replace h113 := h113.ev E110; replace E := E.n E110; replace h111 : AT _ _ _ _ _ (([] : List Value) ++ (((List.replicate 512 ([.slice none 0 0] : List Value)).flatten) ++ (([] : List Value)))) := h111; refine nil (hK106 _ _ ?_); refine sq fun K115 hK115 => ?_; refine sr fun K116 hK116 => qa F fun a F => nil (hK116 _ _ ?_); refine wp_block ?_; obtain ⟨x286, HL, HR285⟩ := bind_some H; have J429 : ∀ (c430 : Nat → Nat) (w431 : World) (a : Act) (l427 : List (List api_Row)) (cs428 : List Value), Fr a 156 [(5, .int .i64 (IntKind.i64.wrap (1 + t19))), (6, .pointer p33), (8, .pointer p50), (10, .pointer (some qa109))] → Ev (fun x => False ∨ m ≤ x) c0 w0 c430 w431 → CB (m + 9) c430 w431 → AT true (m + 5) c430 w431 qa109 (([] : List Value) ++ (cs428 ++ (([] : List Value)))) → ME (m + 1) (m + 2) c430 w431 p33 t27.1 → ME (m + 3) (m + 4) c430 w431 p50 t44.1 → ARO (KOsl K_api_Row) (m + 6) c430 w431 cs428 512 l427 noHole → haulagelaw10_MerkleRows.j5 k t19 t27 t44 l427 = some r → K115 a w431 := by
    intro c430 w431 a l427 cs428 F E B h111 h34 h51 h426 H; unfold haulagelaw10_MerkleRows.j5 at H; refine hK115 _ _ ?_; refine sq fun K432 hK432 => ?_; refine sr fun K433 hK433 => qa F fun a F => nil (hK433 _ _ ?_); refine wp_block ?_; obtain ⟨x444, HL, HR443⟩ := bind_some H; have J518 : ∀ (c519 : Nat → Nat) (w520 : World) (a : Act), Fr a 156 [(6, .pointer p33)] → Ev (fun x => False ∨ m ≤ x) c0 w0 c519 w520 → CB (m + 9) c519 w520 → ME (m + 1) (m + 2) c519 w520 p33 t27.1 → haulagelaw10_MerkleRows.j9 t27 = some r → K432 a w520 := by
     intro c519 w520 a  F E B h34 H; unfold haulagelaw10_MerkleRows.j9 at H; refine hK432 _ _ ?_; refine sr fun K521 hK521 => qm F fun a F => ?_; obtain ⟨t522, q523, H⟩ := bind_some H
     as_aux_lemma =>
     refine qc F Try.func12 (merkle_Tree_Root.calls (m := m + 9) (pl hm0) B h34 lm ⟨lm, mm⟩ _ q523) ?_; rintro e w525 ⟨c524, rfl, E526, B⟩; refine rt fun a F => ?_; replace h34 := h34.ev E526; replace E := E.n E526; refine qm F fun a F => ?_; obtain ⟨t529, q530, H⟩ := bind_some H; refine qc F Try.func24 (merkle_Tree_Digest.calls (m := m + 9) (pl hm0) B h34 lm ⟨lm, mm⟩ _ q530) ?_; rintro e w532 ⟨c531, rfl, E533, B⟩; refine rt fun a F => ?_; replace h34 := h34.ev E533; replace E := E.n E533; refine qv F (r_eql F rfl rfl) fun a F => ?_; refine qm F fun a F => ?_
     by_cases hb536 : t522 = t529
     ·replace H := ip hb536 H; refine qy F (dt hb536) ?_; refine qm F fun a F => ?_; obtain ⟨t537, q538, H⟩ := bind_some H; refine qy F (dt hb536) ?_; refine qc F Try.func24 (merkle_Tree_Digest.calls (m := m + 9) (pl hm0) B h34 lm ⟨lm, mm⟩ _ q538) ?_; rintro e w540 ⟨c539, rfl, E541, B⟩; refine rt fun a F => ?_
      as_aux_lemma =>
      replace h34 := h34.ev E541; replace E := E.n E541; refine qy F (dt hb536) ?_; refine qv F (r_eql F rfl rfl) fun a F => ?_; refine qv F (r_pick_t F rfl (dt hb536) rfl) fun a F => ?_; refine qm F fun a F => ?_
      by_cases hb544 : t537 = 0
      ·replace H := ip hb544 H; refine qy F (dt hb544) ?_; refine qm F fun a F => ?_; obtain ⟨t545, q546, H⟩ := bind_some H; refine qy F (dt hb544) ?_; refine qc F Try.func24 (merkle_Tree_Digest.calls (m := m + 9) (pl hm0) B h34 lm ⟨lm, mm⟩ _ q546) ?_; rintro e w548 ⟨c547, rfl, E549, B⟩; refine rt fun a F => ?_; replace E := E.n E549; refine qy F (dt hb544) ?_; refine qv F (r_eql F rfl rfl) fun a F => ?_; refine qv F (r_pick_t F rfl (dt hb544) rfl) fun a F => ?_; refine qa F fun a F => nil (hK521 _ _ ?_); replace F : Fr a 156 [(4, .bool (decide (t545 = 0)))] := F.sub ⟨rfl, trivial⟩; refine wp_ret ?_; obtain rfl := si H
       as_aux_lemma =>
       refine out1 F rfl rfl ?_; exact ⟨cf (ct m) c547, rfl, E.lv B0, cfb⟩
      replace H := im hb544 H; refine qn F (dz hb544) fun a F => qn F (dz hb544) fun a F => qn F (dz hb544) fun a F => ?_; refine qv F (r_pick_f F rfl (dz hb544) rfl) fun a F => ?_; refine qa F fun a F => nil (hK521 _ _ ?_); replace F : Fr a 156 [(4, .bool false)] := F.sub ⟨rfl, trivial⟩; refine wp_ret ?_; obtain rfl := si H; refine out1 F rfl rfl ?_; exact ⟨cf (ct m) c539, rfl, E.lv B0, cfb⟩
     replace H := im hb536 H; refine qn F (dz hb536) fun a F => qn F (dz hb536) fun a F => qn F (dz hb536) fun a F => ?_; refine qv F (r_pick_f F rfl (dz hb536) rfl) fun a F => ?_; refine qm F fun a F => qn F rfl fun a F => qn F rfl fun a F => qn F rfl fun a F => ?_; refine qp F fun a F => ?_; refine qa F fun a F => nil (hK521 _ _ ?_); replace F : Fr a 156 [(4, .bool false)] := F.sub ⟨rfl, trivial⟩; refine wp_ret ?_; obtain rfl := si H; refine out1 F rfl rfl ?_; exact ⟨cf (ct m) c531, rfl, E.lv B0, cfb⟩
    refine loop_fuel (I := fun n a w => ∃ (i434 : Int) (c : Nat → Nat), Fr a 156 [(5, .int .i64 (IntKind.i64.wrap (1 + t19))), (6, .pointer p33), (8, .pointer p50), (10, .pointer (some qa109)), (15, .int .i64 i434)] ∧ Ev (fun x => False ∨ m ≤ x) c0 w0 c w ∧ CB (m + 9) c w ∧ AT true (m + 5) c w qa109 (([] : List Value) ++ (cs428 ++ (([] : List Value)))) ∧ ME (m + 1) (m + 2) c w p33 t27.1 ∧ ME (m + 3) (m + 4) c w p50 t44.1 ∧ ARO (KOsl K_api_Row) (m + 6) c w cs428 512 l427 noHole ∧ loop (fun (s_ : Int) => haulagelaw10_MerkleRows.b8 k t19 t27 t44 l427 s_) n i434 = some x444) (k := k) ⟨1, c430, F.sub ⟨rfl, rfl, rfl, rfl, rfl, trivial⟩, E, B, h111, h34, h51, h426, HL⟩ ?_; clear HL H E F B; intro n441 X437 hX437 a w436 ⟨i434, c435, F, E, B, h111, h34, h51, h426, HL⟩; obtain ⟨n442, ctl440, rfl, HB, HN438, HD439⟩ := loop_some HL; have H : haulagelaw10_MerkleRows.b8 k t19 t27 t44 l427 i434 = some ctl440 := HB; clear HB HL; unfold haulagelaw10_MerkleRows.b8 at H
    as_aux_lemma =>
    refine sq fun K445 hK445 => ?_; refine sr fun K446 hK446 => qm F fun a F => ?_; refine qv F (r_lss F rfl rfl) fun a F => ?_; refine nil (hK446 _ _ ?_)
    by_cases hb447 : i434 < 512
    ·replace H := ip hb447 H; refine wct (fb F (dt hb447)) (wp_skip (hK445 _ _ ?_)); refine sq fun K448 hK448 => ?_; refine wp_block ?_; refine sr fun K449 hK449 => qa F fun a F => nil (hK449 _ _ ?_); refine sq fun K450 hK450 => ?_; have J492 : ∀ (c493 : Nat → Nat) (w494 : World) (a : Act) (i491 : Int), Fr a 156 [(5, .int .i64 (IntKind.i64.wrap (1 + t19))), (6, .pointer p33), (8, .pointer p50), (10, .pointer (some qa109)), (15, .int .i64 i434), (16, .int .u64 i491)] → Ev (fun x => False ∨ m ≤ x) c0 w0 c493 w494 → CB (m + 9) c493 w494 → AT true (m + 5) c493 w494 qa109 (([] : List Value) ++ (cs428 ++ (([] : List Value)))) → ME (m + 1) (m + 2) c493 w494 p33 t27.1 → ME (m + 3) (m + 4) c493 w494 p50 t44.1 → ARO (KOsl K_api_Row) (m + 6) c493 w494 cs428 512 l427 noHole → haulagelaw10_MerkleRows.j6 t27 t44 i434 i491 = some ctl440 → K450 a w494 := by
      intro c493 w494 a i491 F E B h111 h34 h51 h426 H; unfold haulagelaw10_MerkleRows.j6 at H; refine hK450 _ _ ?_; refine sq fun K495 hK495 => ?_; have J512 : ∀ (c513 : Nat → Nat) (w514 : World) (a : Act) (b511 : Bool), Fr a 156 [(5, .int .i64 (IntKind.i64.wrap (1 + t19))), (6, .pointer p33), (8, .pointer p50), (10, .pointer (some qa109)), (15, .int .i64 i434), (140, .bool b511)] → Ev (fun x => False ∨ m ≤ x) c0 w0 c513 w514 → CB (m + 9) c513 w514 → AT true (m + 5) c513 w514 qa109 (([] : List Value) ++ (cs428 ++ (([] : List Value)))) → ME (m + 1) (m + 2) c513 w514 p33 t27.1 → ME (m + 3) (m + 4) c513 w514 p50 t44.1 → ARO (KOsl K_api_Row) (m + 6) c513 w514 cs428 512 l427 noHole → haulagelaw10_MerkleRows.j7 i434 b511 = some ctl440 → K495 a w514 := by
       intro c513 w514 a b511 F E B h111 h34 h51 h426 H; unfold haulagelaw10_MerkleRows.j7 at H; refine hK495 _ _ ?_
       by_cases hb515 : b511 = true
       ·replace H := ip hb515 H; refine wct (fb F hb515) ?_; refine sr fun K516 hK516 => qa F fun a F => nil (hK516 _ _ ?_)
        as_aux_lemma =>
        refine wp_ret ?_; refine inbR ?_; refine thenR ?_; refine thenR ?_; refine inbR ?_; refine thenR ?_; have hx_ := HD439 _ (si H).symm; have H := HR443; rw [← hx_] at H; replace H : some false = some r := H; obtain rfl := si H; refine out1 F rfl rfl ?_; exact ⟨cf (ct m) c513, rfl, E.lv B0, cfb⟩
       replace H := im hb515 H; refine wcf (fb F (bfalse hb515)) (wp_skip (hK448 _ _ ?_)); refine reg ?_; refine qm F fun a F => ?_; refine qv F (r_add F rfl rfl) fun a F => ?_; refine qa F fun a F => nil ?_; replace H := HN438 _ (si H).symm; exact hX437 _ _ _ (Nat.lt_succ_self _) ⟨(IntKind.i64.wrap (i434 + 1)), c513, F.sub ⟨rfl, rfl, rfl, rfl, rfl, trivial⟩, E, B, h111, h34, h51, h426, H⟩
      refine reg ?_
      as_aux_lemma =>
      refine qm F fun a F => qm F fun a F => ?_; obtain ⟨t496, q497, H⟩ := bind_some H; refine qc F Try.func24 (merkle_Tree_Digest.calls (m := m + 9) (pl hm0) B h34 lm ⟨lm, mm⟩ _ q497) ?_; rintro e w499 ⟨c498, rfl, E500, B⟩; refine rt fun a F => ?_; replace h111 := h111.ev E500; replace h34 := h34.ev E500; replace h51 := h51.ev E500; replace h426 := h426.ev E500; replace E := E.n E500; refine qm F fun a F => ?_; refine qv F (r_neq F rfl rfl) fun a F => ?_; refine qm F fun a F => ?_
      by_cases hb503 : t496 = i491
      ·replace H := ip hb503 H; refine qy F (congrArg not (dt hb503)) ?_; refine qm F fun a F => ?_; refine qy F (congrArg not (dt hb503)) ?_; refine qm F fun a F => ?_; obtain ⟨t504, q505, H⟩ := bind_some H; refine qy F (congrArg not (dt hb503)) ?_; refine qc F Try.func24 (merkle_Tree_Digest.calls (m := m + 9) (pl hm0) B h51 lm ⟨lm, mm⟩ _ q505) ?_; rintro e w507 ⟨c506, rfl, E508, B⟩
       as_aux_lemma =>
       refine rt fun a F => ?_; replace h111 := h111.ev E508; replace h34 := h34.ev E508; replace h51 := h51.ev E508; replace h426 := h426.ev E508; replace E := E.n E508; refine qy F (congrArg not (dt hb503)) ?_; refine qm F fun a F => ?_; refine qy F (congrArg not (dt hb503)) ?_; refine qv F (r_neq F rfl rfl) fun a F => ?_; refine qv F (r_pick_f F rfl (congrArg not (dt hb503)) rfl) fun a F => ?_; refine nil ?_; exact J512 c506 w507 a (!decide (t504 = i491)) (F.sub ⟨rfl, rfl, rfl, rfl, rfl, rfl, trivial⟩) E B h111 h34 h51 h426 H
      replace H := im hb503 H; refine qn F (congrArg not (dz hb503)) fun a F => qn F (congrArg not (dz hb503)) fun a F => qn F (congrArg not (dz hb503)) fun a F => qn F (congrArg not (dz hb503)) fun a F => qn F (congrArg not (dz hb503)) fun a F => ?_; refine qv F (r_pick_t F rfl (congrArg not (dz hb503)) rfl) fun a F => ?_; refine nil ?_; exact J512 c498 w499 a true (F.sub ⟨rfl, rfl, rfl, rfl, rfl, rfl, trivial⟩) E B h111 h34 h51 h426 H
     refine sr fun K451 hK451 => qm F fun a F => ?_; refine qv F (r_geq F rfl rfl) fun a F => ?_; refine nil (hK451 _ _ ?_)
     by_cases hb452 : 256 ≤ i434
     ·replace H := ip hb452 H
      as_aux_lemma =>
      refine wct (fb F (dt hb452)) ?_; refine reg ?_; refine qm F fun a F => ?_; replace H := ifN H; obtain ⟨g453, H⟩ := H; obtain ⟨cs455, h456, r457⟩ := ARO.at (off := 0) h111 rfl h426 i434 g453.1 (by have g_ := g453.2; omega); obtain ⟨A459, C460, rfl, h461⟩ := r457; obtain ⟨qa458, qqa458⟩ : ∃ q, q = (qa109.add (0 + i434.toNat * 1)) := ⟨_, rfl⟩; have h456 : AT true (m + 5) c435 w436 qa458 [.slice A459 (rd l427 i434).length C460] := by rw [qqa458]; exact h456
      refine qv F (r_indexArr0 F ua_53 sz_27 rfl rfl g453.1 (by have g_ := g453.2; omega) qqa458) fun a F => ?_; refine qv F (r_load F rfl ag_27 (AT.cell0 h456 rfl)) fun a F => ?_; refine qm F fun a F => ?_; obtain ⟨t463, q464, H⟩ := bind_some H; refine qc F Try.func22 (haulagelaw10_ofRows.calls k (m := m + 9) (pl hm0) B h461.r lm _ q464) ?_; rintro e w466 ⟨c465, rfl, E467, B⟩; refine rt fun a F => ?_; replace h111 := h111.ev E467; replace h34 := h34.ev E467; replace h51 := h51.ev E467; replace h426 := h426.ev E467; replace E := E.n E467; refine qa F fun a F => nil ?_; exact J492 c465 w466 a t463 (F.sub ⟨rfl, rfl, rfl, rfl, rfl, rfl, trivial⟩) E B h111 h34 h51 h426 H
     as_aux_lemma =>
     replace H := im hb452 H; refine wcf (fb F (dz hb452)) ?_; refine reg ?_; refine qm F fun a F => qm F fun a F => ?_; refine qv F (r_mul F rfl rfl) fun a F => ?_; obtain ⟨t470, q471, H⟩ := bind_some H; refine qc F Try.func24 (merkle_Tree_Digest.calls (m := m + 9) (pl hm0) B h34 lm ⟨lm, mm⟩ _ q471) ?_; rintro e w473 ⟨c472, rfl, E474, B⟩; refine rt fun a F => ?_; replace h111 := h111.ev E474; replace h34 := h34.ev E474; replace h51 := h51.ev E474; replace h426 := h426.ev E474; replace E := E.n E474; refine qm F fun a F => qm F fun a F => ?_; refine qv F (r_mul F rfl rfl) fun a F => ?_; refine qv F (r_add F rfl rfl) fun a F => ?_; obtain ⟨t477, q478, H⟩ := bind_some H; refine qc F Try.func24 (merkle_Tree_Digest.calls (m := m + 9) (pl hm0) B h34 lm ⟨lm, mm⟩ _ q478) ?_; rintro e w480 ⟨c479, rfl, E481, B⟩; refine rt fun a F => ?_; replace h111 := h111.ev E481
     as_aux_lemma =>
     replace h34 := h34.ev E481; replace h51 := h51.ev E481; replace h426 := h426.ev E481; replace E := E.n E481; refine qm F fun a F => ?_; obtain ⟨t484, q485, H⟩ := bind_some H; refine qc F Try.func23 (haulagelaw10_ofPair.calls k (m := m + 9) (pl hm0) B _ q485) ?_; rintro e w487 ⟨c486, rfl, E488, B⟩; refine rt fun a F => ?_; replace h111 := h111.ev E488; replace h34 := h34.ev E488; replace h51 := h51.ev E488; replace h426 := h426.ev E488; replace E := E.n E488; refine qa F fun a F => nil ?_; exact J492 c486 w487 a t484 (F.sub ⟨rfl, rfl, rfl, rfl, rfl, rfl, trivial⟩) E B h111 h34 h51 h426 H
    replace H := im hb447 H; refine wcf (fb F (dz hb447)) ?_; refine wp_exit ?_; refine thenE ?_; refine thenE ?_; refine inbE ?_; have hx_ := HD439 _ (si H).symm; have H := HR443; rw [← hx_] at H; exact J518 c435 w436 a  (F.sub ⟨rfl, trivial⟩) E B h34 H
   refine loop_fuel (I := fun n a w => ∃ (i273 : Int) (l276 : List (List api_Row)) (cs274 : List Value) (c : Nat → Nat), Fr a 156 [(5, .int .i64 (IntKind.i64.wrap (1 + t19))), (6, .pointer p33), (7, .slice A35 t27.2.length C36), (8, .pointer p50), (10, .pointer (some qa109)), (11, .int .i64 i273)] ∧ Ev (fun x => False ∨ m ≤ x) c0 w0 c w ∧ CB (m + 9) c w ∧ AT true (m + 5) c w qa109 (([] : List Value) ++ (cs274 ++ (([] : List Value)))) ∧ ME (m + 1) (m + 2) c w p33 t27.1 ∧ SL true K_api_Row 0 0 c w A35 C36 t27.2 ∧ ME (m + 3) (m + 4) c w p50 t44.1 ∧ ARO (KOsl K_api_Row) (m + 6) c w cs274 512 l276 noHole ∧ loop (fun (s_ : Int × (List (List api_Row))) => haulagelaw10_MerkleRows.b4 k t27 s_.1 s_.2) n (i273, l276) = some x286) (k := k) ⟨0, (List.replicate 512 ([] : List api_Row)), ((List.replicate 512 ([.slice none 0 0] : List Value)).flatten), c107, F.sub ⟨rfl, rfl, rfl, rfl, rfl, rfl, trivial⟩, E, B, h111, h34, h37, h51, h113, HL⟩ ?_; clear HL H E F B; intro n283 X279 hX279 a w278 ⟨i273, l276, cs274, c277, F, E, B, h111, h34, h37, h51, h275, HL⟩; obtain ⟨n284, ctl282, rfl, HB, HN280, HD281⟩ := loop_some HL; have H : haulagelaw10_MerkleRows.b4 k t27 i273 l276 = some ctl282 := HB; clear HB HL; unfold haulagelaw10_MerkleRows.b4 at H
   as_aux_lemma =>
   refine sq fun K287 hK287 => ?_; refine sr fun K288 hK288 => qm F fun a F => qm F fun a F => ?_; refine qv F (r_lensl F Try.underlying27 rfl) fun a F => ?_; refine qv F (r_lss F rfl rfl) fun a F => ?_; refine nil (hK288 _ _ ?_)
   by_cases hb289 : i273 < (t27.2.length : Int)
   ·replace H := ip hb289 H; refine wct (fb F (dt hb289)) (wp_skip (hK287 _ _ ?_)); refine sq fun K290 hK290 => ?_; refine wp_block ?_; refine sr fun K291 hK291 => qm F fun a F => qm F fun a F => ?_; replace H := ifN H; obtain ⟨g292, H⟩ := H; obtain ⟨ad293, cs294, e295, h296, r297⟩ := SL.at h37 i273 g292.1 g292.2; obtain ⟨A298, C299, A301, C302, rfl, h300, h303⟩ := r297; replace h300 := SL.fl (i' := 0) h300 (fun q => q); obtain ⟨qa304, qqa304⟩ : ∃ q, q = (ad293.add (i273.toNat * 3)) := ⟨_, rfl⟩; have h296 : AT true 0 c277 w278 qa304 [.slice A298 ((rd t27.2 i273).Key).length C299, .slice A301 ((rd t27.2 i273).Value).length C302, .int .i64 ((rd t27.2 i273).Rev)] := by rw [qqa304]; exact h296
    refine qv F (r_indexAddr' F Try.underlying27 sz_36 rfl rfl g292.1 g292.2 e295 qqa304) fun a F => ?_; refine qf F ff_36_0 fun a F => ?_; refine ql F ag_23 h296 fun a F => ?_; obtain ⟨t147, q148, H⟩ := bind_some H; refine qc F Try.func21 (haulagelaw10_bucket.calls k (m := m + 9) (pl hm0) B h300 _ q148) ?_; rintro e w307 ⟨c306, rfl, E308, B⟩
    as_aux_lemma =>
    refine rt fun a F => ?_; replace h111 := h111.ev E308; replace h34 := h34.ev E308; replace h37 := h37.ev E308; replace h51 := h51.ev E308; replace h275 := h275.ev E308; replace E := E.n E308; refine qa F fun a F => nil (hK291 _ _ ?_); replace F : Fr a 156 [(5, .int .i64 (IntKind.i64.wrap (1 + t19))), (6, .pointer p33), (7, .slice A35 t27.2.length C36), (8, .pointer p50), (10, .pointer (some qa109)), (11, .int .i64 i273), (12, .int .i64 t147)] := F.sub ⟨rfl, rfl, rfl, rfl, rfl, rfl, rfl, trivial⟩; refine sq fun K311 hK311 => ?_; replace H := ifN H; obtain ⟨g312, H⟩ := H; obtain ⟨c313, e314, e315, A316, C317, h318, h319, h275⟩ := ARO.lend (off := 0) (z := m + 7) h111 rfl h275 t147 g312.1 (by have g_ := g312.2; omega) ⟨mm, (pl hm0)⟩; obtain ⟨qa320, qqa320⟩ : ∃ q, q = (qa109.add (0 + t147.toNat * 1)) := ⟨_, rfl⟩; have h318 : AT true (m + 5) c306 w307 qa320 [.slice A316 (rd l276 t147).length C317] := by rw [qqa320]; exact h318
    replace h111 := AT.rc (c' := c313) (j' := m + 5) h111 (fun k_ hk_ => (e314 k_ (by rw [hk_]; exact mm)).trans hk_); replace h34 := ME.rc (c' := c313) (j' := m + 1) (i' := m + 2) h34 (fun k_ hk_ => (e314 k_ (by rw [hk_]; exact mm)).trans hk_) (fun k_ hk_ => (e314 k_ (by rw [hk_]; exact mm)).trans hk_) (fun k_ hk_ => (e314 k_ (by rw [hk_]; exact ne_zm)).trans hk_) (pl hm0); replace h37 := SL.rc (c' := c313) (j' := 0) (i' := 0) h37 (fun k_ hk_ => (e314 k_ (by rw [hk_]; exact ne_zm)).trans hk_) (fun k_ hk_ => (e314 k_ (by rw [hk_]; exact ne_zm)).trans hk_); replace h51 := ME.rc (c' := c313) (j' := m + 3) (i' := m + 4) h51 (fun k_ hk_ => (e314 k_ (by rw [hk_]; exact mm)).trans hk_) (fun k_ hk_ => (e314 k_ (by rw [hk_]; exact mm)).trans hk_) (fun k_ hk_ => (e314 k_ (by rw [hk_]; exact ne_zm)).trans hk_) (pl hm0); replace h318 := AT.rc (c' := c313) (j' := m + 5) h318 (fun k_ hk_ => (e314 k_ (by rw [hk_]; exact mm)).trans hk_); replace E : Ev (fun x => False ∨ m ≤ x) c0 w0 c313 w307 := E.recol B0 (fun b_ hb_ => e314 b_ (by omega)); replace B : CB (m + 9) c313 w307 := B.recol (fun b_ => (e315 b_).imp id (fun q_ => by rw [q_]; exact lm))
    as_aux_lemma =>
    refine regD (SB (fun x => x = m + 7) c313 w307) 11 (.q 0 (.q 1 (.q 2 (.q 3 (.q 4 (.q 5 (.q 6 (.q 7 (.e 8 (.e 9 (.q 10 (.e 11 .nil)))))))))))) Try_hm (by decide +kernel) ?_; intro w322 w1_ w2_ w3_ w4_; have E323 : Ev No c313 w307 c313 w322 := Ev.same w1_ w2_ w3_ w4_; replace B := B.same w1_; have zh37 := h37; have zh318 := h318; have ER : Ev (fun x => x = m + 7) c313 w307 c313 w322 := Ev.same w1_ w2_ w3_ w4_; replace h111 := h111.ev E323; replace h34 := h34.ev E323; replace h37 := h37.ev E323; replace h51 := h51.ev E323; replace h275 := h275.ev E323; replace h318 := h318.ev E323; replace h319 := h319.ev E323; replace E := E.n E323; refine dm F ER.sb fun a F => ?_; refine dm F ER.sb fun a F => ?_; refine dq F (fun wq hS => r_indexArr0 F ua_53 sz_27 rfl rfl g312.1 (by have g_ := g312.2; omega) qqa320) ER.sb fun a F => ?_; refine dq F (fun wq hS => r_load F rfl ag_27 (AT.cell0 (AT.sb zh318 hS mm) rfl)) ER.sb fun a F => ?_; refine dm F ER.sb fun a F => ?_; refine dm F ER.sb fun a F => ?_; replace H := ifN H; obtain ⟨g324, H⟩ := H; obtain ⟨ad325, cs326, e327, h328, r329⟩ := SL.at zh37 i273 g324.1 g324.2; obtain ⟨A330, C331, A333, C334, rfl, h332, h335⟩ := r329
    as_aux_lemma =>
    replace h332 := SL.fl (i' := 0) h332 (fun q => q); replace h335 := SL.fl (i' := 0) h335 (fun q => q); obtain ⟨qa336, qqa336⟩ : ∃ q, q = (ad325.add (i273.toNat * 3)) := ⟨_, rfl⟩; have h328 : AT true 0 c313 w307 qa336 [.slice A330 ((rd t27.2 i273).Key).length C331, .slice A333 ((rd t27.2 i273).Value).length C334, .int .i64 ((rd t27.2 i273).Rev)] := by rw [qqa336]; exact h328
    replace h332 := h332.ev ER ne_zm ne_zm; replace h335 := h335.ev ER ne_zm ne_zm; have zh328 := h328; refine dq F (fun wq hS => r_indexAddr' F Try.underlying27 sz_36 rfl rfl g324.1 g324.2 e327 qqa336) ER.sb fun a F => ?_; refine dq F (fun wq hS => r_loads (cs := [.slice A330 ((rd t27.2 i273).Key).length C331, .slice A333 ((rd t27.2 i273).Value).length C334, .int .i64 ((rd t27.2 i273).Rev)]) F rfl ag_36 sz_36 (AT.sb zh328 hS ne_zm)) ER.sb fun a F => ?_; refine d_e ?_; refine o_eff F rfl rfl rfl (by decide) (e_buildSlice (n := 1) (e := 36) (c := c313) (k := K_api_Row) (i := 0) F [(0, .agg #[.slice A330 ((rd t27.2 i273).Key).length C331, .slice A333 ((rd t27.2 i273).Value).length C334, .int .i64 ((rd t27.2 i273).Rev)])] [.slice A330 ((rd t27.2 i273).Key).length C331, .slice A333 ((rd t27.2 i273).Value).length C334, .int .i64 ((rd t27.2 i273).Rev)] ([(rd t27.2 i273)] : List api_Row) (by exact ⟨rfl, rfl, trivial⟩) (fun w => by kernel_rfl) rfl (by decide) rfl ⟨⟨A330, C331, A333, C334, rfl, (SL.fl h332 (fun q => q)), (SL.fl h335 (fun q => q))⟩, trivial⟩ (fun q => q) 0) ?_; rintro v w339 a ⟨c338, A340, C341, rfl, E342, h343, B344⟩ F; replace B := B344 _ B (pl hm0); replace ER := ER.trans E342 nx; replace h111 := h111.ev E342; replace h34 := h34.ev E342; replace h37 := h37.ev E342; replace h51 := h51.ev E342; replace h275 := h275.ev E342; replace h318 := h318.ev E342; replace h319 := h319.ev E342; replace E := E.n E342
    as_aux_lemma =>
    refine ⟨fun _ => ER.sb, ?_⟩; refine d_e ?_; replace H := ifN H; obtain ⟨g188, H⟩ := H; refine o_eff F rfl rfl rfl (by decide) (e_append (k := K_api_Row) (xs := (rd l276 t147)) (ys := [(rd t27.2 i273)]) (c := c338) (j := (m + 7)) (i := 0) F et_27 rfl rfl h319 h343 g188 (len_ok g188) ne_zm) ?_; rintro v w346 a ⟨c345, A347, C348, rfl, E349, h350, B351⟩ F; replace B := B351 _ B lm; replace ER := ER.trans E349 (fun x q => by replace q : x = m + 7 := q; show x = m + 7; omega); replace h111 := h111.ev E349; replace h34 := h34.ev E349; replace h37 := h37.ev E349; replace h51 := h51.ev E349; replace h275 := h275.ev E349; replace h318 := h318.ev E349; replace E := E.trans E349 lc1; refine ⟨fun _ => ER.sb, ?_⟩; refine dq F (fun wq hS => r_indexArr0 F ua_53 sz_27 rfl rfl g312.1 (by have g_ := g312.2; omega) qqa320) ER.sb fun a F => ?_; refine d_e ?_; refine o_eff0 F rfl rfl rfl (e_storearH F rfl rfl sz_27 h111 rfl h275 (m := t147.toNat) (by have g_ := g312; omega) qqa320 rfl mm (pl hm0)) ?_; rintro w352 a ⟨cs355, E353, h111, h275, h318, Z354⟩ F; replace B := B.size Z354; replace h34 := h34.ev E353
    as_aux_lemma =>
    replace h37 := h37.ev E353; replace h51 := h51.ev E353; replace h350 := h350.ev E353; replace E := E.trans E353 lc1; replace h111 : AT _ _ _ _ _ (([] : List Value) ++ (cs355 ++ (([] : List Value)))) := h111; refine ⟨fun q => absurd rfl q, ?_⟩; refine d_nil ?_; obtain ⟨c356, e357, e358, h275⟩ := ARO.back (off := 0) (z := m + 7) (k := t147) h111 rfl h275 g312.1 (by have g_ := g312.2; omega) (by rw [← qqa320]; exact h318) h350 ⟨mm, (pl hm0)⟩; replace h111 := AT.rc (c' := c356) (j' := m + 5) h111 (fun k_ hk_ => (e357 k_ (by rw [hk_]; exact mm)).trans hk_); replace h34 := ME.rc (c' := c356) (j' := m + 1) (i' := m + 2) h34 (fun k_ hk_ => (e357 k_ (by rw [hk_]; exact mm)).trans hk_) (fun k_ hk_ => (e357 k_ (by rw [hk_]; exact mm)).trans hk_) (fun k_ hk_ => (e357 k_ (by rw [hk_]; exact ne_zm)).trans hk_) (pl hm0); replace h37 := SL.rc (c' := c356) (j' := 0) (i' := 0) h37 (fun k_ hk_ => (e357 k_ (by rw [hk_]; exact ne_zm)).trans hk_) (fun k_ hk_ => (e357 k_ (by rw [hk_]; exact ne_zm)).trans hk_); replace h51 := ME.rc (c' := c356) (j' := m + 3) (i' := m + 4) h51 (fun k_ hk_ => (e357 k_ (by rw [hk_]; exact mm)).trans hk_) (fun k_ hk_ => (e357 k_ (by rw [hk_]; exact mm)).trans hk_) (fun k_ hk_ => (e357 k_ (by rw [hk_]; exact ne_zm)).trans hk_) (pl hm0); replace E : Ev (fun x => False ∨ m ≤ x) c0 w0 c356 w352 := E.recol B0 (fun b_ hb_ => e357 b_ (by omega)); replace B : CB (m + 9) c356 w352 := B.recol (fun b_ => (e358 b_).imp id (fun q_ => by rw [q_]; exact lm)); refine hK311 _ _ ?_; replace F : Fr a 156 [(5, .int .i64 (IntKind.i64.wrap (1 + t19))), (6, .pointer p33), (7, .slice A35 t27.2.length C36), (8, .pointer p50), (10, .pointer (some qa109)), (11, .int .i64 i273)] := F.sub ⟨rfl, rfl, rfl, rfl, rfl, rfl, trivial⟩; refine sr fun K360 hK360 => qm F fun a F => qm F fun a F => qm F fun a F => ?_; replace H := ifN H; obtain ⟨g361, H⟩ := H; obtain ⟨ad362, cs363, e364, h365, r366⟩ := SL.at h37 i273 g361.1 g361.2; obtain ⟨A367, C368, A370, C371, rfl, h369, h372⟩ := r366; replace h369 := SL.fl (i' := 0) h369 (fun q => q); obtain ⟨qa373, qqa373⟩ : ∃ q, q = (ad362.add (i273.toNat * 3)) := ⟨_, rfl⟩; have h365 : AT true 0 c356 w352 qa373 [.slice A367 ((rd t27.2 i273).Key).length C368, .slice A370 ((rd t27.2 i273).Value).length C371, .int .i64 ((rd t27.2 i273).Rev)] := by rw [qqa373]; exact h365
    as_aux_lemma =>
    refine qv F (r_indexAddr' F Try.underlying27 sz_36 rfl rfl g361.1 g361.2 e364 qqa373) fun a F => ?_; refine qf F ff_36_0 fun a F => ?_; refine ql F ag_23 h365 fun a F => ?_; obtain ⟨t219, q220, H⟩ := bind_some H; refine qc F Try.func13 (merkle_Tree_Get.calls k (m := m + 9) (pl hm0) B h34 h369 lm ⟨lm, mm⟩ _ q220) ?_; rintro e w376 ⟨c375, A379, C380, A382, C383, rfl, E377, B, h381, h384⟩; refine rt fun a F => ?_; replace h111 := h111.ev E377; replace h34 := h34.ev E377; replace h37 := h37.ev E377; replace h51 := h51.ev E377; replace h275 := h275.ev E377; replace E := E.n E377; refine qm F fun a F => ?_; refine qx F fun a F => ?_; refine qx F fun a F => ?_; refine q_eff F rfl rfl (by decide) (e_alloc F zv_36 c375 (m + 8)) ?_; rintro v w387 a ⟨c386, qa234, rfl, E388, h236, B389⟩ F; replace B := B389 _ B lm; replace h111 := h111.ev E388; replace h34 := h34.ev E388; replace h37 := h37.ev E388
    as_aux_lemma =>
    replace h51 := h51.ev E388; replace h275 := h275.ev E388; replace h381 := h381.ev E388; replace h384 := h384.ev E388; replace E := E.n E388; replace h236 : AT _ _ _ _ _ [.slice none 0 0, .slice none 0 0, .int .i64 0] := h236; refine q_eff0 F rfl rfl (e_storeN0 (us := [.slice A379 t219.1.Key.length C380, .slice A382 t219.1.Value.length C383, .int .i64 t219.1.Rev]) F rfl rfl sz_36 h236 (nb rfl) (one_all rfl)) ?_; rintro w390 a ⟨E391, h236, Z392⟩ F; replace B := B.size Z392; replace h111 := h111.ev E391; replace h34 := h34.ev E391; replace h37 := h37.ev E391; replace h51 := h51.ev E391; replace h275 := h275.ev E391; replace h381 := h381.ev E391; replace h384 := h384.ev E391; replace E := E.trans E391 lc1; replace h236 : AT _ _ _ _ _ [.slice A379 t219.1.Key.length C380, .slice A382 t219.1.Value.length C383, .int .i64 t219.1.Rev] := h236; refine qa F fun a F => nil (hK360 _ _ ?_); replace F : Fr a 156 [(5, .int .i64 (IntKind.i64.wrap (1 + t19))), (6, .pointer p33), (7, .slice A35 t27.2.length C36), (8, .pointer p50), (10, .pointer (some qa109)), (11, .int .i64 i273), (13, .pointer (some qa234)), (14, .bool t219.2)] := F.sub ⟨rfl, rfl, rfl, rfl, rfl, rfl, rfl, rfl, trivial⟩; refine sq fun K393 hK393 => ?_; have J417 : ∀ (c418 : Nat → Nat) (w419 : World) (a : Act) (b416 : Bool), Fr a 156 [(5, .int .i64 (IntKind.i64.wrap (1 + t19))), (6, .pointer p33), (7, .slice A35 t27.2.length C36), (8, .pointer p50), (10, .pointer (some qa109)), (11, .int .i64 i273), (106, .bool b416)] → Ev (fun x => False ∨ m ≤ x) c0 w0 c418 w419 → CB (m + 9) c418 w419 → AT true (m + 5) c418 w419 qa109 (([] : List Value) ++ (cs355 ++ (([] : List Value)))) → ME (m + 1) (m + 2) c418 w419 p33 t27.1 → SL true K_api_Row 0 0 c418 w419 A35 C36 t27.2 → ME (m + 3) (m + 4) c418 w419 p50 t44.1 → ARO (KOsl K_api_Row) (m + 6) c418 w419 cs355 512 (l276.set t147.toNat ((rd l276 t147) ++ [(rd t27.2 i273)])) noHole → haulagelaw10_MerkleRows.j3 t27 t147 i273 l276 b416 = some ctl282 → K393 a w419 := by
     intro c418 w419 a b416 F E B h111 h34 h37 h51 h275 H; unfold haulagelaw10_MerkleRows.j3 at H
     as_aux_lemma =>
     refine hK393 _ _ ?_
     by_cases hb420 : b416 = true
     ·replace H := ip hb420 H; refine wct (fb F hb420) ?_; refine sr fun K421 hK421 => qa F fun a F => nil (hK421 _ _ ?_); refine wp_ret ?_; refine inbR ?_; refine thenR ?_; refine thenR ?_; refine inbR ?_; refine thenR ?_; have hx_ := HD281 _ (si H).symm; have H := HR285; rw [← hx_] at H; replace H : some false = some r := H; obtain rfl := si H; refine out1 F rfl rfl ?_; exact ⟨cf (ct m) c418, rfl, E.lv B0, cfb⟩
     replace H := im hb420 H; refine wcf (fb F (bfalse hb420)) (wp_skip (hK290 _ _ ?_)); refine reg ?_; refine qm F fun a F => ?_; refine qv F (r_add F rfl rfl) fun a F => ?_
     as_aux_lemma =>
     refine qa F fun a F => nil ?_; replace H := HN280 _ (si H).symm; exact hX279 _ _ _ (Nat.lt_succ_self _) ⟨(IntKind.i64.wrap (i273 + 1)), (l276.set t147.toNat ((rd l276 t147) ++ [(rd t27.2 i273)])), cs355, c418, F.sub ⟨rfl, rfl, rfl, rfl, rfl, rfl, trivial⟩, E, B, h111, h34, h37, h51, h275, H⟩
    refine regD (SB No c386 w390) 11 (.q 0 (.q 1 (.q 2 (.q 3 (.q 4 (.q 5 (.q 6 (.q 7 (.e 8 (.q 9 (.q 10 .nil))))))))))) Try_hm (by decide +kernel) ?_; intro w394 w1_ w2_ w3_ w4_; have E395 : Ev No c386 w390 c386 w394 := Ev.same w1_ w2_ w3_ w4_; replace B := B.same w1_; have zh37 := h37; have zh236 := h236; have ER : Ev No c386 w390 c386 w394 := Ev.same w1_ w2_ w3_ w4_; replace h111 := h111.ev E395; replace h34 := h34.ev E395; replace h37 := h37.ev E395; replace h51 := h51.ev E395; replace h275 := h275.ev E395; replace h381 := h381.ev E395; replace h384 := h384.ev E395; replace E := E.n E395; refine dm F ER.sb fun a F => ?_; refine dq F (fun wq hS => r_not F rfl) ER.sb fun a F => ?_; refine dm F ER.sb fun a F => ?_
    by_cases hb396 : t219.2 = true
    ·replace H := ip hb396 H
     as_aux_lemma =>
     refine dy F (congrArg not hb396) (fun wq hS => r_loads (cs := [.slice A379 t219.1.Key.length C380, .slice A382 t219.1.Value.length C383, .int .i64 t219.1.Rev]) F rfl ag_36 sz_36 (AT.sb zh236 hS nq)) ER.sb fun a F => ?_; refine dy F (congrArg not hb396) (fun wq hS => r_move F rfl) ER.sb fun a F => ?_; refine dy F (congrArg not hb396) (fun wq hS => r_move F rfl) ER.sb fun a F => ?_; replace H := ifN H; obtain ⟨g397, H⟩ := H; obtain ⟨ad398, cs399, e400, h401, r402⟩ := SL.at zh37 i273 g397.1 g397.2; obtain ⟨A403, C404, A406, C407, rfl, h405, h408⟩ := r402; replace h405 := SL.fl (i' := 0) h405 (fun q => q); replace h408 := SL.fl (i' := 0) h408 (fun q => q); obtain ⟨qa409, qqa409⟩ : ∃ q, q = (ad398.add (i273.toNat * 3)) := ⟨_, rfl⟩; have h401 : AT true 0 c386 w390 qa409 [.slice A403 ((rd t27.2 i273).Key).length C404, .slice A406 ((rd t27.2 i273).Value).length C407, .int .i64 ((rd t27.2 i273).Rev)] := by rw [qqa409]; exact h401
     replace h405 := h405.ev ER nq nq; replace h408 := h408.ev ER nq nq; have zh401 := h401; refine dy F (congrArg not hb396) (fun wq hS => r_indexAddr' F Try.underlying27 sz_36 rfl rfl g397.1 g397.2 e400 qqa409) ER.sb fun a F => ?_; refine dy F (congrArg not hb396) (fun wq hS => r_loads (cs := [.slice A403 ((rd t27.2 i273).Key).length C404, .slice A406 ((rd t27.2 i273).Value).length C407, .int .i64 ((rd t27.2 i273).Rev)]) F rfl ag_36 sz_36 (AT.sb zh401 hS nq)) ER.sb fun a F => ?_; refine d_e ?_; obtain ⟨t260, q261, H⟩ := bind_some H; refine o_call F rfl (wanted_yes F rfl rfl (by decide) rfl (congrArg not hb396)) rfl (by decide) (r_call F Try.func14 rfl (by kernel_rfl) rfl) (haulagelaw10_sameRow.calls k (m := m + 9) (pl hm0) B h381 h384 h405 h408 _ q261) ?_; rintro e w412 ⟨c411, rfl, E413, B⟩; refine rt fun a F => ?_; replace ER := ER.trans E413 nx
     as_aux_lemma =>
     replace h111 := h111.ev E413; replace h34 := h34.ev E413; replace h37 := h37.ev E413; replace h51 := h51.ev E413; replace h275 := h275.ev E413; replace E := E.n E413; refine ⟨fun _ => ER.sb, ?_⟩; refine dy F (congrArg not hb396) (fun wq hS => r_not F rfl) ER.sb fun a F => ?_; refine dq F (fun wq hS => r_pick_f F rfl (congrArg not hb396) rfl) ER.sb fun a F => ?_; refine d_nil ?_; exact J417 c411 w412 a (!t260) (F.sub ⟨rfl, rfl, rfl, rfl, rfl, rfl, rfl, trivial⟩) E B h111 h34 h37 h51 h275 H
    replace H := im hb396 H; refine dn F (congrArg not (bfalse hb396)) ER.sb fun a F => ?_; refine dn F (congrArg not (bfalse hb396)) ER.sb fun a F => ?_; refine dn F (congrArg not (bfalse hb396)) ER.sb fun a F => ?_; refine dn F (congrArg not (bfalse hb396)) ER.sb fun a F => ?_; refine dn F (congrArg not (bfalse hb396)) ER.sb fun a F => ?_; refine d_e ?_; refine o_no F rfl rfl rfl (by decide) rfl (congrArg not (bfalse hb396)) rfl (by decide) fun a F => ?_; refine ⟨fun _ => ER.sb, ?_⟩; refine dn F (congrArg not (bfalse hb396)) ER.sb fun a F => ?_; refine dq F (fun wq hS => r_pick_t F rfl (congrArg not (bfalse hb396)) rfl) ER.sb fun a F => ?_
    as_aux_lemma =>
    refine d_nil ?_; exact J417 c386 w394 a true (F.sub ⟨rfl, rfl, rfl, rfl, rfl, rfl, rfl, trivial⟩) E B h111 h34 h37 h51 h275 H
   replace H := im hb289 H; refine wcf (fb F (dz hb289)) ?_; refine wp_exit ?_; refine thenE ?_; refine thenE ?_; refine inbE ?_; have hx_ := HD281 _ (si H).symm; have H := HR285; rw [← hx_] at H; exact J429 c277 w278 a l276 cs274 (F.sub ⟨rfl, rfl, rfl, rfl, trivial⟩) E B h111 h34 h51 h275 H
  refine reg ?_; refine qm F fun a F => ?_; refine qv F (r_neq F rfl rfl) fun a F => ?_; refine qm F fun a F => ?_
  by_cases hb55 : t44.2 = 0
  ·replace H := ip hb55 H; refine qy F (congrArg not (dt hb55)) ?_; refine qm F fun a F => ?_; refine qy F (congrArg not (dt hb55)) ?_; refine qv F (r_peqlA F Try.underlying26 rfl rfl (ME.isNone h51)) fun a F => ?_; refine qv F (r_pick_f F rfl (congrArg not (dt hb55)) rfl) fun a F => ?_
   as_aux_lemma =>
   refine qm F fun a F => ?_
   by_cases hb56 : (Option.isNone t44.1) = true
   ·replace H := ip hb56 H; refine qn F hb56 fun a F => qn F hb56 fun a F => qn F hb56 fun a F => qn F hb56 fun a F => qn F hb56 fun a F => ?_; refine qv F (r_pick_t F rfl hb56 rfl) fun a F => ?_; refine qm F fun a F => qn F rfl fun a F => qn F rfl fun a F => qn F rfl fun a F => qn F rfl fun a F => qn F rfl fun a F => ?_; refine qt F fun a F => ?_; refine qm F fun a F => qn F rfl fun a F => qn F rfl fun a F => qn F rfl fun a F => qn F rfl fun a F => qn F rfl fun a F => ?_; refine qt F fun a F => ?_; refine nil ?_; exact J101 c46 w47 a true (F.sub ⟨rfl, rfl, rfl, rfl, rfl, trivial⟩) E B h34 h37 h51 H
   replace H := im hb56 H; refine qy F (bfalse hb56) ?_; refine qm F fun a F => ?_; obtain ⟨t57, q58, H⟩ := bind_some H; refine qy F (bfalse hb56) ?_; refine qc F Try.func19 (merkle_Tree_Rows.calls k (m := m + 9) (pl hm0) B h34 lm ⟨lm, mm⟩ 0 (pl hm0) _ q58) ?_; rintro e w60 ⟨c59, A63, C64, rfl, E61, B, h65⟩; refine rt fun a F => ?_; replace h34 := h34.ev E61; replace h37 := h37.ev E61; replace h51 := h51.ev E61; replace E := E.n E61
   as_aux_lemma =>
   refine qy F (bfalse hb56) ?_; refine qm F fun a F => ?_; obtain ⟨t67, q68, H⟩ := bind_some H; refine qy F (bfalse hb56) ?_; refine qc F Try.func18 (haulagelaw10_sameRows.calls k (m := m + 9) (pl hm0) B h65.r h37.r (pl hm0) (pl hm0) _ q68) ?_; rintro e w70 ⟨c69, rfl, E71, B⟩; refine rt fun a F => ?_; replace h34 := h34.ev E71; replace h37 := h37.ev E71; replace h51 := h51.ev E71; replace E := E.n E71; refine qy F (bfalse hb56) ?_; refine qv F (r_not F rfl) fun a F => ?_; refine qv F (r_pick_f F rfl (bfalse hb56) rfl) fun a F => ?_; refine qm F fun a F => ?_
   by_cases hb74 : t67 = true
   ·replace H := ip hb74 H; refine qy F (congrArg not hb74) ?_; refine qm F fun a F => ?_; obtain ⟨t75, q76, H⟩ := bind_some H; refine qy F (congrArg not hb74) ?_; refine qc F Try.func19 (merkle_Tree_Rows.calls k (m := m + 9) (pl hm0) B h51 lm ⟨lm, mm⟩ 0 (pl hm0) _ q76) ?_; rintro e w78 ⟨c77, A81, C82, rfl, E79, B, h83⟩
    as_aux_lemma =>
    refine rt fun a F => ?_; replace h34 := h34.ev E79; replace h37 := h37.ev E79; replace h51 := h51.ev E79; replace E := E.n E79; refine qy F (congrArg not hb74) ?_; refine qm F fun a F => ?_; obtain ⟨t85, q86, H⟩ := bind_some H; refine qy F (congrArg not hb74) ?_; refine qc F Try.func18 (haulagelaw10_sameRows.calls k (m := m + 9) (pl hm0) B h83.r h37.r (pl hm0) (pl hm0) _ q86) ?_; rintro e w88 ⟨c87, rfl, E89, B⟩; refine rt fun a F => ?_; replace h34 := h34.ev E89; replace h37 := h37.ev E89; replace h51 := h51.ev E89; replace E := E.n E89; refine qy F (congrArg not hb74) ?_; refine qv F (r_not F rfl) fun a F => ?_; refine qv F (r_pick_f F rfl (congrArg not hb74) rfl) fun a F => ?_; refine qm F fun a F => ?_
    by_cases hb92 : t85 = true
    ·replace H := ip hb92 H; refine qy F (congrArg not hb92) ?_
     as_aux_lemma =>
     refine qm F fun a F => ?_; obtain ⟨t93, q94, H⟩ := bind_some H; refine qy F (congrArg not hb92) ?_; refine qc F Try.func20 (merkle_Tree_Len.calls (m := m + 9) (pl hm0) B h34 lm ⟨lm, mm⟩ _ q94) ?_; rintro e w96 ⟨c95, rfl, E97, B⟩; refine rt fun a F => ?_; replace h34 := h34.ev E97; replace h37 := h37.ev E97; replace h51 := h51.ev E97; replace E := E.n E97; refine qy F (congrArg not hb92) ?_; refine qm F fun a F => ?_; refine qy F (congrArg not hb92) ?_; refine qv F (r_lensl F Try.underlying27 rfl) fun a F => ?_; refine qy F (congrArg not hb92) ?_; refine qv F (r_neq F rfl rfl) fun a F => ?_; refine qv F (r_pick_f F rfl (congrArg not hb92) rfl) fun a F => ?_; refine nil ?_; exact J101 c95 w96 a (!decide (t93 = (t27.2.length : Int))) (F.sub ⟨rfl, rfl, rfl, rfl, rfl, trivial⟩) E B h34 h37 h51 H
    replace H := im hb92 H; refine qn F (congrArg not (bfalse hb92)) fun a F => qn F (congrArg not (bfalse hb92)) fun a F => qn F (congrArg not (bfalse hb92)) fun a F => qn F (congrArg not (bfalse hb92)) fun a F => qn F (congrArg not (bfalse hb92)) fun a F => ?_; refine qv F (r_pick_t F rfl (congrArg not (bfalse hb92)) rfl) fun a F => ?_
    as_aux_lemma =>
    refine nil ?_; exact J101 c87 w88 a true (F.sub ⟨rfl, rfl, rfl, rfl, rfl, trivial⟩) E B h34 h37 h51 H
   replace H := im hb74 H; refine qn F (congrArg not (bfalse hb74)) fun a F => qn F (congrArg not (bfalse hb74)) fun a F => qn F (congrArg not (bfalse hb74)) fun a F => qn F (congrArg not (bfalse hb74)) fun a F => qn F (congrArg not (bfalse hb74)) fun a F => ?_; refine qv F (r_pick_t F rfl (congrArg not (bfalse hb74)) rfl) fun a F => ?_; refine qm F fun a F => qn F rfl fun a F => qn F rfl fun a F => qn F rfl fun a F => qn F rfl fun a F => qn F rfl fun a F => ?_; refine qt F fun a F => ?_; refine nil ?_; exact J101 c69 w70 a true (F.sub ⟨rfl, rfl, rfl, rfl, rfl, trivial⟩) E B h34 h37 h51 H
  replace H := im hb55 H; refine qn F (congrArg not (dz hb55)) fun a F => qn F (congrArg not (dz hb55)) fun a F => ?_; refine qv F (r_pick_t F rfl (congrArg not (dz hb55)) rfl) fun a F => ?_; refine qm F fun a F => qn F rfl fun a F => qn F rfl fun a F => qn F rfl fun a F => qn F rfl fun a F => qn F rfl fun a F => ?_; refine qt F fun a F => ?_; refine qm F fun a F => qn F rfl fun a F => qn F rfl fun a F => qn F rfl fun a F => qn F rfl fun a F => qn F rfl fun a F => ?_; refine qt F fun a F => ?_; refine qm F fun a F => qn F rfl fun a F => qn F rfl fun a F => qn F rfl fun a F => qn F rfl fun a F => qn F rfl fun a F => ?_; refine qt F fun a F => ?_; refine nil ?_; exact J101 c46 w47 a true (F.sub ⟨rfl, rfl, rfl, rfl, rfl, trivial⟩) E B h34 h37 h51 H
 replace H := im hb16 H; refine wct (fb F (congrArg not (bfalse hb16))) ?_
 as_aux_lemma =>
 refine sr fun K17 hK17 => qa F fun a F => nil (hK17 _ _ ?_); refine wp_ret ?_; refine thenR ?_; obtain rfl := si H; refine out1 F rfl rfl ?_; exact ⟨cf (ct m) c11, rfl, E.lv B0, cfb⟩
end Go.Proofs.Ytdnaoecfnjalgaa.G
namespace Go.Proofs.Ytdnaoecfnjalgaa.G
open Go Go.ChangeShapes Go.WideShapes
set_option linter.unusedVariables false
set_option linter.unusedSimpArgs false
theorem bulk_one {H : Type} (d : DataW H) : 1 ≤ Rows.uptoBulk d := by
 cases d with
 | lit l => cases l <;> simp [Rows.uptoBulk]
 | nil => simp [Rows.uptoBulk]
 | ptr d => simp [Rows.uptoBulk]
 | slice elems spare => simp [Rows.uptoBulk]
 | agg parts => simp [Rows.uptoBulk]
 | iface t d => simp [Rows.uptoBulk]
 | map entries => simp [Rows.uptoBulk]
 | held h => simp [Rows.uptoBulk]
theorem bulk_slice {H : Type} (elems spare : List (DataW H)) : Rows.uptoBulkAll elems + 1 ≤ Rows.uptoBulk (.slice elems spare) := by
 simp only [Rows.uptoBulk]
 omega
theorem bulk_agg {H : Type} (parts : List (DataW H)) : Rows.uptoBulkAll parts + 1 ≤ Rows.uptoBulk (.agg parts) := by
 simp only [Rows.uptoBulk]
 omega
theorem bulk_all {H : Type} : ∀ l : List (DataW H), Rows.uptoBulkAll l = (l.map Rows.uptoBulk).sum
 | [] => by simp [Rows.uptoBulkAll]
 | d :: l => by simp [Rows.uptoBulkAll, bulk_all l]
def c0 : Nat → Nat := fun _ => 0
def Opens {α : Type} (P : Program) (w : World) (t : TypeId) (e : K α) (wt : α → Nat) (ok : α → Prop) : Prop :=
 ∀ (H : Type) (enc : TypeId × Value → H) (fuel : Nat) (cs : List Value) (x : DataW H × List MemPlace), DataW.trod enc P w 0 (fun _ => true) true fuel t cs = some x → ∃ y, e.rep 0 c0 w cs y ∧ wt y ≤ Rows.uptoBulk x.1 ∧ ok y
section
variable {α : Type} {P : Program} {w : World} {t u : TypeId} {e : K α} {wt : α → Nat} {ok : α → Prop}
theorem opens_int {k : IntKind} (ht : P.underlying t = some (.int k)) : Opens P w t (Kint k) (fun _ => 1) (fun n => (Lit.int k n).wf = true) := by
 intro H enc fuel cs x h
 obtain ⟨n, rfl, rfl, hw⟩ := DataW.trod_int ht h
 exact ⟨n, rfl, bulk_one _, hw⟩
theorem opens_bool (ht : P.underlying t = some .bool) : Opens P w t Kbool (fun _ => 1) (fun _ => True) := by
 intro H enc fuel cs x h
 obtain ⟨n, rfl, rfl⟩ := DataW.trod_bool ht h
 exact ⟨n, rfl, bulk_one _, trivial⟩
theorem at_cell {p : Addr} {v : Value} (h : w.cell? p = some v) : p = ⟨p.block, p.off, none⟩ ∧ ∃ cur ty fz, w.heap[p.block]? = some (.cells cur ty fz) ∧ cur[p.off]? = some v := by
 obtain ⟨b, off, spot⟩ := p
 simp only [World.cell?] at h
 split at h
 ·rename_i c ty fz hb
  cases spot with
  | some s => simp at h
  | none => exact ⟨rfl, c, ty, fz, hb, by simpa using h⟩
 ·cases h
theorem at_cells {p : Addr} {n : Nat} {cs : List Value} (hn : cs.length = n) (hp : 0 < n) (h : ∀ i, i < n → w.cell? (p.add i) = cs[i]?) : AT false 0 c0 w p cs := by
 have h0 := h 0 hp
 have e0 : p.add 0 = p := by simp [Addr.add]
 rw [e0, List.getElem?_eq_getElem (by omega)] at h0
 obtain ⟨ep, cur, ty, fz, hb, hc⟩ := at_cell h0
 refine ⟨p.block, p.off, cur, ty, fz, ep, hb, rfl, fun k hk => ?_, fun q => by cases q⟩
 have hk' := h k (by omega)
 rw [ep, add_eq] at hk'
 simp only [World.cell?, hb] at hk'
 simpa using hk'
theorem sum_le {β γ : Type} (f : β → Nat) (g : γ → Nat) : ∀ (l : List β) (m : List γ), l.length = m.length → (∀ i (h : i < l.length) (h' : i < m.length), f l[i] ≤ g m[i]) → (l.map f).sum ≤ (m.map g).sum
 | [], [], _, _ => Nat.le_refl _
 | [], _ :: _, h, _ => by simp at h
 | _ :: _, [], h, _ => by simp at h
 | a :: l, b :: m, h, hh => by
  simp only [List.map_cons, List.sum_cons]
  have h0 := hh 0 (by simp) (by simp)
  simp only [List.getElem_cons_zero] at h0
  have := sum_le f g l m (by simpa using h) (fun i h1 h2 => by
   have := hh (i + 1) (by simp; omega) (by simp; omega)
   simpa using this)
  omega
theorem open_sl [Inhabited α] (ht : P.underlying t = some (.slice u)) (hc : P.cellsOf u = e.sz) (hu : Opens P w u e wt ok) {H : Type} {enc : TypeId × Value → H} {fuel : Nat} {cs : List Value} {x : DataW H × List MemPlace}
  (h : DataW.trod enc P w 0 (fun _ => true) true fuel t cs = some x) :
  ∃ A cap xs, cs = [.slice A xs.length cap] ∧ SL false e 0 0 c0 w A cap xs ∧ (xs.map wt).sum + 1 ≤ Rows.uptoBulk x.1 ∧ ∀ y ∈ xs, ok y := by
 rcases Deep.open_slice ht h with ⟨rfl, rfl⟩ | ⟨a, len, cap, m, n, D, Pl, rfl, _, hl, hm, hmm, rfl, hx⟩
 ·exact ⟨none, 0, [], rfl, SL.nil, by simp [Rows.uptoBulk], fun y hy => by cases hy⟩
 simp only [if_true] at hmm
 subst hmm
 have hp := e.pos
 rw [hc] at hx
 have each : ∀ i, i < m → ∃ y : List Value × α, (y.1.length = e.sz ∧ ∀ k, k < e.sz → w.cell? ((a.add (i * e.sz)).add k) = y.1[k]?) ∧ e.rep 0 c0 w y.1 y.2 ∧ wt y.2 ≤ Rows.uptoBulk (D i) ∧ ok y.2 := by
  intro i hi
  obtain ⟨cs', h1, h2⟩ := hx i hi
  obtain ⟨_, g1, g2⟩ := World.cells?_some h1
  obtain ⟨y, g3, g4, g5⟩ := hu H enc n cs' _ h2
  exact ⟨(cs', y), ⟨g1, g2⟩, g3, g4, g5⟩
 obtain ⟨y, hy⟩ := Deep.choose_lt each
 let V : Nat → Value := fun q => (y (q / e.sz)).1.getD (q % e.sz) default
 have hV : ∀ i k, k < e.sz → V (i * e.sz + k) = (y i).1.getD k default := by
  intro i k hk
  show (y ((i * e.sz + k) / e.sz)).1.getD ((i * e.sz + k) % e.sz) default = _
  rw [Nat.mul_comm, Nat.mul_add_div hp, Nat.div_eq_of_lt hk, Nat.add_zero, Nat.mul_add_mod, Nat.mod_eq_of_lt hk]
 let cs := (List.range (m * e.sz)).map V
 have hcs : cs.length = m * e.sz := by simp [cs]
 have hcell : ∀ q, q < m * e.sz → w.cell? (a.add q) = cs[q]? := by
  intro q hq
  have hi : q / e.sz < m := (Nat.div_lt_iff_lt_mul hp).2 hq
  have hk : q % e.sz < e.sz := Nat.mod_lt _ hp
  obtain ⟨⟨g1, g2⟩, _⟩ := hy _ hi
  have g := g2 _ hk
  have e1 : (a.add (q / e.sz * e.sz)).add (q % e.sz) = a.add q := by
   have e2 : q / e.sz * e.sz + q % e.sz = q := Nat.div_add_mod' q e.sz
   obtain ⟨b, off, s⟩ := a
   simp only [Addr.add]
   split <;> split <;> split <;> simp_all <;> omega
  rw [e1] at g
  rw [g]
  simp only [cs, List.getElem?_map, List.getElem?_range hq, Option.map_some]
  show _ = some ((y (q / e.sz)).1.getD (q % e.sz) default)
  rw [List.getD_eq_getElem?_getD, List.getElem?_eq_getElem (by omega)]
  rfl
 refine ⟨some a, m, (List.range len).map fun i => (y i).2, by simp, ⟨cs, by simpa using hl, hm, hcs, ?_, fun n hn => ?_⟩, ?_, ?_⟩
 ·rcases Nat.eq_zero_or_pos (m * e.sz) with q | q
  ·left; exact List.length_eq_zero_iff.1 (by omega)
  ·right; exact ⟨a, rfl, at_cells hcs q hcell⟩
 ·simp only [List.length_map, List.length_range] at hn
  obtain ⟨⟨g1, _⟩, g3, _, _⟩ := hy n (by omega)
  have e1 : (cs.drop (n * e.sz)).take e.sz = (y n).1 := by
   apply List.ext_getElem?
   intro k
   by_cases hk : k < e.sz
   ·have hq : n * e.sz + k < m * e.sz := by
     have : (n + 1) * e.sz ≤ m * e.sz := Nat.mul_le_mul_right _ (by omega)
     rw [Nat.succ_mul] at this; omega
    rw [List.getElem?_take_of_lt hk, List.getElem?_drop]
    simp only [cs, List.getElem?_map, List.getElem?_range hq, Option.map_some]
    rw [hV n k hk, List.getD_eq_getElem?_getD, List.getElem?_eq_getElem (by omega)]
    rfl
   ·rw [List.getElem?_eq_none (by simp; omega), List.getElem?_eq_none (by omega)]
  rw [e1]
  simpa using g3
 ·refine Nat.le_trans (Nat.succ_le_succ ?_) (bulk_slice _ _)
  rw [bulk_all]
  rw [List.map_map, List.map_map]
  have := sum_le (fun i => wt (y i).2) (fun i => Rows.uptoBulk (D i)) (List.range len) (List.range len) rfl (fun i h1 h2 => by
   simp only [List.length_range] at h1
   simp only [List.getElem_range]
   exact (hy i (by omega)).2.2.1)
  exact this
 ·intro z hz
  obtain ⟨i, hi, rfl⟩ := List.mem_map.1 hz
  exact (hy i (by have := List.mem_range.1 hi; omega)).2.2.2
theorem opens_slice [Inhabited α] (ht : P.underlying t = some (.slice u)) (hc : P.cellsOf u = e.sz) (hu : Opens P w u e wt ok) : Opens P w t (Kslice e) (fun xs => (xs.map wt).sum + 1) (fun xs => ∀ y ∈ xs, ok y) := by
 intro H enc fuel cs x h
 obtain ⟨A, cap, xs, h1, h2, h3, h4⟩ := open_sl ht hc hu h
 exact ⟨xs, ⟨A, cap, h1, h2⟩, h3, h4⟩
end
end Go.Proofs.Ytdnaoecfnjalgaa.G
namespace Go.Proofs.Ytdnaoecfnjalgaa.G
open Go Go.ChangeShapes Go.WideShapes
set_option linter.unusedVariables false
theorem row_own : ownKnob Try.prog.godebug = none := by kernel_rfl
theorem row_laidOut : laidOutB Try.prog = true := by kernel_rfl
def intok (n : Int) : Prop := (Lit.int .i64 n).wf = true
theorem intok.range {n : Int} (h : intok n) : -9223372036854775808 ≤ n ∧ n ≤ 9223372036854775807 := by simpa [intok, Lit.wf, IntKind.min, IntKind.max, IntKind.signed, IntKind.bits] using h
def byteok (n : Int) : Prop := (Lit.int .u8 n).wf = true
def bytesok (xs : List Int) : Prop := ∀ n ∈ xs, byteok n
theorem byteok.range {n : Int} (h : byteok n) : 0 ≤ n ∧ n ≤ 255 := by simpa [byteok, Lit.wf, IntKind.min, IntKind.max, IntKind.signed, IntKind.bits] using h
theorem sum_one {α : Type} (xs : List α) : (xs.map fun _ => 1).sum = xs.length := by
 induction xs with
 | nil => rfl
 | cons x xs ih => simp [ih]; omega
theorem mem_sum {α : Type} (f : α → Nat) : ∀ {xs : List α} {x : α}, x ∈ xs → f x ≤ (xs.map f).sum
 | y :: xs, x, h => by
  rcases List.mem_cons.1 h with e | h
  ·subst e; simp
  ·have := mem_sum f h; simp only [List.map_cons, List.sum_cons]; omega
theorem len_sum {α : Type} (f : α → Nat) (hf : ∀ x, 1 ≤ f x) : ∀ xs : List α, xs.length ≤ (xs.map f).sum
 | [] => Nat.le_refl _
 | x :: xs => by have := len_sum f hf xs; have := hf x; simp only [List.map_cons, List.sum_cons, List.length_cons]; omega
theorem cells_3 : Try.prog.cellsOf 3 = 1 := by kernel_rfl
theorem cells_4 : Try.prog.cellsOf 4 = 1 := by kernel_rfl
theorem cells_5 : Try.prog.cellsOf 5 = 1 := by kernel_rfl
theorem cells_23 : Try.prog.cellsOf 23 = 1 := by kernel_rfl
theorem cells_36 : Try.prog.cellsOf 36 = 3 := by kernel_rfl
theorem cells_69 : Try.prog.cellsOf 69 = 4 := by kernel_rfl
theorem opens_bytes {w : World} : Opens Try.prog w 23 (Kslice (Kint .u8)) (fun xs => xs.length + 1) bytesok := by
 intro H enc fuel cs x h
 obtain ⟨y, h1, h2, h3⟩ := opens_slice (e := Kint .u8) Try.underlying23 cells_5 (opens_int Try.underlying5) H enc fuel cs x h
 have h2' : (y.map fun _ => 1).sum + 1 ≤ Rows.uptoBulk x.1 := h2
 rw [sum_one] at h2'
 exact ⟨y, h1, h2', h3⟩
abbrev wt_api_Row (o : api_Row) : Nat := o.Key.length + o.Value.length + 1
def ok_api_Row (o : api_Row) : Prop := bytesok o.Key ∧ bytesok o.Value ∧ intok o.Rev
set_option maxRecDepth 100000 in
theorem opens_api_Row {w : World} : Opens Try.prog w 36 K_api_Row wt_api_Row ok_api_Row := by
 intro H enc fuel cs x h
 obtain ⟨xs, n, rfl, rfl, hl, hxl, hf⟩ := DataW.trod_struct Try.underlying36 h
 rw [cells_36] at hl
 match cs, hl with
 | [v0, v1, v2], _ =>
  match xs, hxl with
  | [x0, x1, x2], _ =>
   have g0 : DataW.trod enc Try.prog w 0 (fun _ => true) true n 23 (([v0, v1, v2].drop 0).take (Try.prog.cellsOf 23)) = some x0 := hf 0 _ rfl
   rw [cells_23] at g0
   replace g0 : DataW.trod enc Try.prog w 0 (fun _ => true) true n 23 [v0] = some x0 := g0
   obtain ⟨y0, ⟨A0, C0, e0, s0⟩, b0, k0⟩ := opens_bytes (w := w) H enc n _ _ g0
   have g1 : DataW.trod enc Try.prog w 0 (fun _ => true) true n 23 (([v0, v1, v2].drop 1).take (Try.prog.cellsOf 23)) = some x1 := hf 1 _ rfl
   rw [cells_23] at g1
   replace g1 : DataW.trod enc Try.prog w 0 (fun _ => true) true n 23 [v1] = some x1 := g1
   obtain ⟨y1, ⟨A1, C1, e1, s1⟩, b1, k1⟩ := opens_bytes (w := w) H enc n _ _ g1
   have g2 : DataW.trod enc Try.prog w 0 (fun _ => true) true n 3 (([v0, v1, v2].drop 2).take (Try.prog.cellsOf 3)) = some x2 := hf 2 _ rfl
   rw [cells_3] at g2
   replace g2 : DataW.trod enc Try.prog w 0 (fun _ => true) true n 3 [v2] = some x2 := g2
   obtain ⟨y2, r2, -, k2⟩ := opens_int (w := w) Try.underlying3 H enc n _ _ g2
   obtain rfl := List.head_eq_of_cons_eq e0
   obtain rfl := List.head_eq_of_cons_eq e1
   obtain rfl : v2 = .int .i64 y2 := List.head_eq_of_cons_eq r2
   refine ⟨⟨y0, y1, y2⟩, ⟨A0, C0, A1, C1, rfl, s0, s1⟩, ?_, ⟨k0, k1, k2⟩⟩
   refine Nat.le_trans ?_ (bulk_agg _)
   simp only [List.map_cons, List.map_nil, Rows.uptoBulkAll]
   have q0 : y0.length + 1 ≤ Rows.uptoBulk x0.1 := b0
   have q1 : y1.length + 1 ≤ Rows.uptoBulk x1.1 := b1
   have q2 := bulk_one x2.1
   show y0.length + y1.length + 1 ≤ _
   omega
abbrev wt_haulagelaw10_Change (o : haulagelaw10_Change) : Nat := wt_api_Row o.Row + 1
def ok_haulagelaw10_Change (o : haulagelaw10_Change) : Prop := ok_api_Row o.Row
set_option maxRecDepth 100000 in
theorem opens_haulagelaw10_Change {w : World} : Opens Try.prog w 69 K_haulagelaw10_Change wt_haulagelaw10_Change ok_haulagelaw10_Change := by
 intro H enc fuel cs x h
 obtain ⟨xs, n, rfl, rfl, hl, hxl, hf⟩ := DataW.trod_struct Try.underlying69 h
 rw [cells_69] at hl
 match cs, hl with
 | [v0, v1, v2, v3], _ =>
  match xs, hxl with
  | [x0, x1], _ =>
   have g0 : DataW.trod enc Try.prog w 0 (fun _ => true) true n 36 (([v0, v1, v2, v3].drop 0).take (Try.prog.cellsOf 36)) = some x0 := hf 0 _ rfl
   rw [cells_36] at g0
   replace g0 : DataW.trod enc Try.prog w 0 (fun _ => true) true n 36 [v0, v1, v2] = some x0 := g0
   obtain ⟨y0, ⟨m0_0, m0_1, m0_2, m0_3, e0, s0_0, s0_1⟩, b0, k0⟩ := opens_api_Row (w := w) H enc n _ _ g0
   have g1 : DataW.trod enc Try.prog w 0 (fun _ => true) true n 4 (([v0, v1, v2, v3].drop 3).take (Try.prog.cellsOf 4)) = some x1 := hf 1 _ rfl
   rw [cells_4] at g1
   replace g1 : DataW.trod enc Try.prog w 0 (fun _ => true) true n 4 [v3] = some x1 := g1
   obtain ⟨y1, r1, -, -⟩ := opens_bool (w := w) Try.underlying4 H enc n _ _ g1
   simp only [List.cons.injEq, and_true] at e0
   obtain ⟨rfl, rfl, rfl⟩ := e0
   obtain rfl : v3 = .bool y1 := List.head_eq_of_cons_eq r1
   refine ⟨⟨y0, y1⟩, ⟨m0_0, m0_1, m0_2, m0_3, rfl, s0_0, s0_1⟩, ?_, k0⟩
   refine Nat.le_trans ?_ (bulk_agg _)
   simp only [List.map_cons, List.map_nil, Rows.uptoBulkAll]
   have q0 : wt_api_Row y0 ≤ Rows.uptoBulk x0.1 := b0
   have q1 := bulk_one x1.1
   show wt_api_Row y0 + 1 ≤ _
   omega
theorem wt_haulagelaw10_Change_pos (o : haulagelaw10_Change) : 1 ≤ wt_haulagelaw10_Change o := by unfold wt_haulagelaw10_Change; omega
theorem arg_changes {H : Type} {enc : TypeId × Value → H} {w : World} {v : Value} {d : DataW H} {p : List MemPlace} (hv : ∃ a len cap, v = .slice a len cap) (h : DataW.Trod enc Try.prog w 0 (fun _ => true) true 22 v d p) :
  ∃ A C xs, v = .slice A xs.length C ∧ SL false K_haulagelaw10_Change 0 0 c0 w A C xs ∧ (xs.map wt_haulagelaw10_Change).sum + 1 ≤ Rows.uptoBulk d ∧ ∀ o ∈ xs, ok_haulagelaw10_Change o := by
 obtain ⟨a, len, cap, rfl⟩ := hv
 obtain ⟨fuel, hf⟩ := h
 obtain ⟨A, C, xs, e, h1, h2, h3⟩ := open_sl (e := K_haulagelaw10_Change) Try.underlying22 cells_69 opens_haulagelaw10_Change hf
 refine ⟨A, C, xs, ?_, h1, h2, h3⟩
 have e' : [Value.slice a len cap] = [.slice A xs.length C] := e
 exact List.head_eq_of_cons_eq e'
end Go.Proofs.Ytdnaoecfnjalgaa.G
namespace Go.Proofs.Ytdnaoecfnjalgaa.G
open Go
set_option linter.unusedVariables false
set_option linter.unusedSimpArgs false
theorem nmF_small : ∀ (f j n : Nat), n < 128 ^ (j + 1) → nmF f n ≤ j
 | 0, _, _, _ => Nat.zero_le _
 | f + 1, 0, n, h => by
  have : n < 128 := by simpa using h
  unfold nmF
  rw [if_pos (by omega)]
  exact Nat.le_refl _
 | f + 1, j + 1, n, h => by
  unfold nmF
  split
  ·omega
  ·have h2 : n / 128 < 128 ^ (j + 1) := by rw [Nat.pow_succ] at h; omega
   have := nmF_small f j (n / 128) h2
   omega
def fx (n : Nat) : List Int := fmP 10 n ++ [IntKind.u8.wrap (fmL 10 n)]
theorem fx_len (n : Nat) : (fx n).length = nmF 10 n + 1 := by unfold fx; rw [List.length_append, fmP_len]; rfl
theorem form_fx {k n : Nat} (hk : Fuel k) (hn : n < 18446744073709551616) : parcel_form.f k (n : Int) = some (fx n) := by
 have h24 : 1099511627776 ≤ k := hk
 have := nmF_le 10 n
 unfold parcel_form.f
 rw [if_pos (by decide), bind_eq (form_loop 10 n k _ (by omega) (by omega) (by simp))]
 unfold parcel_form.j2
 simp only [Int.toNat_zero, List.replicate_zero, List.nil_append]
 rw [if_pos (by rw [fmP_len]; simp; omega)]
 rfl
theorem Byte_eq {room : Int} {b : List Int} {x : Int} (h0 : 0 ≤ x) (h1 : x ≤ 255) (h2 : ((b.length + 1 : Nat) : Int) ≤ room) (h3 : room ≤ 1000000000000) : parcel_Writer_Byte.f (W room b) x = some (W room (b ++ [IntKind.u8.wrap x])) := by
 unfold parcel_Writer_Byte.f parcel_Writer_Byte.j1
 rw [if_neg (by omega), decide_eq_false (by omega), if_neg (by simp), bind_eq (lay_eq (by simpa using h2) h3)]
theorem Text_fx {k : Nat} (hk : Fuel k) {room : Int} {b a : List Int} (h1 : ((b.length + (fx a.length).length + a.length : Nat) : Int) ≤ room) (h2 : room ≤ 1000000000000) :
  parcel_Writer_Text.f k (W room b) a = some (W room (b ++ (fx a.length ++ a))) := by
 have hl := fx_len a.length
 have hn := nmF_le 10 a.length
 have e : ((b.length + (fx a.length ++ a).length : Nat) : Int) ≤ room := by rw [List.length_append]; omega
 unfold parcel_Writer_Text.f
 rw [wru (by omega) (by omega), bind_eq (form_fx hk (by omega)), bind_eq (concat_eq hk (by omega)), bind_eq (lay_eq e h2)]
def zz (x : Int) : Nat := (bxor .u64 (shl .u64 (IntKind.u64.wrap x) 1) (IntKind.u64.wrap (shr .i64 x 63))).toNat
theorem zz_eq (x : Int) : bxor .u64 (shl .u64 (IntKind.u64.wrap x) 1) (IntKind.u64.wrap (shr .i64 x 63)) = (zz x : Int) ∧ zz x < 18446744073709551616 := by
 obtain ⟨n, e, hn⟩ := u64_range (BitVec.ofInt 64 (shl .u64 (IntKind.u64.wrap x) 1) ^^^ BitVec.ofInt 64 (IntKind.u64.wrap (shr .i64 x 63))).toNat
 have e2 : bxor .u64 (shl .u64 (IntKind.u64.wrap x) 1) (IntKind.u64.wrap (shr .i64 x 63)) = (n : Int) := e
 unfold zz
 rw [e2]
 exact ⟨by simp, by simpa using hn⟩
theorem Int_eq {k : Nat} (hk : Fuel k) {room : Int} {b : List Int} (x : Int) (h1 : ((b.length + (fx (zz x)).length : Nat) : Int) ≤ room) (h2 : room ≤ 1000000000000) : parcel_Writer_Int.f k (W room b) x = some (W room (b ++ fx (zz x))) := by
 obtain ⟨e, h⟩ := zz_eq x
 unfold parcel_Writer_Int.f parcel_Writer_Num.f
 rw [e, bind_eq (form_fx hk h), bind_eq (lay_eq h1 h2)]
 rfl
def fnS (h b : Int) : Int := IntKind.u64.wrap ((bxor .u64 h (IntKind.u64.wrap b)) * 1099511628211)
def FN (l : List Int) : Int := l.foldl fnS 14695981039346656037
theorem fnS_range (h b : Int) : 0 ≤ fnS h b ∧ fnS h b < 18446744073709551616 := by
 obtain ⟨n, e, hn⟩ := u64_range ((bxor .u64 h (IntKind.u64.wrap b)) * 1099511628211)
 unfold fnS
 rw [e]; omega
theorem FN_range (l : List Int) : 0 ≤ FN l ∧ FN l < 18446744073709551616 := by
 have key : ∀ (l : List Int) (h : Int), 0 ≤ h ∧ h < 18446744073709551616 → 0 ≤ l.foldl fnS h ∧ l.foldl fnS h < 18446744073709551616 := by
  intro l
  induction l with
  | nil => intro h hh; exact hh
  | cons b l ih => intro h hh; exact ih _ (fnS_range h b)
 exact key l _ (by omega)
theorem fnv_eq {k : Nat} (hk : Fuel k) (p : List Int) (hp : p.length ≤ 1000000000) : seal_FNV.f k [p] = some (FN p) := by
 have h24 : 1099511627776 ≤ k := hk
 unfold seal_FNV.f
 have L := loop_inv (f := fun (s_ : Int × Int) => seal_FNV.b3 k [p] s_.1 s_.2) (I := fun i s => s.2 = (i : Int) ∧ s.1 = if i = 0 then 14695981039346656037 else FN p) (P := fun x => x = FN p) (N := 1) ?_ ?_ 1 0 (14695981039346656037, 0) k ⟨rfl, rfl⟩ rfl (by omega)
 ·obtain ⟨x, e, rfl⟩ := L
  rw [bind_eq e]; rfl
 ·rintro i ⟨h, j⟩ hi ⟨hj, hh⟩
  left
  simp only at hj hh; subst hj
  obtain rfl : i = 0 := by omega
  rw [if_pos rfl] at hh
  subst hh
  have e0 : rd [p] ((0 : Nat) : Int) = p := rfl
  have M := loop_inv (f := fun (s_ : Int × Int) => seal_FNV.b1 [p] ((0 : Nat) : Int) s_.1 s_.2) (I := fun i s => s.2 = (i : Int) ∧ s.1 = (p.take i).foldl fnS 14695981039346656037) (P := fun x => x = FN p) (N := p.length) ?_ ?_ p.length 0 (14695981039346656037, 0) k ⟨rfl, rfl⟩ (by omega) (by omega)
  ·obtain ⟨x, e, rfl⟩ := M
   simp only [seal_FNV.b3]
   rw [if_pos (by simp), if_pos (by simp), bind_eq e]
   exact ⟨_, rfl, rfl, rfl⟩
  ·rintro i ⟨h, j⟩ hi ⟨hj, hh⟩
   left
   simp only at hj hh; subst hj
   simp only [seal_FNV.b1]
   rw [e0, if_pos (by omega), if_pos (by omega), wrS i (by omega), rd_eq hi]
   refine ⟨_, rfl, rfl, ?_⟩
   rw [take_one hi, List.foldl_append, ← hh]; rfl
  ·rintro ⟨h, j⟩ ⟨hj, hh⟩
   simp only at hj hh; subst hj
   simp only [seal_FNV.b1]
   rw [e0, if_neg (by omega)]
   rw [List.take_length] at hh
   exact ⟨_, rfl, hh⟩
 ·rintro ⟨h, j⟩ ⟨hj, hh⟩
  simp only at hj hh; subst hj
  simp only [seal_FNV.b3]
  rw [if_neg (by simp)]
  exact ⟨_, rfl, hh⟩
def mk (bits n : Int) : Int := n % 2 ^ bits.toNat
theorem cut_eq {bits n : Int} (h1 : 1 ≤ bits) (h2 : bits ≤ 64) (h0 : 0 ≤ n) (hn : n < 18446744073709551616) : shr .u64 (shl .u64 n (IntKind.i64.wrap (64 - bits))) (IntKind.i64.wrap (64 - bits)) = mk bits n := by
 obtain ⟨n, rfl⟩ := Int.eq_ofNat_of_zero_le h0
 obtain ⟨s, hs⟩ : ∃ s : Nat, (s : Int) = 64 - bits := ⟨(64 - bits).toNat, by omega⟩
 have hb : bits.toNat = 64 - s := by omega
 rw [wr (by omega) (by omega), ← hs]
 unfold shl shr mk
 have hm : min s 64 = s := by omega
 simp only [Int.toNat_natCast, IntKind.bits, hm, hb]
 have e1 : IntKind.u64.wrap ((n : Int) * 2 ^ s) = ((n * 2 ^ s % 2 ^ 64 : Nat) : Int) := by
  simp only [IntKind.wrap, IntKind.bits, IntKind.signed]
  simp
 rw [e1]
 have e2 : (2 : Int) ^ s = ((2 ^ s : Nat) : Int) := by simp
 have e3 : (2 : Int) ^ (64 - s) = ((2 ^ (64 - s) : Nat) : Int) := by simp
 rw [e2, e3, Int.fdiv_eq_ediv_of_nonneg _ (Int.natCast_nonneg _)]
 have hp : 2 ^ 64 = 2 ^ (64 - s) * 2 ^ s := by rw [← Nat.pow_add]; congr 1; omega
 rw [hp, Nat.mul_mod_mul_right]
 rw [← Int.natCast_ediv, Nat.mul_div_cancel _ (Nat.two_pow_pos s), ← Int.natCast_emod]
theorem band_mask {n : Nat} {b : Nat} (hb : b ≤ 63) (hn : n < 18446744073709551616) : band .u64 (n : Int) ((2 ^ b - 1 : Nat) : Int) = ((n % 2 ^ b : Nat) : Int) := by
 have hlt : 2 ^ b < 2 ^ 64 := Nat.pow_lt_pow_right (by decide) (by omega)
 have hp := Nat.two_pow_pos b
 have hmod : n % 2 ^ b < 2 ^ b := Nat.mod_lt _ hp
 have e0 : (18446744073709551616 : Nat) = 2 ^ 64 := by decide
 unfold band
 have e1 : (BitVec.ofInt IntKind.u64.bits (n : Int) &&& BitVec.ofInt IntKind.u64.bits ((2 ^ b - 1 : Nat) : Int)).toNat = n % 2 ^ b := by
  rw [BitVec.toNat_and]
  simp only [BitVec.ofInt_natCast, BitVec.toNat_ofNat, IntKind.bits]
  rw [Nat.mod_eq_of_lt (by omega), Nat.mod_eq_of_lt (by omega), Nat.and_two_pow_sub_one_eq_mod]
 rw [e1]
 simp only [IntKind.wrap, IntKind.bits, IntKind.signed]
 simp
 have h2 : ((n % 2 ^ b : Nat) : Int) < 18446744073709551616 := by omega
 have h3 : ((n % 2 ^ b : Nat) : Int) = (n : Int) % 2 ^ b := by simp
 rw [← h3]
 exact Int.emod_eq_of_lt (by omega) h2
theorem mask_eq {bits n : Int} (h1 : 1 ≤ bits) (h2 : bits ≤ 64) (h0 : 0 ≤ n) (hn : n < 18446744073709551616) : haulagelaw10_mask.f n bits = some (mk bits n) := by
 obtain ⟨n, rfl⟩ := Int.eq_ofNat_of_zero_le h0
 unfold haulagelaw10_mask.f mk
 by_cases c : 64 ≤ bits
 ·obtain rfl : bits = 64 := by omega
  rw [if_pos c, Int.emod_eq_of_lt h0 (by simpa using hn)]
 ·obtain ⟨b, rfl⟩ := Int.eq_ofNat_of_zero_le (show 0 ≤ bits by omega)
  have e1 : IntKind.u64.wrap (b : Int) = b := wru (by omega) (by omega)
  have hb : b ≤ 63 := by omega
  have hlt : 2 ^ b < 2 ^ 64 := Nat.pow_lt_pow_right (by decide) (by omega)
  have hp := Nat.two_pow_pos b
  have e2 : shl .u64 1 (b : Int) = ((2 ^ b : Nat) : Int) := by
   unfold shl
   have hm : min b 64 = b := by omega
   simp only [Int.toNat_natCast, IntKind.bits, hm, Int.one_mul]
   have e3 : (2 : Int) ^ b = ((2 ^ b : Nat) : Int) := by simp
   rw [e3]
   simp only [IntKind.wrap, IntKind.bits, IntKind.signed]
   simp only [Bool.false_eq_true, if_false, false_and, Bool.and_false, Bool.false_and]
   have e0 : (2 : Int) ^ 64 = ((2 ^ 64 : Nat) : Int) := by simp
   first
    | exact Int.emod_eq_of_lt (by omega) (by omega)
    | (simp; exact Int.emod_eq_of_lt (by omega) (by omega))
  have e4 : IntKind.u64.wrap (((2 ^ b : Nat) : Int) - 1) = ((2 ^ b - 1 : Nat) : Int) := by
   have e5 : ((2 ^ b : Nat) : Int) - 1 = ((2 ^ b - 1 : Nat) : Int) := by omega
   have hm : ((2 ^ b : Nat) : Int) < 18446744073709551616 := by
    have : (18446744073709551616 : Nat) = 2 ^ 64 := by decide
    omega
   rw [e5]
   simp only [IntKind.wrap, IntKind.bits, IntKind.signed]
   simp only [Bool.false_eq_true, if_false, false_and, Bool.and_false, Bool.false_and]
   first
    | exact Int.emod_eq_of_lt (by omega) (by omega)
    | (simp; exact Int.emod_eq_of_lt (by omega) (by omega))
  rw [if_neg c, e1, if_pos (by omega), e2, e4, band_mask hb (by omega)]
  simp
end Go.Proofs.Ytdnaoecfnjalgaa.G