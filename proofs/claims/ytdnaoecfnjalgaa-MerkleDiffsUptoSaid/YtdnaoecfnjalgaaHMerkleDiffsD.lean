/- Words and laws on which the row of 'MerkleDiffs' hangs (its '..UptoSaid': bulk at most 1048576). -/
import Derived.Test.YtdnaoecfnjalgaaHMerkleDiffsA
import Derived.Test.YtdnaoecfnjalgaaHMerkleDiffsB
import Derived.Test.YtdnaoecfnjalgaaHMerkleDiffsC
import Derived.Shelf.SlSortCmp.NoneTotal
import Derived.Ground.SlsfProg
import Derived.Shelf.SlGeneric
import Derived.Test.YtdnaoecfnjalgaaProg
import Derived.Laws.OwnMore
import Derived.Laws.Strings
namespace Go.Proofs.Ytdnaoecfnjalgaa.G
open Go Go.RowKit
set_option linter.unusedVariables false
set_option linter.unusedSimpArgs false
set_option maxRecDepth 100000
set_option maxHeartbeats 40000000
theorem merkle_Tree_changed.calls (k : Nat) {m : Nat} {c0 : Nat → Nat} {w0 : World} {j4 : Nat} {j5 : Nat} {p2 : Option Addr} {a1 : Option Mer} {a6 : Int} (hm0 : 0 < m) (B0 : CB m c0 w0) (h3 : ME j4 j5 c0 w0 p2 a1) (bj4 : 0 < j4 ∧ j4 < m) (bj5 : 0 < j5 ∧ j5 < m ∧ j5 ≠ j4) (r : (Option Mer)) (H : merkle_Tree_changed.f k a1 a6 = some r) : Calls Try.prog 57 #[.pointer p2, .int .i64 a6] w0 (fun e w_ => ∃ (c_ : Nat → Nat), e = .returned (.tuple #[]) ∧ Ev (fun x => (x = j4 ∨ x = j5)) c0 w0 c_ w_ ∧ CB m c_ w_ ∧ ME j4 j5 c_ w_ p2 r) := by
 unfold merkle_Tree_changed.f at H; have B := B0.mono (show m ≤ m + 1 by omega); have E : Ev (fun x => (x = j4 ∨ x = j5) ∨ m ≤ x) c0 w0 c0 w0 := Ev.refl; refine enter (N := 54) (l := [.pointer p2, .int .i64 a6]) Try.func57 rfl rfl (nb rfl) fun a F => ?_; refine sr fun K7 hK7 => qm F fun a F => ?_; refine qv F (r_add F rfl rfl) fun a F => ?_; refine qa F fun a F => nil (hK7 _ _ ?_); refine sq fun K8 hK8 => ?_; have J83 : ∀ (c84 : Nat → Nat) (w85 : World) (a : Act) (ad12 : Addr) (ob9 : Mer) (cs16 : List Value) (t31 : Int) (cs81 : List Value), p2 = some ad12 → Fr a 54 [(0, .pointer (some ad12)), (4, .int .i64 (IntKind.i64.wrap (256 + a6)))] → Ev (fun x => (x = j4 ∨ x = j5) ∨ m ≤ x) c0 w0 c84 w85 → CB (m + 1) c84 w85 → AT true j4 c84 w85 ad12 (([.int .i64 ob9.bits] : List Value) ++ (cs81 ++ (([] : List Value) ++ (cs16 ++ (([.int .i64 ob9.many] : List Value)))))) → ARO (KOsl K_api_Row) j5 c84 w85 cs16 256 ob9.rows noHole → AR (Kint .u64) 0 c84 w85 cs81 512 (ob9.digests.set (IntKind.i64.wrap (256 + a6)).toNat t31) → merkle_Tree_changed.j1 k a6 ob9 t31 = some r → K8 a w85 := by
  intro c84 w85 a ad12 ob9 cs16 t31 cs81 qe86 F E B hat13 h17 h82 H; unfold merkle_Tree_changed.j1 at H; refine hK8 _ _ ?_; refine sr fun K87 hK87 => qm F fun a F => ?_; refine qv F (r_quo F rfl rfl (by decide)) fun a F => ?_; refine qa F fun a F => nil (hK87 _ _ ?_); refine wp_block ?_; obtain ⟨x182, HL, HR181⟩ := bind_some H; have J258 : ∀ (c259 : Nat → Nat) (w260 : World) (a : Act) (l256 : List Int) (cs257 : List Value), Fr a 54 [] → Ev (fun x => (x = j4 ∨ x = j5) ∨ m ≤ x) c0 w0 c259 w260 → CB (m + 1) c259 w260 → AT true j4 c259 w260 ad12 (([.int .i64 ob9.bits] : List Value) ++ (cs257 ++ (([] : List Value) ++ (cs16 ++ (([.int .i64 ob9.many] : List Value)))))) → ARO (KOsl K_api_Row) j5 c259 w260 cs16 256 ob9.rows noHole → AR (Kint .u64) 0 c259 w260 cs257 512 l256 → merkle_Tree_changed.j3 ob9 l256 = some r → (bodyPost Try.prog Try.f57 (fun e w_ => ∃ (c_ : Nat → Nat), e = .returned (.tuple #[]) ∧ Ev (fun x => (x = j4 ∨ x = j5)) c0 w0 c_ w_ ∧ CB m c_ w_ ∧ ME j4 j5 c_ w_ p2 r) .normal) a w260 := by
   intro c259 w260 a l256 cs257 F E B hat13 h17 h255 H; unfold merkle_Tree_changed.j3 at H; have h261 : ME j4 j5 c259 w260 (some ad12) (some (Mer.mk ob9.bits l256 ob9.rows ob9.many)) := ME.mk hat13 h255 h17; obtain rfl := si H
   first | refine out0n F rfl ?_ | refine inbN (out0n F rfl ?_) | refine inbN (inbN (out0n F rfl ?_)) | refine inbN (inbN (inbN (out0n F rfl ?_)))
   exact ⟨cf (ct m) c259, rfl, E.lv B0, cfb, (by rw [qe86]; exact ME.rc h261 cfk cfk cfk (by omega))⟩
  refine loop_fuel (I := fun n a w => ∃ (i169 : Int) (l172 : List Int) (cs170 : List Value) (c : Nat → Nat), Fr a 54 [(0, .pointer (some ad12)), (4, .int .i64 i169)] ∧ Ev (fun x => (x = j4 ∨ x = j5) ∨ m ≤ x) c0 w0 c w ∧ CB (m + 1) c w ∧ AT true j4 c w ad12 (([.int .i64 ob9.bits] : List Value) ++ (cs170 ++ (([] : List Value) ++ (cs16 ++ (([.int .i64 ob9.many] : List Value)))))) ∧ ARO (KOsl K_api_Row) j5 c w cs16 256 ob9.rows noHole ∧ AR (Kint .u64) 0 c w cs170 512 l172 ∧ loop (fun (s_ : Int × (List Int)) => merkle_Tree_changed.b2 k ob9 s_.1 s_.2) n (i169, l172) = some x182) (k := k) ⟨(IntKind.i64.wrap (Int.tdiv (IntKind.i64.wrap (256 + a6)) 2)), (ob9.digests.set (IntKind.i64.wrap (256 + a6)).toNat t31), cs81, c84, F.sub ⟨rfl, rfl, trivial⟩, E, B, hat13, h17, h82, HL⟩ ?_; clear HL H E F B; intro n179 X175 hX175 a w174 ⟨i169, l172, cs170, c173, F, E, B, hat13, h17, h171, HL⟩; obtain ⟨n180, ctl178, rfl, HB, HN176, HD177⟩ := loop_some HL; have H : merkle_Tree_changed.b2 k ob9 i169 l172 = some ctl178 := HB; clear HB HL; unfold merkle_Tree_changed.b2 at H; refine sq fun K183 hK183 => ?_; refine sr fun K184 hK184 => qm F fun a F => ?_; refine qv F (r_gtr F rfl rfl) fun a F => ?_; refine nil (hK184 _ _ ?_)
  by_cases hb185 : 0 < i169
  ·replace H := ip hb185 H; refine wct (fb F (dt hb185)) (wp_skip (hK183 _ _ ?_)); refine sq fun K186 hK186 => ?_; refine wp_block ?_; refine regD (SB No c173 w174) 25 (.q 0 (.q 1 (.q 2 (.q 3 (.q 4 (.q 5 (.q 6 (.q 7 (.q 8 (.q 9 (.q 10 (.q 11 (.q 12 (.q 13 (.q 14 (.q 15 (.q 16 (.q 17 (.q 18 (.q 19 (.q 20 (.f 21 (.e 22 (.e 23 (.q 24 (.e 25 .nil)))) 22 (.f 21 (.e 23 (.q 24 (.e 25 .nil))) 23 (.e 21 (.q 24 (.e 25 .nil)))))))))))))))))))))))))) Try_hm (by decide +kernel) ?_; intro w187 w1_ w2_ w3_ w4_; have E188 : Ev No c173 w174 c173 w187 := Ev.same w1_ w2_ w3_ w4_; replace B := B.same w1_; have zhat13 := hat13; have zh171 := h171; have ER : Ev No c173 w174 c173 w187 := Ev.same w1_ w2_ w3_ w4_; replace hat13 := hat13.ev E188; replace h17 := h17.ev E188; replace h171 := h171.ev E188; replace E := E.n E188; refine dm F ER.sb fun a F => ?_; refine dm F ER.sb fun a F => ?_; refine dm F ER.sb fun a F => ?_; refine dm F ER.sb fun a F => ?_; refine dq F (fun wq hS => r_mul F rfl rfl) ER.sb fun a F => ?_; refine di F ER.sb fun a F => ?_; refine df F ff_75_1 ER.sb fun a F => ?_; replace H := ifN H; obtain ⟨g189, H⟩ := H; obtain ⟨cs191, h192, r193⟩ := AR.at (off := 1) zhat13 rfl zh171 (IntKind.i64.wrap (2 * i169)) g189.1 (by have g_ := g189.2; omega); obtain rfl : cs191 = [.int .u64 (rd l172 (IntKind.i64.wrap (2 * i169)))] := r193; obtain ⟨qa194, qqa194⟩ : ∃ q, q = (ad12.add (1 + (IntKind.i64.wrap (2 * i169)).toNat * 1)) := ⟨_, rfl⟩; have h192 : AT true j4 c173 w174 qa194 [.int .u64 (rd l172 (IntKind.i64.wrap (2 * i169)))] := by rw [qqa194]; exact h192
   have zh192 := h192; refine dq F (fun wq hS => r_indexArr3 F ua_72 sz_30 rfl rfl g189.1 (by have g_ := g189.2; omega) hat13 qqa194) ER.sb fun a F => ?_; refine dq F (fun wq hS => r_load F rfl ag_30 (AT.cell0 (AT.sb zh192 hS nq) rfl)) ER.sb fun a F => ?_; refine dm F ER.sb fun a F => ?_; refine dm F ER.sb fun a F => ?_; refine dq F (fun wq hS => r_mul F rfl rfl) ER.sb fun a F => ?_; refine dq F (fun wq hS => r_add F rfl rfl) ER.sb fun a F => ?_; refine di F ER.sb fun a F => ?_; refine df F ff_75_1 ER.sb fun a F => ?_; replace H := ifN H; obtain ⟨g196, H⟩ := H; obtain ⟨cs198, h199, r200⟩ := AR.at (off := 1) zhat13 rfl zh171 (IntKind.i64.wrap ((IntKind.i64.wrap (2 * i169)) + 1)) g196.1 (by have g_ := g196.2; omega); obtain rfl : cs198 = [.int .u64 (rd l172 (IntKind.i64.wrap ((IntKind.i64.wrap (2 * i169)) + 1)))] := r200; obtain ⟨qa201, qqa201⟩ : ∃ q, q = (ad12.add (1 + (IntKind.i64.wrap ((IntKind.i64.wrap (2 * i169)) + 1)).toNat * 1)) := ⟨_, rfl⟩; have h199 : AT true j4 c173 w174 qa201 [.int .u64 (rd l172 (IntKind.i64.wrap ((IntKind.i64.wrap (2 * i169)) + 1)))] := by rw [qqa201]; exact h199
   have zh199 := h199; refine dq F (fun wq hS => r_indexArr3 F ua_72 sz_30 rfl rfl g196.1 (by have g_ := g196.2; omega) hat13 qqa201) ER.sb fun a F => ?_; refine dq F (fun wq hS => r_load F rfl ag_30 (AT.cell0 (AT.sb zh199 hS nq) rfl)) ER.sb fun a F => ?_; refine dm F ER.sb fun a F => ?_; refine di F ER.sb fun a F => ?_; refine df F ff_75_0 ER.sb fun a F => ?_; refine dq F (fun wq hS => r_load F rfl ag_3 (AT.cell (AT.ev zhat13 hS nq) rfl)) ER.sb fun a F => ?_; refine d_f ?_ ?_
   ·obtain ⟨t119, q120, H⟩ := bind_some H; refine oc F Try.func38 (merkle_ofPair.calls k (m := m + 1) (pl hm0) B _ q120) ?_; rintro e w204 ⟨c203, rfl, E205, B⟩; refine rt fun a F => ?_; replace ER := ER.trans E205 nx; replace hat13 := hat13.ev E205; replace h17 := h17.ev E205; replace h171 := h171.ev E205; replace E := E.n E205; refine ⟨fun _ => ER.sb, ?_⟩; refine d_e ?_; refine o_val F rfl rfl rfl (by decide) (r_nil F rfl) fun a F => ?_; refine ⟨fun _ => ER.sb, ?_⟩; refine d_e ?_; refine o_val F rfl rfl rfl (by decide) (r_fieldAddr F rfl ff_75_1) fun a F => ?_; refine ⟨fun _ => ER.sb, ?_⟩; replace H := ifN H; obtain ⟨g208, H⟩ := H; obtain ⟨cs210, h211, r212⟩ := AR.at (off := 1) zhat13 rfl zh171 i169 g208.1 (by have g_ := g208.2; omega); obtain rfl : cs210 = [.int .u64 (rd l172 i169)] := r212; obtain ⟨qa213, qqa213⟩ : ∃ q, q = (ad12.add (1 + i169.toNat * 1)) := ⟨_, rfl⟩; have h211 : AT true j4 c173 w174 qa213 [.int .u64 (rd l172 i169)] := by rw [qqa213]; exact h211
    replace h211 := h211.ev ER nq; refine dq F (fun wq hS => r_indexArr3 F ua_72 sz_30 rfl rfl g208.1 (by have g_ := g208.2; omega) hat13 qqa213) ER.sb fun a F => ?_; refine d_e ?_; refine o_eff0 F rfl rfl rfl (e_storear0 F rfl rfl sz_30 hat13 rfl h171 (m := i169.toNat) (by have g_ := g208; omega) qqa213 h211 rfl (nb rfl) rfl t119 rfl (ne_z bj4.1)) ?_; rintro w215 a ⟨cs218, E216, hat13, h171, Z217⟩ F; replace B := B.size Z217; replace h17 := h17.ev E216 bj5.2.2 (ne_z bj4.1); replace E := E.trans E216 (fun x (q : x = j4) => Or.inl (Or.inl q)); replace hat13 : AT true j4 c203 w215 ad12 (([.int .i64 ob9.bits] : List Value) ++ (cs218 ++ (([] : List Value) ++ (cs16 ++ (([.int .i64 ob9.many] : List Value)))))) := hat13; refine ⟨fun q => absurd rfl q, ?_⟩; refine d_nil ?_; refine hK186 _ _ ?_; replace F : Fr a 54 [(0, .pointer (some ad12)), (4, .int .i64 i169)] := F.sub ⟨rfl, rfl, trivial⟩; refine reg ?_; refine qm F fun a F => ?_; refine qv F (r_quo F rfl rfl (by decide)) fun a F => ?_; refine qa F fun a F => nil ?_; replace H := HN176 _ (si H).symm; exact hX175 _ _ _ (Nat.lt_succ_self _) ⟨(IntKind.i64.wrap (Int.tdiv i169 2)), (l172.set i169.toNat t119), cs218, c203, F.sub ⟨rfl, rfl, trivial⟩, E, B, hat13, h17, h171, H⟩
   obtain ⟨t119, q120, H⟩ := bind_some H; refine o_val F rfl rfl rfl (by decide) (r_nil F rfl) fun a F => ?_; refine ⟨fun _ => ER.sb, ?_⟩; refine d_f ?_ ?_
   ·refine oc F Try.func38 (merkle_ofPair.calls k (m := m + 1) (pl hm0) B _ q120) ?_; rintro e w220 ⟨c219, rfl, E221, B⟩; refine rt fun a F => ?_; replace ER := ER.trans E221 nx; replace hat13 := hat13.ev E221; replace h17 := h17.ev E221; replace h171 := h171.ev E221; replace E := E.n E221; refine ⟨fun _ => ER.sb, ?_⟩; refine d_e ?_; refine o_val F rfl rfl rfl (by decide) (r_fieldAddr F rfl ff_75_1) fun a F => ?_; refine ⟨fun _ => ER.sb, ?_⟩; replace H := ifN H; obtain ⟨g224, H⟩ := H; obtain ⟨cs226, h227, r228⟩ := AR.at (off := 1) zhat13 rfl zh171 i169 g224.1 (by have g_ := g224.2; omega); obtain rfl : cs226 = [.int .u64 (rd l172 i169)] := r228; obtain ⟨qa229, qqa229⟩ : ∃ q, q = (ad12.add (1 + i169.toNat * 1)) := ⟨_, rfl⟩; have h227 : AT true j4 c173 w174 qa229 [.int .u64 (rd l172 i169)] := by rw [qqa229]; exact h227
    replace h227 := h227.ev ER nq; refine dq F (fun wq hS => r_indexArr3 F ua_72 sz_30 rfl rfl g224.1 (by have g_ := g224.2; omega) hat13 qqa229) ER.sb fun a F => ?_; refine d_e ?_; refine o_eff0 F rfl rfl rfl (e_storear0 F rfl rfl sz_30 hat13 rfl h171 (m := i169.toNat) (by have g_ := g224; omega) qqa229 h227 rfl (nb rfl) rfl t119 rfl (ne_z bj4.1)) ?_; rintro w231 a ⟨cs234, E232, hat13, h171, Z233⟩ F; replace B := B.size Z233; replace h17 := h17.ev E232 bj5.2.2 (ne_z bj4.1); replace E := E.trans E232 (fun x (q : x = j4) => Or.inl (Or.inl q)); replace hat13 : AT true j4 c219 w231 ad12 (([.int .i64 ob9.bits] : List Value) ++ (cs234 ++ (([] : List Value) ++ (cs16 ++ (([.int .i64 ob9.many] : List Value)))))) := hat13; refine ⟨fun q => absurd rfl q, ?_⟩; refine d_nil ?_; refine hK186 _ _ ?_; replace F : Fr a 54 [(0, .pointer (some ad12)), (4, .int .i64 i169)] := F.sub ⟨rfl, rfl, trivial⟩; refine reg ?_; refine qm F fun a F => ?_; refine qv F (r_quo F rfl rfl (by decide)) fun a F => ?_; refine qa F fun a F => nil ?_; replace H := HN176 _ (si H).symm; exact hX175 _ _ _ (Nat.lt_succ_self _) ⟨(IntKind.i64.wrap (Int.tdiv i169 2)), (l172.set i169.toNat t119), cs234, c219, F.sub ⟨rfl, rfl, trivial⟩, E, B, hat13, h17, h171, H⟩
   refine o_val F rfl rfl rfl (by decide) (r_fieldAddr F rfl ff_75_1) fun a F => ?_; refine ⟨fun _ => ER.sb, ?_⟩; refine d_e ?_; refine oc F Try.func38 (merkle_ofPair.calls k (m := m + 1) (pl hm0) B _ q120) ?_; rintro e w236 ⟨c235, rfl, E237, B⟩; refine rt fun a F => ?_; replace ER := ER.trans E237 nx; replace hat13 := hat13.ev E237; replace h17 := h17.ev E237; replace h171 := h171.ev E237; replace E := E.n E237; refine ⟨fun _ => ER.sb, ?_⟩; replace H := ifN H; obtain ⟨g240, H⟩ := H; obtain ⟨cs242, h243, r244⟩ := AR.at (off := 1) zhat13 rfl zh171 i169 g240.1 (by have g_ := g240.2; omega); obtain rfl : cs242 = [.int .u64 (rd l172 i169)] := r244; obtain ⟨qa245, qqa245⟩ : ∃ q, q = (ad12.add (1 + i169.toNat * 1)) := ⟨_, rfl⟩; have h243 : AT true j4 c173 w174 qa245 [.int .u64 (rd l172 i169)] := by rw [qqa245]; exact h243
   replace h243 := h243.ev ER nq; refine dq F (fun wq hS => r_indexArr3 F ua_72 sz_30 rfl rfl g240.1 (by have g_ := g240.2; omega) hat13 qqa245) ER.sb fun a F => ?_; refine d_e ?_; refine o_eff0 F rfl rfl rfl (e_storear0 F rfl rfl sz_30 hat13 rfl h171 (m := i169.toNat) (by have g_ := g240; omega) qqa245 h243 rfl (nb rfl) rfl t119 rfl (ne_z bj4.1)) ?_; rintro w247 a ⟨cs250, E248, hat13, h171, Z249⟩ F; replace B := B.size Z249; replace h17 := h17.ev E248 bj5.2.2 (ne_z bj4.1); replace E := E.trans E248 (fun x (q : x = j4) => Or.inl (Or.inl q)); replace hat13 : AT true j4 c235 w247 ad12 (([.int .i64 ob9.bits] : List Value) ++ (cs250 ++ (([] : List Value) ++ (cs16 ++ (([.int .i64 ob9.many] : List Value)))))) := hat13; refine ⟨fun q => absurd rfl q, ?_⟩; refine d_nil ?_; refine hK186 _ _ ?_; replace F : Fr a 54 [(0, .pointer (some ad12)), (4, .int .i64 i169)] := F.sub ⟨rfl, rfl, trivial⟩; refine reg ?_; refine qm F fun a F => ?_; refine qv F (r_quo F rfl rfl (by decide)) fun a F => ?_; refine qa F fun a F => nil ?_; replace H := HN176 _ (si H).symm; exact hX175 _ _ _ (Nat.lt_succ_self _) ⟨(IntKind.i64.wrap (Int.tdiv i169 2)), (l172.set i169.toNat t119), cs250, c235, F.sub ⟨rfl, rfl, trivial⟩, E, B, hat13, h17, h171, H⟩
  replace H := im hb185 H; refine wcf (fb F (dz hb185)) ?_; refine wp_exit ?_; refine thenE ?_; refine thenE ?_; refine inbE ?_; have hx_ := HD177 _ (si H).symm; have H := HR181; rw [← hx_] at H; exact J258 c173 w174 a l172 cs170 (F.sub trivial) E B hat13 h17 h171 H
 obtain ⟨ob9, e10, H⟩ := bind_some H; have z11 := h3; rw [e10] at z11; obtain ⟨ad12, cs14, cs16, rfl, hat13, h15, h17⟩ := ME.some z11; refine regD (SB No c0 w0) 16 (.q 0 (.q 1 (.q 2 (.q 3 (.q 4 (.q 5 (.q 6 (.q 7 (.q 8 (.q 9 (.q 10 (.q 11 (.f 12 (.e 13 (.e 14 (.q 15 (.e 16 .nil)))) 13 (.f 12 (.e 14 (.q 15 (.e 16 .nil))) 14 (.e 12 (.q 15 (.e 16 .nil))))))))))))))))) Try_hm (by decide +kernel) ?_; intro w19 w1_ w2_ w3_ w4_; have E20 : Ev No c0 w0 c0 w19 := Ev.same w1_ w2_ w3_ w4_; replace B := B.same w1_; have zh15 := h15; have zh17 := h17; have zhat13 := hat13; have ER : Ev No c0 w0 c0 w19 := Ev.same w1_ w2_ w3_ w4_; replace h15 := h15.ev E20; replace h17 := h17.ev E20; replace hat13 := hat13.ev E20; replace E := E.n E20; refine dm F ER.sb fun a F => ?_; refine dm F ER.sb fun a F => ?_; refine dm F ER.sb fun a F => ?_; refine dm F ER.sb fun a F => ?_; refine di F ER.sb fun a F => ?_; refine df F ff_75_2 ER.sb fun a F => ?_; replace H := ifN H; obtain ⟨g21, H⟩ := H; obtain ⟨cs23, h24, r25⟩ := ARO.at (off := 513) (AT.eqv (ds := (([.int .i64 ob9.bits] : List Value) ++ (cs14 ++ (([] : List Value)))) ++ (cs16 ++ (([.int .i64 ob9.many] : List Value)))) zhat13 (by simp only [List.append_assoc])) (by have l0_ : cs14.length = 512 := (h15.1 : cs14.length = 512); simp only [List.length_append, List.length_cons, List.length_nil] <;> omega) zh17 a6 g21.1 (by have g_ := g21.2; omega); obtain ⟨A27, C28, rfl, h29⟩ := r25; obtain ⟨qa26, qqa26⟩ : ∃ q, q = (ad12.add (513 + a6.toNat * 1)) := ⟨_, rfl⟩; have h24 : AT true j4 c0 w0 qa26 [.slice A27 (rd ob9.rows a6).length C28] := by rw [qqa26]; exact h24
 replace h29 := h29.ev ER nq nq; have zh24 := h24; refine dq F (fun wq hS => r_indexArr3 F ua_73 sz_27 rfl rfl g21.1 (by have g_ := g21.2; omega) hat13 qqa26) ER.sb fun a F => ?_; refine dq F (fun wq hS => r_load F rfl ag_27 (AT.cell0 (AT.sb zh24 hS nq) rfl)) ER.sb fun a F => ?_; refine dm F ER.sb fun a F => ?_; refine di F ER.sb fun a F => ?_; refine df F ff_75_0 ER.sb fun a F => ?_; refine dq F (fun wq hS => r_load F rfl ag_3 (AT.cell (AT.ev zhat13 hS nq) rfl)) ER.sb fun a F => ?_; refine d_f ?_ ?_
 ·obtain ⟨t31, q32, H⟩ := bind_some H; refine oc F Try.func37 (merkle_ofBucket.calls k (m := m + 1) (pl hm0) B h29.r (Nat.lt_add_right _ bj5.2.1) _ q32) ?_; rintro e w34 ⟨c33, rfl, E35, B⟩; refine rt fun a F => ?_; replace ER := ER.trans E35 nx; replace h15 := h15.ev E35; replace h17 := h17.ev E35; replace hat13 := hat13.ev E35; replace E := E.n E35; refine ⟨fun _ => ER.sb, ?_⟩; refine d_e ?_; refine o_val F rfl rfl rfl (by decide) (r_nil F rfl) fun a F => ?_; refine ⟨fun _ => ER.sb, ?_⟩; refine d_e ?_; refine o_val F rfl rfl rfl (by decide) (r_fieldAddr F rfl ff_75_1) fun a F => ?_; refine ⟨fun _ => ER.sb, ?_⟩; replace H := ifN H; obtain ⟨g38, H⟩ := H; obtain ⟨cs40, h41, r42⟩ := AR.at (off := 1) zhat13 rfl zh15 (IntKind.i64.wrap (256 + a6)) g38.1 (by have g_ := g38.2; omega); obtain rfl : cs40 = [.int .u64 (rd ob9.digests (IntKind.i64.wrap (256 + a6)))] := r42; obtain ⟨qa43, qqa43⟩ : ∃ q, q = (ad12.add (1 + (IntKind.i64.wrap (256 + a6)).toNat * 1)) := ⟨_, rfl⟩; have h41 : AT true j4 c0 w0 qa43 [.int .u64 (rd ob9.digests (IntKind.i64.wrap (256 + a6)))] := by rw [qqa43]; exact h41
  replace h41 := h41.ev ER nq; refine dq F (fun wq hS => r_indexArr3 F ua_72 sz_30 rfl rfl g38.1 (by have g_ := g38.2; omega) hat13 qqa43) ER.sb fun a F => ?_; refine d_e ?_; refine o_eff0 F rfl rfl rfl (e_storear0 F rfl rfl sz_30 hat13 rfl h15 (m := (IntKind.i64.wrap (256 + a6)).toNat) (by have g_ := g38; omega) qqa43 h41 rfl (nb rfl) rfl t31 rfl (ne_z bj4.1)) ?_; rintro w45 a ⟨cs48, E46, hat13, h15, Z47⟩ F; replace B := B.size Z47; replace h17 := h17.ev E46 bj5.2.2 (ne_z bj4.1); replace E := E.trans E46 (fun x (q : x = j4) => Or.inl (Or.inl q)); replace hat13 : AT true j4 c33 w45 ad12 (([.int .i64 ob9.bits] : List Value) ++ (cs48 ++ (([] : List Value) ++ (cs16 ++ (([.int .i64 ob9.many] : List Value)))))) := hat13; refine ⟨fun q => absurd rfl q, ?_⟩; refine d_nil ?_; exact J83 c33 w45 a ad12 ob9 cs16 t31 cs48 rfl (F.sub ⟨rfl, rfl, trivial⟩) E B hat13 h17 h15 H
 obtain ⟨t31, q32, H⟩ := bind_some H; refine o_val F rfl rfl rfl (by decide) (r_nil F rfl) fun a F => ?_; refine ⟨fun _ => ER.sb, ?_⟩; refine d_f ?_ ?_
 ·refine oc F Try.func37 (merkle_ofBucket.calls k (m := m + 1) (pl hm0) B h29.r (Nat.lt_add_right _ bj5.2.1) _ q32) ?_; rintro e w50 ⟨c49, rfl, E51, B⟩; refine rt fun a F => ?_; replace ER := ER.trans E51 nx; replace h15 := h15.ev E51; replace h17 := h17.ev E51; replace hat13 := hat13.ev E51; replace E := E.n E51; refine ⟨fun _ => ER.sb, ?_⟩; refine d_e ?_; refine o_val F rfl rfl rfl (by decide) (r_fieldAddr F rfl ff_75_1) fun a F => ?_; refine ⟨fun _ => ER.sb, ?_⟩; replace H := ifN H; obtain ⟨g54, H⟩ := H; obtain ⟨cs56, h57, r58⟩ := AR.at (off := 1) zhat13 rfl zh15 (IntKind.i64.wrap (256 + a6)) g54.1 (by have g_ := g54.2; omega); obtain rfl : cs56 = [.int .u64 (rd ob9.digests (IntKind.i64.wrap (256 + a6)))] := r58; obtain ⟨qa59, qqa59⟩ : ∃ q, q = (ad12.add (1 + (IntKind.i64.wrap (256 + a6)).toNat * 1)) := ⟨_, rfl⟩; have h57 : AT true j4 c0 w0 qa59 [.int .u64 (rd ob9.digests (IntKind.i64.wrap (256 + a6)))] := by rw [qqa59]; exact h57
  replace h57 := h57.ev ER nq; refine dq F (fun wq hS => r_indexArr3 F ua_72 sz_30 rfl rfl g54.1 (by have g_ := g54.2; omega) hat13 qqa59) ER.sb fun a F => ?_; refine d_e ?_; refine o_eff0 F rfl rfl rfl (e_storear0 F rfl rfl sz_30 hat13 rfl h15 (m := (IntKind.i64.wrap (256 + a6)).toNat) (by have g_ := g54; omega) qqa59 h57 rfl (nb rfl) rfl t31 rfl (ne_z bj4.1)) ?_; rintro w61 a ⟨cs64, E62, hat13, h15, Z63⟩ F; replace B := B.size Z63; replace h17 := h17.ev E62 bj5.2.2 (ne_z bj4.1); replace E := E.trans E62 (fun x (q : x = j4) => Or.inl (Or.inl q)); replace hat13 : AT true j4 c49 w61 ad12 (([.int .i64 ob9.bits] : List Value) ++ (cs64 ++ (([] : List Value) ++ (cs16 ++ (([.int .i64 ob9.many] : List Value)))))) := hat13; refine ⟨fun q => absurd rfl q, ?_⟩; refine d_nil ?_; exact J83 c49 w61 a ad12 ob9 cs16 t31 cs64 rfl (F.sub ⟨rfl, rfl, trivial⟩) E B hat13 h17 h15 H
 refine o_val F rfl rfl rfl (by decide) (r_fieldAddr F rfl ff_75_1) fun a F => ?_; refine ⟨fun _ => ER.sb, ?_⟩; refine d_e ?_; refine oc F Try.func37 (merkle_ofBucket.calls k (m := m + 1) (pl hm0) B h29.r (Nat.lt_add_right _ bj5.2.1) _ q32) ?_; rintro e w66 ⟨c65, rfl, E67, B⟩; refine rt fun a F => ?_; replace ER := ER.trans E67 nx; replace h15 := h15.ev E67; replace h17 := h17.ev E67; replace hat13 := hat13.ev E67; replace E := E.n E67; refine ⟨fun _ => ER.sb, ?_⟩; replace H := ifN H; obtain ⟨g70, H⟩ := H; obtain ⟨cs72, h73, r74⟩ := AR.at (off := 1) zhat13 rfl zh15 (IntKind.i64.wrap (256 + a6)) g70.1 (by have g_ := g70.2; omega); obtain rfl : cs72 = [.int .u64 (rd ob9.digests (IntKind.i64.wrap (256 + a6)))] := r74; obtain ⟨qa75, qqa75⟩ : ∃ q, q = (ad12.add (1 + (IntKind.i64.wrap (256 + a6)).toNat * 1)) := ⟨_, rfl⟩; have h73 : AT true j4 c0 w0 qa75 [.int .u64 (rd ob9.digests (IntKind.i64.wrap (256 + a6)))] := by rw [qqa75]; exact h73
 replace h73 := h73.ev ER nq; refine dq F (fun wq hS => r_indexArr3 F ua_72 sz_30 rfl rfl g70.1 (by have g_ := g70.2; omega) hat13 qqa75) ER.sb fun a F => ?_; refine d_e ?_; refine o_eff0 F rfl rfl rfl (e_storear0 F rfl rfl sz_30 hat13 rfl h15 (m := (IntKind.i64.wrap (256 + a6)).toNat) (by have g_ := g70; omega) qqa75 h73 rfl (nb rfl) rfl t31 rfl (ne_z bj4.1)) ?_; rintro w77 a ⟨cs80, E78, hat13, h15, Z79⟩ F; replace B := B.size Z79; replace h17 := h17.ev E78 bj5.2.2 (ne_z bj4.1); replace E := E.trans E78 (fun x (q : x = j4) => Or.inl (Or.inl q)); replace hat13 : AT true j4 c65 w77 ad12 (([.int .i64 ob9.bits] : List Value) ++ (cs80 ++ (([] : List Value) ++ (cs16 ++ (([.int .i64 ob9.many] : List Value)))))) := hat13; refine ⟨fun q => absurd rfl q, ?_⟩; refine d_nil ?_; exact J83 c65 w77 a ad12 ob9 cs16 t31 cs80 rfl (F.sub ⟨rfl, rfl, trivial⟩) E B hat13 h17 h15 H
theorem merkle_Tree_Delete.calls (k : Nat) {m : Nat} {c0 : Nat → Nat} {w0 : World} {j4 : Nat} {j5 : Nat} {p2 : Option Addr} {A7 : Option Addr} {C8 : Nat} {a1 : Option Mer} {a6 : List Int} (hm0 : 0 < m) (B0 : CB m c0 w0) (h3 : ME j4 j5 c0 w0 p2 a1) (h9 : SL false (Kint .u8) 0 0 c0 w0 A7 C8 a6) (bj4 : 0 < j4 ∧ j4 < m) (bj5 : 0 < j5 ∧ j5 < m ∧ j5 ≠ j4) (r : Bool × (Option Mer)) (H : merkle_Tree_Delete.f k a1 a6 = some r) : Calls Try.prog 31 #[.pointer p2, .slice A7 a6.length C8] w0 (fun e w_ => ∃ (c_ : Nat → Nat), e = .returned (.bool r.1) ∧ Ev (fun x => (x = j4 ∨ x = j5)) c0 w0 c_ w_ ∧ CB m c_ w_ ∧ ME j4 j5 c_ w_ p2 r.2) := by
 unfold merkle_Tree_Delete.f at H; have B := B0.mono (show m ≤ m + 2 by omega); have E : Ev (fun x => (x = j4 ∨ x = j5) ∨ m ≤ x) c0 w0 c0 w0 := Ev.refl; refine enter (N := 44) (l := [.pointer p2, .slice A7 a6.length C8]) Try.func31 rfl rfl (nb rfl) fun a F => ?_; refine sr fun K10 hK10 => qa F fun a F => nil (hK10 _ _ ?_); refine sq fun K11 hK11 => ?_; refine sr fun K12 hK12 => qm F fun a F => ?_; refine qv F (r_peqlA F Try.underlying26 rfl rfl (ME.isNone h3)) fun a F => ?_; refine nil (hK12 _ _ ?_)
 by_cases hb13 : (Option.isNone a1) = true
 ·replace H := ip hb13 H; refine wct (fb F hb13) ?_; refine sr fun K14 hK14 => qa F fun a F => nil (hK14 _ _ ?_); refine wp_ret ?_; refine thenR ?_; obtain rfl := si H; refine out1 F rfl rfl ?_; exact ⟨cf (ct m) c0, rfl, E.lv B0, cfb, ME.rc h3 cfk cfk cfk (by omega)⟩
 replace H := im hb13 H; refine wcf (fb F (bfalse hb13)) (wp_skip (hK11 _ _ ?_)); refine sr fun K15 hK15 => qm F fun a F => qm F fun a F => ?_; obtain ⟨t16, q17, H⟩ := bind_some H; refine qc F Try.func42 (merkle_Tree_at.calls k (m := m + 2) (pl hm0) B h3 h9 (Nat.lt_add_right _ bj4.2) ⟨(Nat.lt_add_right _ bj5.2.1), bj5.2.2⟩ _ q17) ?_; rintro e w19 ⟨c18, rfl, E20, B⟩; refine rt fun a F => ?_; replace h3 := h3.ev E20; replace E := E.n E20; refine qm F fun a F => ?_; refine qx F fun a F => ?_; refine qx F fun a F => ?_; refine qx F fun a F => ?_; refine qa F fun a F => qa F fun a F => qa F fun a F => nil (hK15 _ _ ?_); replace F : Fr a 44 [(0, .pointer p2), (5, .int .i64 t16.1), (6, .int .i64 t16.2.1), (7, .bool t16.2.2)] := F.sub ⟨rfl, rfl, rfl, rfl, trivial⟩; refine sq fun K23 hK23 => ?_; refine sr fun K24 hK24 => qm F fun a F => nil (hK24 _ _ ?_)
 by_cases hb25 : t16.2.2 = true
 ·replace H := ip hb25 H; refine wct (fb F hb25) ?_; refine sq fun K26 hK26 => ?_; have J102 : ∀ (c103 : Nat → Nat) (w104 : World) (a : Act) (ad30 : Addr) (ob27 : Mer) (cs32 : List Value) (t50 : List api_Row) (cs100 : List Value), p2 = some ad30 → Fr a 44 [(0, .pointer (some ad30)), (5, .int .i64 t16.1), (7, .bool t16.2.2)] → Ev (fun x => (x = j4 ∨ x = j5) ∨ m ≤ x) c0 w0 c103 w104 → CB (m + 2) c103 w104 → AT true j4 c103 w104 ad30 (([.int .i64 ob27.bits] : List Value) ++ (cs32 ++ (([] : List Value) ++ (cs100 ++ (([.int .i64 ob27.many] : List Value)))))) → AR (Kint .u64) 0 c103 w104 cs32 512 ob27.digests → ARO (KOsl K_api_Row) j5 c103 w104 cs100 256 (ob27.rows.set t16.1.toNat t50) noHole → merkle_Tree_Delete.j1 k t16 ob27 t50 = some r → K26 a w104 := by
   intro c103 w104 a ad30 ob27 cs32 t50 cs100 qe105 F E B hat31 h33 h101 H; unfold merkle_Tree_Delete.j1 at H; refine hK26 _ _ ?_; refine sr fun K106 hK106 => qm F fun a F => ?_; refine qi F fun a F => ?_; refine qf F ff_75_3 fun a F => ?_; refine qv F (r_load F rfl ag_3 (AT.cell hat31 ((get_app (n := 1) (k := 768) rfl).trans ((get_app (n := 512) (k := 256) (h33.1 : cs32.length = 512)).trans ((get_app (n := 0) (k := 256) rfl).trans ((get_app (n := 256) (k := 0) (ARO.len h101 : cs100.length = 256)).trans rfl)))))) fun a F => ?_; refine qv F (r_sub F rfl rfl) fun a F => ?_; refine qi F fun a F => ?_; refine qf F ff_75_3 fun a F => ?_; refine q_eff0 F rfl rfl (e_store F rfl rfl sz_3 hat31 (by have l0_ : cs32.length = 512 := (h33.1 : cs32.length = 512); have l1_ : cs100.length = 256 := (ARO.len h101 : cs100.length = 256); simp only [List.length_append, List.length_cons, List.length_nil, l0_, l1_] <;> omega) rfl) ?_; rintro w107 a ⟨E108, hat31, Z109⟩ F; replace B := B.size Z109; replace h33 := h33.ev E108 (ne_z bj4.1); replace h101 := h101.ev E108 bj5.2.2 (ne_z bj4.1); replace E := E.trans E108 (fun x (q : x = j4) => Or.inl (Or.inl q)); replace hat31 : AT true j4 c103 w107 ad30 (([.int .i64 ob27.bits] : List Value) ++ (cs32 ++ (([] : List Value) ++ (cs100 ++ (([.int .i64 (IntKind.i64.wrap (ob27.many - 1))] : List Value)))))) := AT.eqv hat31 ((set_app (n := 1) (k := 768) rfl).trans (congrArg (fun z_ => ([.int .i64 ob27.bits] : List Value) ++ z_) ((set_app (n := 512) (k := 256) (h33.1 : cs32.length = 512)).trans (congrArg (fun z_ => cs32 ++ z_) ((set_app (n := 0) (k := 256) rfl).trans (congrArg (fun z_ => ([] : List Value) ++ z_) ((set_app (n := 256) (k := 0) (ARO.len h101 : cs100.length = 256)).trans (congrArg (fun z_ => cs100 ++ z_) rfl)))))))); refine nil (hK106 _ _ ?_); refine reg ?_; refine qm F fun a F => qm F fun a F => ?_; have h110 : ME j4 j5 c103 w107 (some ad30) (some (Mer.mk ob27.bits ob27.digests (ob27.rows.set t16.1.toNat t50) (IntKind.i64.wrap (ob27.many - 1)))) := ME.mk hat31 h33 h101; obtain ⟨t111, q112, H⟩ := bind_some H; refine qc F Try.func57 (merkle_Tree_changed.calls k (m := m + 2) (pl hm0) B h110 ⟨bj4.1, (Nat.lt_add_right _ bj4.2)⟩ ⟨bj5.1, (Nat.lt_add_right _ bj5.2.1), bj5.2.2⟩ _ q112) ?_; rintro e w114 ⟨c113, rfl, E115, B, h117⟩; refine rt fun a F => ?_; replace E := E.trans E115 (fun x (q : x = j4 ∨ x = j5) => q.elim (fun q => Or.inl (Or.inl q)) (fun q => Or.inl (Or.inr (q)))); refine nil (hK23 _ _ ?_); replace F : Fr a 44 [(7, .bool t16.2.2)] := F.sub ⟨rfl, trivial⟩; refine sr fun K119 hK119 => qm F fun a F => qa F fun a F => nil (hK119 _ _ ?_); refine wp_ret ?_; obtain rfl := si H; refine out1 F rfl rfl ?_; exact ⟨cf (ct m) c113, rfl, E.lv B0, cfb, (by rw [qe105]; exact ME.rc h117 cfk cfk cfk (by omega))⟩
  obtain ⟨ob27, e28, H⟩ := bind_some H; have z29 := h3; rw [e28] at z29; obtain ⟨ad30, cs32, cs34, rfl, hat31, h33, h35⟩ := ME.some z29; replace H := ifN H; obtain ⟨g37, H⟩ := H; obtain ⟨c38, e39, e40, A41, C42, h43, h44, h35⟩ := ARO.lend (off := 513) (z := m + 1) (AT.eqv (ds := (([.int .i64 ob27.bits] : List Value) ++ (cs32 ++ (([] : List Value)))) ++ (cs34 ++ (([.int .i64 ob27.many] : List Value)))) hat31 (by simp only [List.append_assoc])) (by have l0_ : cs32.length = 512 := (h33.1 : cs32.length = 512); simp only [List.length_append, List.length_cons, List.length_nil] <;> omega) h35 t16.1 g37.1 (by have g_ := g37.2; omega) ⟨(ne_mp bj5.2.1), (pl hm0)⟩; obtain ⟨qa45, qqa45⟩ : ∃ q, q = (ad30.add (513 + t16.1.toNat * 1)) := ⟨_, rfl⟩; have h43 : AT true j4 c18 w19 qa45 [.slice A41 (rd ob27.rows t16.1).length C42] := by rw [qqa45]; exact h43
  replace h33 := AR.rc (c' := c38) (i' := 0) h33 (fun k_ hk_ => (e39 k_ (by rw [hk_]; exact (ne_z bj5.1))).trans hk_); replace hat31 := AT.rc (c' := c38) (j' := j4) hat31 (fun k_ hk_ => (e39 k_ (by rw [hk_]; exact (Ne.symm bj5.2.2))).trans hk_); replace h43 := AT.rc (c' := c38) (j' := j4) h43 (fun k_ hk_ => (e39 k_ (by rw [hk_]; exact (Ne.symm bj5.2.2))).trans hk_); have EL46 := E; have E : Ev (fun x => (x = j4 ∨ x = j5) ∨ m ≤ x) c38 w19 c38 w19 := Ev.refl; replace B : CB (m + 2) c38 w19 := B.recol (fun b_ => (e40 b_).imp id (fun q_ => by rw [q_]; exact lm)); refine regD (SB (fun x => x = m + 1) c38 w19) 15 (.q 0 (.q 1 (.q 2 (.q 3 (.q 4 (.q 5 (.q 6 (.q 7 (.q 8 (.q 9 (.q 10 (.f 11 (.e 12 (.e 13 (.q 14 (.e 15 .nil)))) 12 (.f 11 (.e 13 (.q 14 (.e 15 .nil))) 13 (.e 11 (.q 14 (.e 15 .nil)))))))))))))))) Try_hm (by decide +kernel) ?_; intro w48 w1_ w2_ w3_ w4_; have E49 : Ev No c38 w19 c38 w48 := Ev.same w1_ w2_ w3_ w4_; replace B := B.same w1_; have zh43 := h43; have ER : Ev (fun x => x = m + 1) c38 w19 c38 w48 := Ev.same w1_ w2_ w3_ w4_; replace h33 := h33.ev E49; replace h35 := h35.ev E49; replace hat31 := hat31.ev E49; replace h43 := h43.ev E49; replace h44 := h44.ev E49; replace E := E.n E49; refine dm F ER.sb fun a F => ?_; refine dm F ER.sb fun a F => ?_; refine dm F ER.sb fun a F => ?_; refine dm F ER.sb fun a F => ?_; refine di F ER.sb fun a F => ?_; refine df F ff_75_2 ER.sb fun a F => ?_; refine dq F (fun wq hS => r_indexArr3 F ua_73 sz_27 rfl rfl g37.1 (by have g_ := g37.2; omega) hat31 qqa45) ER.sb fun a F => ?_; refine dq F (fun wq hS => r_load F rfl ag_27 (AT.cell0 (AT.sb zh43 hS (ne_pm bj4.2)) rfl)) ER.sb fun a F => ?_; refine dm F ER.sb fun a F => ?_; refine dm F ER.sb fun a F => ?_; refine dq F (fun wq hS => r_add F rfl rfl) ER.sb fun a F => ?_; refine d_f ?_ ?_
  ·obtain ⟨t50, q51, H⟩ := bind_some H; refine oc F Try.func58 (slices_Delete.calls (m := m + 2) (pl hm0) B h44 (by omega) _ q51) ?_; rintro e w53 ⟨c52, A56, C57, rfl, E54, B, h58⟩; refine rt fun a F => ?_; replace ER := ER.trans E54 (fun x q => by replace q : x = m + 1 := q; show x = m + 1; omega); replace h33 := h33.ev E54; replace h35 := h35.ev E54 (ne_pm bj5.2.1) ne_zm; replace hat31 := hat31.ev E54 (ne_pm bj4.2); replace h43 := h43.ev E54 (ne_pm bj4.2); replace E := E.trans E54 lc1; refine ⟨fun _ => ER.sb, ?_⟩; refine d_e ?_; refine o_val F rfl rfl rfl (by decide) (r_nil F rfl) fun a F => ?_; refine ⟨fun _ => ER.sb, ?_⟩; refine d_e ?_; refine o_val F rfl rfl rfl (by decide) (r_fieldAddr F rfl ff_75_2) fun a F => ?_; refine ⟨fun _ => ER.sb, ?_⟩; refine dq F (fun wq hS => r_indexArr3 F ua_73 sz_27 rfl rfl g37.1 (by have g_ := g37.2; omega) hat31 qqa45) ER.sb fun a F => ?_; refine d_e ?_; refine o_eff0 F rfl rfl rfl (e_storearH F rfl rfl sz_27 (AT.eqv (ds := (([.int .i64 ob27.bits] : List Value) ++ (cs32 ++ (([] : List Value)))) ++ (cs34 ++ (([.int .i64 ob27.many] : List Value)))) hat31 (by simp only [List.append_assoc])) (by have l0_ : cs32.length = 512 := (h33.1 : cs32.length = 512); simp only [List.length_append, List.length_cons, List.length_nil] <;> omega) h35 (m := t16.1.toNat) (by have g_ := g37; omega) qqa45 rfl bj5.2.2 bj4.1) ?_; rintro w60 a ⟨cs63, E61, hat31, h35, h43, Z62⟩ F; replace B := B.size Z62; replace h33 := h33.ev E61 (ne_z bj4.1); replace h58 := h58.ev E61 (ne_mp bj4.2) (ne_z bj4.1); replace E := E.trans E61 (fun x (q : x = j4) => Or.inl (Or.inl q)); replace hat31 : AT true j4 c52 w60 ad30 (([.int .i64 ob27.bits] : List Value) ++ (cs32 ++ (([] : List Value) ++ (cs63 ++ (([.int .i64 ob27.many] : List Value)))))) := AT.eqv hat31 (by simp only [List.append_assoc]); refine ⟨fun q => absurd rfl q, ?_⟩; refine d_nil ?_; obtain ⟨c64, e65, e66, e67, h35⟩ := ARO.back3 (off := 513) (z := m + 1) (k := t16.1) (AT.eqv (ds := (([.int .i64 ob27.bits] : List Value) ++ (cs32 ++ (([] : List Value)))) ++ (cs63 ++ (([.int .i64 ob27.many] : List Value)))) hat31 (by simp only [List.append_assoc])) (by have l0_ : cs32.length = 512 := (h33.1 : cs32.length = 512); simp only [List.length_append, List.length_cons, List.length_nil] <;> omega) h35 g37.1 (by have g_ := g37.2; omega) (by rw [← qqa45]; exact h43) h58 ⟨(ne_mp bj5.2.1), (pl hm0)⟩ bj5.1; replace h33 := AR.rc (c' := c64) (i' := 0) h33 (fun k_ hk_ => (e65 k_ (by rw [hk_]; exact ne_zm)).trans hk_); replace hat31 := AT.rc (c' := c64) (j' := j4) hat31 (fun k_ hk_ => (e65 k_ (by rw [hk_]; exact (ne_pm bj4.2))).trans hk_); replace E : Ev (fun x => (x = j4 ∨ x = j5) ∨ m ≤ x) c0 w0 c64 w60 := Ev.lent EL46 B0 (by show (j5 = j4 ∨ j5 = j5); omega) (by omega) e39 e40 E e65 e67 (by omega); replace B : CB (m + 2) c64 w60 := B.recol (fun b_ => (e66 b_).imp id (fun q_ => by rw [q_]; exact (Nat.lt_add_right _ bj5.2.1))); exact J102 c64 w60 a ad30 ob27 cs32 t50 cs63 rfl (F.sub ⟨rfl, rfl, rfl, trivial⟩) E B hat31 h33 h35 H
  obtain ⟨t50, q51, H⟩ := bind_some H; refine o_val F rfl rfl rfl (by decide) (r_nil F rfl) fun a F => ?_; refine ⟨fun _ => ER.sb, ?_⟩; refine d_f ?_ ?_
  ·refine oc F Try.func58 (slices_Delete.calls (m := m + 2) (pl hm0) B h44 (by omega) _ q51) ?_; rintro e w69 ⟨c68, A72, C73, rfl, E70, B, h74⟩; refine rt fun a F => ?_; replace ER := ER.trans E70 (fun x q => by replace q : x = m + 1 := q; show x = m + 1; omega); replace h33 := h33.ev E70; replace h35 := h35.ev E70 (ne_pm bj5.2.1) ne_zm; replace hat31 := hat31.ev E70 (ne_pm bj4.2); replace h43 := h43.ev E70 (ne_pm bj4.2); replace E := E.trans E70 lc1; refine ⟨fun _ => ER.sb, ?_⟩; refine d_e ?_; refine o_val F rfl rfl rfl (by decide) (r_fieldAddr F rfl ff_75_2) fun a F => ?_; refine ⟨fun _ => ER.sb, ?_⟩; refine dq F (fun wq hS => r_indexArr3 F ua_73 sz_27 rfl rfl g37.1 (by have g_ := g37.2; omega) hat31 qqa45) ER.sb fun a F => ?_; refine d_e ?_; refine o_eff0 F rfl rfl rfl (e_storearH F rfl rfl sz_27 (AT.eqv (ds := (([.int .i64 ob27.bits] : List Value) ++ (cs32 ++ (([] : List Value)))) ++ (cs34 ++ (([.int .i64 ob27.many] : List Value)))) hat31 (by simp only [List.append_assoc])) (by have l0_ : cs32.length = 512 := (h33.1 : cs32.length = 512); simp only [List.length_append, List.length_cons, List.length_nil] <;> omega) h35 (m := t16.1.toNat) (by have g_ := g37; omega) qqa45 rfl bj5.2.2 bj4.1) ?_; rintro w76 a ⟨cs79, E77, hat31, h35, h43, Z78⟩ F; replace B := B.size Z78; replace h33 := h33.ev E77 (ne_z bj4.1); replace h74 := h74.ev E77 (ne_mp bj4.2) (ne_z bj4.1); replace E := E.trans E77 (fun x (q : x = j4) => Or.inl (Or.inl q)); replace hat31 : AT true j4 c68 w76 ad30 (([.int .i64 ob27.bits] : List Value) ++ (cs32 ++ (([] : List Value) ++ (cs79 ++ (([.int .i64 ob27.many] : List Value)))))) := AT.eqv hat31 (by simp only [List.append_assoc]); refine ⟨fun q => absurd rfl q, ?_⟩; refine d_nil ?_; obtain ⟨c80, e81, e82, e83, h35⟩ := ARO.back3 (off := 513) (z := m + 1) (k := t16.1) (AT.eqv (ds := (([.int .i64 ob27.bits] : List Value) ++ (cs32 ++ (([] : List Value)))) ++ (cs79 ++ (([.int .i64 ob27.many] : List Value)))) hat31 (by simp only [List.append_assoc])) (by have l0_ : cs32.length = 512 := (h33.1 : cs32.length = 512); simp only [List.length_append, List.length_cons, List.length_nil] <;> omega) h35 g37.1 (by have g_ := g37.2; omega) (by rw [← qqa45]; exact h43) h74 ⟨(ne_mp bj5.2.1), (pl hm0)⟩ bj5.1; replace h33 := AR.rc (c' := c80) (i' := 0) h33 (fun k_ hk_ => (e81 k_ (by rw [hk_]; exact ne_zm)).trans hk_); replace hat31 := AT.rc (c' := c80) (j' := j4) hat31 (fun k_ hk_ => (e81 k_ (by rw [hk_]; exact (ne_pm bj4.2))).trans hk_); replace E : Ev (fun x => (x = j4 ∨ x = j5) ∨ m ≤ x) c0 w0 c80 w76 := Ev.lent EL46 B0 (by show (j5 = j4 ∨ j5 = j5); omega) (by omega) e39 e40 E e81 e83 (by omega); replace B : CB (m + 2) c80 w76 := B.recol (fun b_ => (e82 b_).imp id (fun q_ => by rw [q_]; exact (Nat.lt_add_right _ bj5.2.1))); exact J102 c80 w76 a ad30 ob27 cs32 t50 cs79 rfl (F.sub ⟨rfl, rfl, rfl, trivial⟩) E B hat31 h33 h35 H
  refine o_val F rfl rfl rfl (by decide) (r_fieldAddr F rfl ff_75_2) fun a F => ?_; refine ⟨fun _ => ER.sb, ?_⟩; refine d_e ?_; refine oc F Try.func58 (slices_Delete.calls (m := m + 2) (pl hm0) B h44 (by omega) _ q51) ?_; rintro e w85 ⟨c84, A88, C89, rfl, E86, B, h90⟩; refine rt fun a F => ?_; replace ER := ER.trans E86 (fun x q => by replace q : x = m + 1 := q; show x = m + 1; omega); replace h33 := h33.ev E86; replace h35 := h35.ev E86 (ne_pm bj5.2.1) ne_zm; replace hat31 := hat31.ev E86 (ne_pm bj4.2); replace h43 := h43.ev E86 (ne_pm bj4.2); replace E := E.trans E86 lc1; refine ⟨fun _ => ER.sb, ?_⟩; refine dq F (fun wq hS => r_indexArr3 F ua_73 sz_27 rfl rfl g37.1 (by have g_ := g37.2; omega) hat31 qqa45) ER.sb fun a F => ?_; refine d_e ?_; refine o_eff0 F rfl rfl rfl (e_storearH F rfl rfl sz_27 (AT.eqv (ds := (([.int .i64 ob27.bits] : List Value) ++ (cs32 ++ (([] : List Value)))) ++ (cs34 ++ (([.int .i64 ob27.many] : List Value)))) hat31 (by simp only [List.append_assoc])) (by have l0_ : cs32.length = 512 := (h33.1 : cs32.length = 512); simp only [List.length_append, List.length_cons, List.length_nil] <;> omega) h35 (m := t16.1.toNat) (by have g_ := g37; omega) qqa45 rfl bj5.2.2 bj4.1) ?_; rintro w92 a ⟨cs95, E93, hat31, h35, h43, Z94⟩ F; replace B := B.size Z94; replace h33 := h33.ev E93 (ne_z bj4.1); replace h90 := h90.ev E93 (ne_mp bj4.2) (ne_z bj4.1); replace E := E.trans E93 (fun x (q : x = j4) => Or.inl (Or.inl q)); replace hat31 : AT true j4 c84 w92 ad30 (([.int .i64 ob27.bits] : List Value) ++ (cs32 ++ (([] : List Value) ++ (cs95 ++ (([.int .i64 ob27.many] : List Value)))))) := AT.eqv hat31 (by simp only [List.append_assoc]); refine ⟨fun q => absurd rfl q, ?_⟩; refine d_nil ?_; obtain ⟨c96, e97, e98, e99, h35⟩ := ARO.back3 (off := 513) (z := m + 1) (k := t16.1) (AT.eqv (ds := (([.int .i64 ob27.bits] : List Value) ++ (cs32 ++ (([] : List Value)))) ++ (cs95 ++ (([.int .i64 ob27.many] : List Value)))) hat31 (by simp only [List.append_assoc])) (by have l0_ : cs32.length = 512 := (h33.1 : cs32.length = 512); simp only [List.length_append, List.length_cons, List.length_nil] <;> omega) h35 g37.1 (by have g_ := g37.2; omega) (by rw [← qqa45]; exact h43) h90 ⟨(ne_mp bj5.2.1), (pl hm0)⟩ bj5.1; replace h33 := AR.rc (c' := c96) (i' := 0) h33 (fun k_ hk_ => (e97 k_ (by rw [hk_]; exact ne_zm)).trans hk_); replace hat31 := AT.rc (c' := c96) (j' := j4) hat31 (fun k_ hk_ => (e97 k_ (by rw [hk_]; exact (ne_pm bj4.2))).trans hk_); replace E : Ev (fun x => (x = j4 ∨ x = j5) ∨ m ≤ x) c0 w0 c96 w92 := Ev.lent EL46 B0 (by show (j5 = j4 ∨ j5 = j5); omega) (by omega) e39 e40 E e97 e99 (by omega); replace B : CB (m + 2) c96 w92 := B.recol (fun b_ => (e98 b_).imp id (fun q_ => by rw [q_]; exact (Nat.lt_add_right _ bj5.2.1))); exact J102 c96 w92 a ad30 ob27 cs32 t50 cs95 rfl (F.sub ⟨rfl, rfl, rfl, trivial⟩) E B hat31 h33 h35 H
 replace H := im hb25 H; refine wcf (fb F (bfalse hb25)) (wp_skip (hK23 _ _ ?_)); refine sr fun K120 hK120 => qm F fun a F => qa F fun a F => nil (hK120 _ _ ?_); refine wp_ret ?_; obtain rfl := si H; refine out1 F rfl rfl ?_; exact ⟨cf (ct m) c18, rfl, E.lv B0, cfb, ME.rc h3 cfk cfk cfk (by omega)⟩
theorem merkle_Tree_Put.calls (k : Nat) {m : Nat} {c0 : Nat → Nat} {w0 : World} {j4 : Nat} {j5 : Nat} {p2 : Option Addr} {A7 : Option Addr} {C8 : Nat} {A10 : Option Addr} {C11 : Nat} {a1 : Option Mer} {a6 : api_Row} (hm0 : 0 < m) (B0 : CB m c0 w0) (h3 : ME j4 j5 c0 w0 p2 a1) (h9 : SL false (Kint .u8) 0 0 c0 w0 A7 C8 a6.Key) (h12 : SL false (Kint .u8) 0 0 c0 w0 A10 C11 a6.Value) (bj4 : 0 < j4 ∧ j4 < m) (bj5 : 0 < j5 ∧ j5 < m ∧ j5 ≠ j4) (r : (Option Mer)) (H : merkle_Tree_Put.f k a1 a6 = some r) : Calls Try.prog 30 #[.pointer p2, .agg #[.slice A7 a6.Key.length C8, .slice A10 a6.Value.length C11, .int .i64 a6.Rev]] w0 (fun e w_ => ∃ (c_ : Nat → Nat), e = .returned (.tuple #[]) ∧ Ev (fun x => (x = j4 ∨ x = j5)) c0 w0 c_ w_ ∧ CB m c_ w_ ∧ ME j4 j5 c_ w_ p2 r) := by
 unfold merkle_Tree_Put.f at H; have B := B0.mono (show m ≤ m + 5 by omega); have E : Ev (fun x => (x = j4 ∨ x = j5) ∨ m ≤ x) c0 w0 c0 w0 := Ev.refl; refine enter (N := 54) (l := [.pointer p2, .agg #[.slice A7 a6.Key.length C8, .slice A10 a6.Value.length C11, .int .i64 a6.Rev]]) Try.func30 rfl rfl (nb rfl) fun a F => ?_; refine sr fun K13 hK13 => ?_; refine q_eff F rfl rfl (by decide) (e_box F (v := .agg #[.slice A7 a6.Key.length C8, .slice A10 a6.Value.length C11, .int .i64 a6.Rev]) rfl c0 (m + 1)) ?_; rintro v w15 a ⟨c14, qa16, rfl, E17, h18, B19⟩ F; replace B := B19 _ B lm; replace h3 := h3.ev E17; replace h9 := h9.ev E17; replace h12 := h12.ev E17; replace E := E.n E17; replace h18 : AT _ _ _ _ _ [.slice A7 a6.Key.length C8, .slice A10 a6.Value.length C11, .int .i64 a6.Rev] := h18; refine nil (hK13 _ _ ?_); refine sq fun K21 hK21 => ?_; refine sr fun K22 hK22 => qm F fun a F => ?_; refine qv F (r_peqlA F Try.underlying26 rfl rfl (ME.isNone h3)) fun a F => ?_; refine nil (hK22 _ _ ?_)
 by_cases hb23 : (Option.isNone a1) = true
 ·replace H := ip hb23 H; refine wct (fb F hb23) ?_; refine wp_ret ?_
  as_aux_lemma =>
  refine thenR ?_; obtain rfl := si H; refine out0 F rfl ?_; exact ⟨cf (ct m) c14, rfl, E.lv B0, cfb, ME.rc h3 cfk cfk cfk (by omega)⟩
 replace H := im hb23 H; refine wcf (fb F (bfalse hb23)) (wp_skip (hK21 _ _ ?_)); refine sr fun K24 hK24 => qm F fun a F => qf F ff_36_0 fun a F => ?_; refine ql F ag_23 h18 fun a F => ?_; obtain ⟨t25, q26, H⟩ := bind_some H; refine qc F Try.func42 (merkle_Tree_at.calls k (m := m + 5) (pl hm0) B h3 h9 (Nat.lt_add_right _ bj4.2) ⟨(Nat.lt_add_right _ bj5.2.1), bj5.2.2⟩ _ q26) ?_; rintro e w28 ⟨c27, rfl, E29, B⟩; refine rt fun a F => ?_; replace h3 := h3.ev E29; replace h9 := h9.ev E29; replace h12 := h12.ev E29; replace h18 := h18.ev E29; replace E := E.n E29; refine qm F fun a F => ?_; refine qx F fun a F => ?_; refine qx F fun a F => ?_; refine qx F fun a F => ?_; refine qa F fun a F => qa F fun a F => qa F fun a F => nil (hK24 _ _ ?_); replace F : Fr a 54 [(0, .pointer p2), (3, .pointer (some qa16)), (4, .int .i64 t25.1), (5, .int .i64 t25.2.1), (6, .bool t25.2.2)] := F.sub ⟨rfl, rfl, rfl, rfl, rfl, trivial⟩
 as_aux_lemma =>
 refine sq fun K32 hK32 => ?_; refine sr fun K33 hK33 => qm F fun a F => nil (hK33 _ _ ?_)
 by_cases hb34 : t25.2.2 = true
 ·replace H := ip hb34 H; refine wct (fb F hb34) ?_; obtain ⟨ob35, e36, H⟩ := bind_some H; have z37 := h3; rw [e36] at z37; obtain ⟨ad38, cs40, cs42, rfl, hat39, h41, h43⟩ := ME.some z37; replace H := ifN H; obtain ⟨g45, H⟩ := H; obtain ⟨c46, e47, e48, A49, C50, h51, h52, h43⟩ := ARO.lend (off := 513) (z := m + 2) (AT.eqv (ds := (([.int .i64 ob35.bits] : List Value) ++ (cs40 ++ (([] : List Value)))) ++ (cs42 ++ (([.int .i64 ob35.many] : List Value)))) hat39 (by simp only [List.append_assoc])) (by have l0_ : cs40.length = 512 := (h41.1 : cs40.length = 512); simp only [List.length_append, List.length_cons, List.length_nil] <;> omega) h43 t25.1 g45.1 (by have g_ := g45.2; omega) ⟨(ne_mp bj5.2.1), (pl hm0)⟩; obtain ⟨qa53, qqa53⟩ : ∃ q, q = (ad38.add (513 + t25.1.toNat * 1)) := ⟨_, rfl⟩; have h51 : AT true j4 c27 w28 qa53 [.slice A49 (rd ob35.rows t25.1).length C50] := by rw [qqa53]; exact h51
  replace h9 := SL.rc (c' := c46) (j' := 0) (i' := 0) h9 (fun k_ hk_ => (e47 k_ (by rw [hk_]; exact (ne_z bj5.1))).trans hk_) (fun k_ hk_ => (e47 k_ (by rw [hk_]; exact (ne_z bj5.1))).trans hk_); replace h12 := SL.rc (c' := c46) (j' := 0) (i' := 0) h12 (fun k_ hk_ => (e47 k_ (by rw [hk_]; exact (ne_z bj5.1))).trans hk_) (fun k_ hk_ => (e47 k_ (by rw [hk_]; exact (ne_z bj5.1))).trans hk_); replace h18 := AT.rc (c' := c46) (j' := m + 1) h18 (fun k_ hk_ => (e47 k_ (by rw [hk_]; exact (ne_mp bj5.2.1))).trans hk_); replace h41 := AR.rc (c' := c46) (i' := 0) h41 (fun k_ hk_ => (e47 k_ (by rw [hk_]; exact (ne_z bj5.1))).trans hk_); replace hat39 := AT.rc (c' := c46) (j' := j4) hat39 (fun k_ hk_ => (e47 k_ (by rw [hk_]; exact (Ne.symm bj5.2.2))).trans hk_); replace h51 := AT.rc (c' := c46) (j' := j4) h51 (fun k_ hk_ => (e47 k_ (by rw [hk_]; exact (Ne.symm bj5.2.2))).trans hk_); have EL54 := E; have E : Ev (fun x => (x = j4 ∨ x = j5) ∨ m ≤ x) c46 w28 c46 w28 := Ev.refl; replace B : CB (m + 5) c46 w28 := B.recol (fun b_ => (e48 b_).imp id (fun q_ => by rw [q_]; exact lm))
  as_aux_lemma =>
  refine regD (SB No c46 w28) 10 (.q 0 (.q 1 (.q 2 (.q 3 (.q 4 (.q 5 (.q 6 (.q 7 (.e 8 (.q 9 (.e 10 .nil))))))))))) Try_hm (by decide +kernel) ?_; intro w56 w1_ w2_ w3_ w4_; have E57 : Ev No c46 w28 c46 w56 := Ev.same w1_ w2_ w3_ w4_; replace B := B.same w1_; have zh18 := h18; have zh51 := h51; have zh52 := h52; have ER : Ev No c46 w28 c46 w56 := Ev.same w1_ w2_ w3_ w4_; replace h9 := h9.ev E57; replace h12 := h12.ev E57; replace h41 := h41.ev E57; replace h43 := h43.ev E57; replace hat39 := hat39.ev E57; replace h51 := h51.ev E57; replace h52 := h52.ev E57; replace E := E.n E57; refine dm F ER.sb fun a F => ?_; refine dm F ER.sb fun a F => ?_; refine di F ER.sb fun a F => ?_; refine df F ff_75_2 ER.sb fun a F => ?_; refine dq F (fun wq hS => r_indexArr3 F ua_73 sz_27 rfl rfl g45.1 (by have g_ := g45.2; omega) hat39 qqa53) ER.sb fun a F => ?_; refine dq F (fun wq hS => r_load F rfl ag_27 (AT.cell0 (AT.sb zh51 hS nq) rfl)) ER.sb fun a F => ?_
  as_aux_lemma =>
  refine dm F ER.sb fun a F => ?_; refine dq F (fun wq hS => r_loads (cs := [.slice A7 a6.Key.length C8, .slice A10 a6.Value.length C11, .int .i64 a6.Rev]) F rfl ag_36 sz_36 (AT.sb zh18 hS nq)) ER.sb fun a F => ?_; refine d_e ?_; obtain ⟨t58, q59, H⟩ := bind_some H; refine oc F Try.func41 (merkle_own.calls (m := m + 5) (pl hm0) B h9 h12 _ q59) ?_; rintro e w61 ⟨c60, A64, C65, A67, C68, rfl, E62, B, h66, h69⟩; refine rt fun a F => ?_; replace ER := ER.trans E62 nx; replace h41 := h41.ev E62; replace h43 := h43.ev E62; replace hat39 := hat39.ev E62; replace h51 := h51.ev E62; replace h52 := h52.ev E62; replace E := E.n E62; refine ⟨fun _ => ER.sb, ?_⟩; replace H := ifN H; obtain ⟨g71, H⟩ := H; obtain ⟨ad72, cs73, e74, h75, r76⟩ := SL.at zh52 t25.2.1 g71.1 g71.2; obtain ⟨A77, C78, A80, C81, rfl, h79, h82⟩ := r76; obtain ⟨qa83, qqa83⟩ : ∃ q, q = (ad72.add (t25.2.1.toNat * 3)) := ⟨_, rfl⟩; have h75 : AT true (m + 2) c46 w28 qa83 [.slice A77 ((rd (rd ob35.rows t25.1) t25.2.1).Key).length C78, .slice A80 ((rd (rd ob35.rows t25.1) t25.2.1).Value).length C81, .int .i64 ((rd (rd ob35.rows t25.1) t25.2.1).Rev)] := by rw [qqa83]; exact h75
  replace h75 := h75.ev ER nq
  as_aux_lemma =>
  refine dq F (fun wq hS => r_indexAddr' F Try.underlying27 sz_36 rfl rfl g71.1 g71.2 e74 qqa83) ER.sb fun a F => ?_; refine d_e ?_; refine o_eff0 F rfl rfl rfl (e_storeelN (us := [.slice A64 t58.Key.length C65, .slice A67 t58.Value.length C68, .int .i64 t58.Rev]) (k := K_api_Row) F rfl rfl sz_36 h52 g71.1 g71.2 e74 qqa83 h75 rfl (nb rfl) (one_all rfl) t58 ⟨A64, C65, A67, C68, rfl, (SL.fl h66 (fun q => q)), (SL.fl h69 (fun q => q))⟩ ne_zm) ?_; rintro w85 a ⟨E86, h52, Z87⟩ F; replace B := B.size Z87; replace h41 := h41.ev E86; replace h43 := h43.ev E86 (ne_pm bj5.2.1) ne_zm; replace hat39 := hat39.ev E86 (ne_pm bj4.2); replace h51 := h51.ev E86 (ne_pm bj4.2); replace E := E.trans E86 lc1; have hl88 : (rd ob35.rows t25.1).length = ((rd ob35.rows t25.1).set t25.2.1.toNat t58).length := by simp
  have h51 : AT true j4 c60 w85 qa53 [.slice A49 ((rd ob35.rows t25.1).set t25.2.1.toNat t58).length C50] := by rw [← hl88]; exact h51
  replace F := F.sub (L' := [(0, .pointer (some ad38)), (3, .pointer (some qa16)), (4, .int .i64 t25.1), (5, .int .i64 t25.2.1), (6, .bool t25.2.2), (17, .bool t25.2.2), (18, .pointer (some ad38)), (19, .int .i64 t25.1), (20, .pointer (some ad38)), (21, .pointer (some (ad38.add 513))), (22, .pointer (some qa53)), (23, .slice A49 ((rd ob35.rows t25.1).set t25.2.1.toNat t58).length C50), (24, .int .i64 t25.2.1), (25, .agg #[.slice A7 a6.Key.length C8, .slice A10 a6.Value.length C11, .int .i64 a6.Rev]), (26, .agg #[.slice A64 t58.Key.length C65, .slice A67 t58.Value.length C68, .int .i64 t58.Rev])]) ⟨rfl, rfl, rfl, rfl, rfl, rfl, rfl, rfl, rfl, rfl, rfl, (by rw [← hl88]; rfl), rfl, rfl, rfl, trivial⟩; refine ⟨fun q => absurd rfl q, ?_⟩; refine d_nil ?_; obtain ⟨c89, e90, e91, e92, h43⟩ := ARO.back3 (off := 513) (z := m + 2) (k := t25.1) (AT.eqv (ds := (([.int .i64 ob35.bits] : List Value) ++ (cs40 ++ (([] : List Value)))) ++ (cs42 ++ (([.int .i64 ob35.many] : List Value)))) hat39 (by simp only [List.append_assoc])) (by have l0_ : cs40.length = 512 := (h41.1 : cs40.length = 512); simp only [List.length_append, List.length_cons, List.length_nil] <;> omega) h43 g45.1 (by have g_ := g45.2; omega) (by rw [← qqa53]; exact h51) h52 ⟨(ne_mp bj5.2.1), (pl hm0)⟩ bj5.1; replace h41 := AR.rc (c' := c89) (i' := 0) h41 (fun k_ hk_ => (e90 k_ (by rw [hk_]; exact ne_zm)).trans hk_); replace hat39 := AT.rc (c' := c89) (j' := j4) hat39 (fun k_ hk_ => (e90 k_ (by rw [hk_]; exact (ne_pm bj4.2))).trans hk_); replace E : Ev (fun x => (x = j4 ∨ x = j5) ∨ m ≤ x) c0 w0 c89 w85 := Ev.lent EL54 B0 (by show (j5 = j4 ∨ j5 = j5); omega) (by omega) e47 e48 E e90 e92 (by omega); replace B : CB (m + 5) c89 w85 := B.recol (fun b_ => (e91 b_).imp id (fun q_ => by rw [q_]; exact (Nat.lt_add_right _ bj5.2.1))); refine hK32 _ _ ?_; replace F : Fr a 54 [(0, .pointer (some ad38)), (4, .int .i64 t25.1)] := F.sub ⟨rfl, rfl, trivial⟩
  as_aux_lemma =>
  refine reg ?_; refine qm F fun a F => qm F fun a F => ?_; have h371 : ME j4 j5 c89 w85 (some ad38) (some (Mer.mk ob35.bits ob35.digests (ob35.rows.set t25.1.toNat ((rd ob35.rows t25.1).set t25.2.1.toNat t58)) ob35.many)) := ME.mk hat39 h41 h43; obtain ⟨t372, q373, H⟩ := bind_some H; refine qc F Try.func57 (merkle_Tree_changed.calls k (m := m + 5) (pl hm0) B h371 ⟨bj4.1, (Nat.lt_add_right _ bj4.2)⟩ ⟨bj5.1, (Nat.lt_add_right _ bj5.2.1), bj5.2.2⟩ _ q373) ?_; rintro e w375 ⟨c374, rfl, E376, B, h378⟩; refine rt fun a F => ?_; replace E := E.trans E376 (fun x (q : x = j4 ∨ x = j5) => q.elim (fun q => Or.inl (Or.inl q)) (fun q => Or.inl (Or.inr (q)))); refine nil ?_; obtain rfl := si H
  first | refine out0n F rfl ?_ | refine inbN (out0n F rfl ?_) | refine inbN (inbN (out0n F rfl ?_)) | refine inbN (inbN (inbN (out0n F rfl ?_)))
  exact ⟨cf (ct m) c374, rfl, E.lv B0, cfb, ME.rc h378 cfk cfk cfk (by omega)⟩
 replace H := im hb34 H; refine wcf (fb F (bfalse hb34)) ?_; refine sq fun K93 hK93 => ?_; have J364 : ∀ (c365 : Nat → Nat) (w366 : World) (a : Act) (ad97 : Addr) (ob94 : Mer) (cs99 : List Value) (t138 : List api_Row) (cs362 : List Value), p2 = some ad97 → Fr a 54 [(0, .pointer (some ad97)), (4, .int .i64 t25.1)] → Ev (fun x => (x = j4 ∨ x = j5) ∨ m ≤ x) c0 w0 c365 w366 → CB (m + 5) c365 w366 → AT true j4 c365 w366 ad97 (([.int .i64 ob94.bits] : List Value) ++ (cs99 ++ (([] : List Value) ++ (cs362 ++ (([.int .i64 ob94.many] : List Value)))))) → AR (Kint .u64) 0 c365 w366 cs99 512 ob94.digests → ARO (KOsl K_api_Row) j5 c365 w366 cs362 256 (ob94.rows.set t25.1.toNat t138) noHole → merkle_Tree_Put.j1 k t25 ob94 t138 = some r → K93 a w366 := by
  intro c365 w366 a ad97 ob94 cs99 t138 cs362 qe367 F E B hat98 h100 h363 H; unfold merkle_Tree_Put.j1 at H; refine hK93 _ _ ?_; refine reg ?_; refine qm F fun a F => ?_; refine qi F fun a F => ?_
  as_aux_lemma =>
  refine qf F ff_75_3 fun a F => ?_; refine qv F (r_load F rfl ag_3 (AT.cell hat98 ((get_app (n := 1) (k := 768) rfl).trans ((get_app (n := 512) (k := 256) (h100.1 : cs99.length = 512)).trans ((get_app (n := 0) (k := 256) rfl).trans ((get_app (n := 256) (k := 0) (ARO.len h363 : cs362.length = 256)).trans rfl)))))) fun a F => ?_; refine qv F (r_add F rfl rfl) fun a F => ?_; refine qi F fun a F => ?_; refine qf F ff_75_3 fun a F => ?_; refine q_eff0 F rfl rfl (e_store F rfl rfl sz_3 hat98 (by have l0_ : cs99.length = 512 := (h100.1 : cs99.length = 512); have l1_ : cs362.length = 256 := (ARO.len h363 : cs362.length = 256); simp only [List.length_append, List.length_cons, List.length_nil, l0_, l1_] <;> omega) rfl) ?_; rintro w368 a ⟨E369, hat98, Z370⟩ F; replace B := B.size Z370; replace h100 := h100.ev E369 (ne_z bj4.1); replace h363 := h363.ev E369 bj5.2.2 (ne_z bj4.1); replace E := E.trans E369 (fun x (q : x = j4) => Or.inl (Or.inl q)); replace hat98 : AT true j4 c365 w368 ad97 (([.int .i64 ob94.bits] : List Value) ++ (cs99 ++ (([] : List Value) ++ (cs362 ++ (([.int .i64 (IntKind.i64.wrap (ob94.many + 1))] : List Value)))))) := AT.eqv hat98 ((set_app (n := 1) (k := 768) rfl).trans (congrArg (fun z_ => ([.int .i64 ob94.bits] : List Value) ++ z_) ((set_app (n := 512) (k := 256) (h100.1 : cs99.length = 512)).trans (congrArg (fun z_ => cs99 ++ z_) ((set_app (n := 0) (k := 256) rfl).trans (congrArg (fun z_ => ([] : List Value) ++ z_) ((set_app (n := 256) (k := 0) (ARO.len h363 : cs362.length = 256)).trans (congrArg (fun z_ => cs362 ++ z_) rfl)))))))); refine nil (hK32 _ _ ?_); refine reg ?_; refine qm F fun a F => qm F fun a F => ?_; have h380 : ME j4 j5 c365 w368 (some ad97) (some (Mer.mk ob94.bits ob94.digests (ob94.rows.set t25.1.toNat t138) (IntKind.i64.wrap (ob94.many + 1)))) := ME.mk hat98 h100 h363; obtain ⟨t372, q373, H⟩ := bind_some H; refine qc F Try.func57 (merkle_Tree_changed.calls k (m := m + 5) (pl hm0) B h380 ⟨bj4.1, (Nat.lt_add_right _ bj4.2)⟩ ⟨bj5.1, (Nat.lt_add_right _ bj5.2.1), bj5.2.2⟩ _ q373) ?_; rintro e w382 ⟨c381, rfl, E383, B, h385⟩; refine rt fun a F => ?_; replace E := E.trans E383 (fun x (q : x = j4 ∨ x = j5) => q.elim (fun q => Or.inl (Or.inl q)) (fun q => Or.inl (Or.inr (q)))); refine nil ?_; obtain rfl := si H
  first | refine out0n F rfl ?_ | refine inbN (out0n F rfl ?_) | refine inbN (inbN (out0n F rfl ?_)) | refine inbN (inbN (inbN (out0n F rfl ?_)))
  exact ⟨cf (ct m) c381, rfl, E.lv B0, cfb, (by rw [qe367]; exact ME.rc h385 cfk cfk cfk (by omega))⟩
 obtain ⟨ob94, e95, H⟩ := bind_some H; have z96 := h3; rw [e95] at z96; obtain ⟨ad97, cs99, cs101, rfl, hat98, h100, h102⟩ := ME.some z96
 as_aux_lemma =>
 replace H := ifN H; obtain ⟨g104, H⟩ := H; obtain ⟨c105, e106, e107, A108, C109, h110, h111, h102⟩ := ARO.lend (off := 513) (z := m + 3) (AT.eqv (ds := (([.int .i64 ob94.bits] : List Value) ++ (cs99 ++ (([] : List Value)))) ++ (cs101 ++ (([.int .i64 ob94.many] : List Value)))) hat98 (by simp only [List.append_assoc])) (by have l0_ : cs99.length = 512 := (h100.1 : cs99.length = 512); simp only [List.length_append, List.length_cons, List.length_nil] <;> omega) h102 t25.1 g104.1 (by have g_ := g104.2; omega) ⟨(ne_mp bj5.2.1), (pl hm0)⟩; obtain ⟨qa112, qqa112⟩ : ∃ q, q = (ad97.add (513 + t25.1.toNat * 1)) := ⟨_, rfl⟩; have h110 : AT true j4 c27 w28 qa112 [.slice A108 (rd ob94.rows t25.1).length C109] := by rw [qqa112]; exact h110
 replace h9 := SL.rc (c' := c105) (j' := 0) (i' := 0) h9 (fun k_ hk_ => (e106 k_ (by rw [hk_]; exact (ne_z bj5.1))).trans hk_) (fun k_ hk_ => (e106 k_ (by rw [hk_]; exact (ne_z bj5.1))).trans hk_); replace h12 := SL.rc (c' := c105) (j' := 0) (i' := 0) h12 (fun k_ hk_ => (e106 k_ (by rw [hk_]; exact (ne_z bj5.1))).trans hk_) (fun k_ hk_ => (e106 k_ (by rw [hk_]; exact (ne_z bj5.1))).trans hk_); replace h18 := AT.rc (c' := c105) (j' := m + 1) h18 (fun k_ hk_ => (e106 k_ (by rw [hk_]; exact (ne_mp bj5.2.1))).trans hk_); replace h100 := AR.rc (c' := c105) (i' := 0) h100 (fun k_ hk_ => (e106 k_ (by rw [hk_]; exact (ne_z bj5.1))).trans hk_); replace hat98 := AT.rc (c' := c105) (j' := j4) hat98 (fun k_ hk_ => (e106 k_ (by rw [hk_]; exact (Ne.symm bj5.2.2))).trans hk_); replace h110 := AT.rc (c' := c105) (j' := j4) h110 (fun k_ hk_ => (e106 k_ (by rw [hk_]; exact (Ne.symm bj5.2.2))).trans hk_); have EL113 := E; have E : Ev (fun x => (x = j4 ∨ x = j5) ∨ m ≤ x) c105 w28 c105 w28 := Ev.refl; replace B : CB (m + 5) c105 w28 := B.recol (fun b_ => (e107 b_).imp id (fun q_ => by rw [q_]; exact lm)); refine regD (SB (fun x => x = m + 3) c105 w28) 16 (.q 0 (.q 1 (.q 2 (.q 3 (.q 4 (.q 5 (.q 6 (.q 7 (.q 8 (.q 9 (.f 10 (.f 11 (.f 12 (.e 13 (.e 14 (.q 15 (.e 16 .nil)))) 13 (.f 12 (.e 14 (.q 15 (.e 16 .nil))) 14 (.e 12 (.q 15 (.e 16 .nil))))) 13 (.f 11 (.f 12 (.e 14 (.q 15 (.e 16 .nil))) 14 (.e 12 (.q 15 (.e 16 .nil)))) 14 (.e 11 (.e 12 (.q 15 (.e 16 .nil)))))) 13 (.f 10 (.f 11 (.f 12 (.e 14 (.q 15 (.e 16 .nil))) 14 (.e 12 (.q 15 (.e 16 .nil)))) 14 (.e 11 (.e 12 (.q 15 (.e 16 .nil))))) 14 (.e 10 (.e 11 (.e 12 (.q 15 (.e 16 .nil))))))))))))))))) Try_hm (by decide +kernel) ?_; intro w115 w1_ w2_ w3_ w4_; have E116 : Ev No c105 w28 c105 w115 := Ev.same w1_ w2_ w3_ w4_; replace B := B.same w1_; have zh18 := h18; have zh110 := h110; have ER : Ev (fun x => x = m + 3) c105 w28 c105 w115 := Ev.same w1_ w2_ w3_ w4_; replace h9 := h9.ev E116
 as_aux_lemma =>
 replace h12 := h12.ev E116; replace h100 := h100.ev E116; replace h102 := h102.ev E116; replace hat98 := hat98.ev E116; replace h110 := h110.ev E116; replace h111 := h111.ev E116; replace E := E.n E116; refine dm F ER.sb fun a F => ?_; refine dm F ER.sb fun a F => ?_; refine dm F ER.sb fun a F => ?_; refine dm F ER.sb fun a F => ?_; refine di F ER.sb fun a F => ?_; refine df F ff_75_2 ER.sb fun a F => ?_; refine dq F (fun wq hS => r_indexArr3 F ua_73 sz_27 rfl rfl g104.1 (by have g_ := g104.2; omega) hat98 qqa112) ER.sb fun a F => ?_; refine dq F (fun wq hS => r_load F rfl ag_27 (AT.cell0 (AT.sb zh110 hS (ne_pm bj4.2)) rfl)) ER.sb fun a F => ?_; refine dm F ER.sb fun a F => ?_; refine dq F (fun wq hS => r_loads (cs := [.slice A7 a6.Key.length C8, .slice A10 a6.Value.length C11, .int .i64 a6.Rev]) F rfl ag_36 sz_36 (AT.sb zh18 hS mm)) ER.sb fun a F => ?_; refine d_f ?_ ?_
 ·obtain ⟨t117, q118, H⟩ := bind_some H; refine oc F Try.func41 (merkle_own.calls (m := m + 5) (pl hm0) B h9 h12 _ q118) ?_; rintro e w120 ⟨c119, A123, C124, A126, C127, rfl, E121, B, h125, h128⟩; refine rt fun a F => ?_; replace ER := ER.trans E121 nx
  as_aux_lemma =>
  replace h100 := h100.ev E121; replace h102 := h102.ev E121; replace hat98 := hat98.ev E121; replace h110 := h110.ev E121; replace h111 := h111.ev E121; replace E := E.n E121; refine ⟨fun _ => ER.sb, ?_⟩; refine d_f ?_ ?_
  ·refine o_eff F rfl rfl rfl (by decide) (e_buildSliceF (n := 1) (e := 36) (c := c119) (k := K_api_Row) (i := 0) F [(0, .agg #[.slice A123 t117.Key.length C124, .slice A126 t117.Value.length C127, .int .i64 t117.Rev])] [.slice A123 t117.Key.length C124, .slice A126 t117.Value.length C127, .int .i64 t117.Rev] ([t117] : List api_Row) (by exact ⟨rfl, rfl, trivial⟩) (fun w => by kernel_rfl) rfl (by decide) rfl ⟨⟨A123, C124, A126, C127, rfl, (SL.fl h125 (fun q => q)), (SL.fl h128 (fun q => q))⟩, trivial⟩ (fun q => q) (m + 4)) ?_; rintro v w132 a ⟨c131, A133, C134, rfl, E135, h136, B137, hf130⟩ F; replace B := B137 _ B lm; replace ER := ER.trans E135 nx; replace h100 := h100.ev E135; replace h102 := h102.ev E135; replace hat98 := hat98.ev E135; replace h110 := h110.ev E135; replace h111 := h111.ev E135; replace E := E.n E135; refine ⟨fun _ => ER.sb, ?_⟩; refine d_f ?_ ?_
   ·obtain ⟨t138, q139, H⟩ := bind_some H; refine oc F Try.func56 (slices_Insert.calls (m := m + 5) (pl hm0) B h111 h136.r hf130 (by omega) (by omega) _ q139) ?_; rintro e w141 ⟨c140, A144, C145, rfl, E142, B, h146⟩; refine rt fun a F => ?_
    as_aux_lemma =>
    replace ER := ER.trans E142 (fun x q => by replace q : x = m + 3 := q; show x = m + 3; omega); replace h100 := h100.ev E142; replace h102 := h102.ev E142 (ne_pm bj5.2.1) ne_zm; replace hat98 := hat98.ev E142 (ne_pm bj4.2); replace h110 := h110.ev E142 (ne_pm bj4.2); replace E := E.trans E142 lc1; refine ⟨fun _ => ER.sb, ?_⟩; refine d_e ?_; refine o_val F rfl rfl rfl (by decide) (r_nil F rfl) fun a F => ?_; refine ⟨fun _ => ER.sb, ?_⟩; refine d_e ?_; refine o_val F rfl rfl rfl (by decide) (r_fieldAddr F rfl ff_75_2) fun a F => ?_; refine ⟨fun _ => ER.sb, ?_⟩; refine dq F (fun wq hS => r_indexArr3 F ua_73 sz_27 rfl rfl g104.1 (by have g_ := g104.2; omega) hat98 qqa112) ER.sb fun a F => ?_; refine d_e ?_; refine o_eff0 F rfl rfl rfl (e_storearH F rfl rfl sz_27 (AT.eqv (ds := (([.int .i64 ob94.bits] : List Value) ++ (cs99 ++ (([] : List Value)))) ++ (cs101 ++ (([.int .i64 ob94.many] : List Value)))) hat98 (by simp only [List.append_assoc])) (by have l0_ : cs99.length = 512 := (h100.1 : cs99.length = 512); simp only [List.length_append, List.length_cons, List.length_nil] <;> omega) h102 (m := t25.1.toNat) (by have g_ := g104; omega) qqa112 rfl bj5.2.2 bj4.1) ?_; rintro w148 a ⟨cs151, E149, hat98, h102, h110, Z150⟩ F; replace B := B.size Z150; replace h100 := h100.ev E149 (ne_z bj4.1); replace h146 := h146.ev E149 (ne_mp bj4.2) (ne_z bj4.1); replace E := E.trans E149 (fun x (q : x = j4) => Or.inl (Or.inl q)); replace hat98 : AT true j4 c140 w148 ad97 (([.int .i64 ob94.bits] : List Value) ++ (cs99 ++ (([] : List Value) ++ (cs151 ++ (([.int .i64 ob94.many] : List Value)))))) := AT.eqv hat98 (by simp only [List.append_assoc])
    as_aux_lemma =>
    refine ⟨fun q => absurd rfl q, ?_⟩; refine d_nil ?_; obtain ⟨c152, e153, e154, e155, h102⟩ := ARO.back3 (off := 513) (z := m + 3) (k := t25.1) (AT.eqv (ds := (([.int .i64 ob94.bits] : List Value) ++ (cs99 ++ (([] : List Value)))) ++ (cs151 ++ (([.int .i64 ob94.many] : List Value)))) hat98 (by simp only [List.append_assoc])) (by have l0_ : cs99.length = 512 := (h100.1 : cs99.length = 512); simp only [List.length_append, List.length_cons, List.length_nil] <;> omega) h102 g104.1 (by have g_ := g104.2; omega) (by rw [← qqa112]; exact h110) h146 ⟨(ne_mp bj5.2.1), (pl hm0)⟩ bj5.1; replace h100 := AR.rc (c' := c152) (i' := 0) h100 (fun k_ hk_ => (e153 k_ (by rw [hk_]; exact ne_zm)).trans hk_); replace hat98 := AT.rc (c' := c152) (j' := j4) hat98 (fun k_ hk_ => (e153 k_ (by rw [hk_]; exact (ne_pm bj4.2))).trans hk_); replace E : Ev (fun x => (x = j4 ∨ x = j5) ∨ m ≤ x) c0 w0 c152 w148 := Ev.lent EL113 B0 (by show (j5 = j4 ∨ j5 = j5); omega) (by omega) e106 e107 E e153 e155 (by omega); replace B : CB (m + 5) c152 w148 := B.recol (fun b_ => (e154 b_).imp id (fun q_ => by rw [q_]; exact (Nat.lt_add_right _ bj5.2.1))); exact J364 c152 w148 a ad97 ob94 cs99 t138 cs151 rfl (F.sub ⟨rfl, rfl, trivial⟩) E B hat98 h100 h102 H
   obtain ⟨t138, q139, H⟩ := bind_some H; refine o_val F rfl rfl rfl (by decide) (r_nil F rfl) fun a F => ?_; refine ⟨fun _ => ER.sb, ?_⟩; refine d_f ?_ ?_
   ·refine oc F Try.func56 (slices_Insert.calls (m := m + 5) (pl hm0) B h111 h136.r hf130 (by omega) (by omega) _ q139) ?_; rintro e w157 ⟨c156, A160, C161, rfl, E158, B, h162⟩; refine rt fun a F => ?_; replace ER := ER.trans E158 (fun x q => by replace q : x = m + 3 := q; show x = m + 3; omega); replace h100 := h100.ev E158; replace h102 := h102.ev E158 (ne_pm bj5.2.1) ne_zm; replace hat98 := hat98.ev E158 (ne_pm bj4.2); replace h110 := h110.ev E158 (ne_pm bj4.2); replace E := E.trans E158 lc1; refine ⟨fun _ => ER.sb, ?_⟩; refine d_e ?_
    as_aux_lemma =>
    refine o_val F rfl rfl rfl (by decide) (r_fieldAddr F rfl ff_75_2) fun a F => ?_; refine ⟨fun _ => ER.sb, ?_⟩; refine dq F (fun wq hS => r_indexArr3 F ua_73 sz_27 rfl rfl g104.1 (by have g_ := g104.2; omega) hat98 qqa112) ER.sb fun a F => ?_; refine d_e ?_; refine o_eff0 F rfl rfl rfl (e_storearH F rfl rfl sz_27 (AT.eqv (ds := (([.int .i64 ob94.bits] : List Value) ++ (cs99 ++ (([] : List Value)))) ++ (cs101 ++ (([.int .i64 ob94.many] : List Value)))) hat98 (by simp only [List.append_assoc])) (by have l0_ : cs99.length = 512 := (h100.1 : cs99.length = 512); simp only [List.length_append, List.length_cons, List.length_nil] <;> omega) h102 (m := t25.1.toNat) (by have g_ := g104; omega) qqa112 rfl bj5.2.2 bj4.1) ?_; rintro w164 a ⟨cs167, E165, hat98, h102, h110, Z166⟩ F; replace B := B.size Z166; replace h100 := h100.ev E165 (ne_z bj4.1); replace h162 := h162.ev E165 (ne_mp bj4.2) (ne_z bj4.1); replace E := E.trans E165 (fun x (q : x = j4) => Or.inl (Or.inl q)); replace hat98 : AT true j4 c156 w164 ad97 (([.int .i64 ob94.bits] : List Value) ++ (cs99 ++ (([] : List Value) ++ (cs167 ++ (([.int .i64 ob94.many] : List Value)))))) := AT.eqv hat98 (by simp only [List.append_assoc]); refine ⟨fun q => absurd rfl q, ?_⟩; refine d_nil ?_; obtain ⟨c168, e169, e170, e171, h102⟩ := ARO.back3 (off := 513) (z := m + 3) (k := t25.1) (AT.eqv (ds := (([.int .i64 ob94.bits] : List Value) ++ (cs99 ++ (([] : List Value)))) ++ (cs167 ++ (([.int .i64 ob94.many] : List Value)))) hat98 (by simp only [List.append_assoc])) (by have l0_ : cs99.length = 512 := (h100.1 : cs99.length = 512); simp only [List.length_append, List.length_cons, List.length_nil] <;> omega) h102 g104.1 (by have g_ := g104.2; omega) (by rw [← qqa112]; exact h110) h162 ⟨(ne_mp bj5.2.1), (pl hm0)⟩ bj5.1; replace h100 := AR.rc (c' := c168) (i' := 0) h100 (fun k_ hk_ => (e169 k_ (by rw [hk_]; exact ne_zm)).trans hk_); replace hat98 := AT.rc (c' := c168) (j' := j4) hat98 (fun k_ hk_ => (e169 k_ (by rw [hk_]; exact (ne_pm bj4.2))).trans hk_); replace E : Ev (fun x => (x = j4 ∨ x = j5) ∨ m ≤ x) c0 w0 c168 w164 := Ev.lent EL113 B0 (by show (j5 = j4 ∨ j5 = j5); omega) (by omega) e106 e107 E e169 e171 (by omega); replace B : CB (m + 5) c168 w164 := B.recol (fun b_ => (e170 b_).imp id (fun q_ => by rw [q_]; exact (Nat.lt_add_right _ bj5.2.1))); exact J364 c168 w164 a ad97 ob94 cs99 t138 cs167 rfl (F.sub ⟨rfl, rfl, trivial⟩) E B hat98 h100 h102 H
   refine o_val F rfl rfl rfl (by decide) (r_fieldAddr F rfl ff_75_2) fun a F => ?_; refine ⟨fun _ => ER.sb, ?_⟩; refine d_e ?_
   as_aux_lemma =>
   refine oc F Try.func56 (slices_Insert.calls (m := m + 5) (pl hm0) B h111 h136.r hf130 (by omega) (by omega) _ q139) ?_; rintro e w173 ⟨c172, A176, C177, rfl, E174, B, h178⟩; refine rt fun a F => ?_; replace ER := ER.trans E174 (fun x q => by replace q : x = m + 3 := q; show x = m + 3; omega); replace h100 := h100.ev E174; replace h102 := h102.ev E174 (ne_pm bj5.2.1) ne_zm; replace hat98 := hat98.ev E174 (ne_pm bj4.2); replace h110 := h110.ev E174 (ne_pm bj4.2); replace E := E.trans E174 lc1; refine ⟨fun _ => ER.sb, ?_⟩; refine dq F (fun wq hS => r_indexArr3 F ua_73 sz_27 rfl rfl g104.1 (by have g_ := g104.2; omega) hat98 qqa112) ER.sb fun a F => ?_; refine d_e ?_; refine o_eff0 F rfl rfl rfl (e_storearH F rfl rfl sz_27 (AT.eqv (ds := (([.int .i64 ob94.bits] : List Value) ++ (cs99 ++ (([] : List Value)))) ++ (cs101 ++ (([.int .i64 ob94.many] : List Value)))) hat98 (by simp only [List.append_assoc])) (by have l0_ : cs99.length = 512 := (h100.1 : cs99.length = 512); simp only [List.length_append, List.length_cons, List.length_nil] <;> omega) h102 (m := t25.1.toNat) (by have g_ := g104; omega) qqa112 rfl bj5.2.2 bj4.1) ?_; rintro w180 a ⟨cs183, E181, hat98, h102, h110, Z182⟩ F; replace B := B.size Z182; replace h100 := h100.ev E181 (ne_z bj4.1); replace h178 := h178.ev E181 (ne_mp bj4.2) (ne_z bj4.1); replace E := E.trans E181 (fun x (q : x = j4) => Or.inl (Or.inl q)); replace hat98 : AT true j4 c172 w180 ad97 (([.int .i64 ob94.bits] : List Value) ++ (cs99 ++ (([] : List Value) ++ (cs183 ++ (([.int .i64 ob94.many] : List Value)))))) := AT.eqv hat98 (by simp only [List.append_assoc]); refine ⟨fun q => absurd rfl q, ?_⟩; refine d_nil ?_; obtain ⟨c184, e185, e186, e187, h102⟩ := ARO.back3 (off := 513) (z := m + 3) (k := t25.1) (AT.eqv (ds := (([.int .i64 ob94.bits] : List Value) ++ (cs99 ++ (([] : List Value)))) ++ (cs183 ++ (([.int .i64 ob94.many] : List Value)))) hat98 (by simp only [List.append_assoc])) (by have l0_ : cs99.length = 512 := (h100.1 : cs99.length = 512); simp only [List.length_append, List.length_cons, List.length_nil] <;> omega) h102 g104.1 (by have g_ := g104.2; omega) (by rw [← qqa112]; exact h110) h178 ⟨(ne_mp bj5.2.1), (pl hm0)⟩ bj5.1
   as_aux_lemma =>
   replace h100 := AR.rc (c' := c184) (i' := 0) h100 (fun k_ hk_ => (e185 k_ (by rw [hk_]; exact ne_zm)).trans hk_); replace hat98 := AT.rc (c' := c184) (j' := j4) hat98 (fun k_ hk_ => (e185 k_ (by rw [hk_]; exact (ne_pm bj4.2))).trans hk_); replace E : Ev (fun x => (x = j4 ∨ x = j5) ∨ m ≤ x) c0 w0 c184 w180 := Ev.lent EL113 B0 (by show (j5 = j4 ∨ j5 = j5); omega) (by omega) e106 e107 E e185 e187 (by omega); replace B : CB (m + 5) c184 w180 := B.recol (fun b_ => (e186 b_).imp id (fun q_ => by rw [q_]; exact (Nat.lt_add_right _ bj5.2.1))); exact J364 c184 w180 a ad97 ob94 cs99 t138 cs183 rfl (F.sub ⟨rfl, rfl, trivial⟩) E B hat98 h100 h102 H
  refine o_val F rfl rfl rfl (by decide) (r_nil F rfl) fun a F => ?_; refine ⟨fun _ => ER.sb, ?_⟩; refine d_f ?_ ?_
  ·refine o_eff F rfl rfl rfl (by decide) (e_buildSliceF (n := 1) (e := 36) (c := c119) (k := K_api_Row) (i := 0) F [(0, .agg #[.slice A123 t117.Key.length C124, .slice A126 t117.Value.length C127, .int .i64 t117.Rev])] [.slice A123 t117.Key.length C124, .slice A126 t117.Value.length C127, .int .i64 t117.Rev] ([t117] : List api_Row) (by exact ⟨rfl, rfl, trivial⟩) (fun w => by kernel_rfl) rfl (by decide) rfl ⟨⟨A123, C124, A126, C127, rfl, (SL.fl h125 (fun q => q)), (SL.fl h128 (fun q => q))⟩, trivial⟩ (fun q => q) (m + 4)) ?_; rintro v w190 a ⟨c189, A191, C192, rfl, E193, h194, B195, hf188⟩ F; replace B := B195 _ B lm; replace ER := ER.trans E193 nx; replace h100 := h100.ev E193; replace h102 := h102.ev E193; replace hat98 := hat98.ev E193; replace h110 := h110.ev E193; replace h111 := h111.ev E193; replace E := E.n E193; refine ⟨fun _ => ER.sb, ?_⟩; refine d_f ?_ ?_
   ·obtain ⟨t138, q139, H⟩ := bind_some H; refine oc F Try.func56 (slices_Insert.calls (m := m + 5) (pl hm0) B h111 h194.r hf188 (by omega) (by omega) _ q139) ?_; rintro e w197 ⟨c196, A200, C201, rfl, E198, B, h202⟩; refine rt fun a F => ?_
    as_aux_lemma =>
    replace ER := ER.trans E198 (fun x q => by replace q : x = m + 3 := q; show x = m + 3; omega); replace h100 := h100.ev E198; replace h102 := h102.ev E198 (ne_pm bj5.2.1) ne_zm; replace hat98 := hat98.ev E198 (ne_pm bj4.2); replace h110 := h110.ev E198 (ne_pm bj4.2); replace E := E.trans E198 lc1; refine ⟨fun _ => ER.sb, ?_⟩; refine d_e ?_; refine o_val F rfl rfl rfl (by decide) (r_fieldAddr F rfl ff_75_2) fun a F => ?_; refine ⟨fun _ => ER.sb, ?_⟩; refine dq F (fun wq hS => r_indexArr3 F ua_73 sz_27 rfl rfl g104.1 (by have g_ := g104.2; omega) hat98 qqa112) ER.sb fun a F => ?_; refine d_e ?_; refine o_eff0 F rfl rfl rfl (e_storearH F rfl rfl sz_27 (AT.eqv (ds := (([.int .i64 ob94.bits] : List Value) ++ (cs99 ++ (([] : List Value)))) ++ (cs101 ++ (([.int .i64 ob94.many] : List Value)))) hat98 (by simp only [List.append_assoc])) (by have l0_ : cs99.length = 512 := (h100.1 : cs99.length = 512); simp only [List.length_append, List.length_cons, List.length_nil] <;> omega) h102 (m := t25.1.toNat) (by have g_ := g104; omega) qqa112 rfl bj5.2.2 bj4.1) ?_; rintro w204 a ⟨cs207, E205, hat98, h102, h110, Z206⟩ F; replace B := B.size Z206; replace h100 := h100.ev E205 (ne_z bj4.1); replace h202 := h202.ev E205 (ne_mp bj4.2) (ne_z bj4.1); replace E := E.trans E205 (fun x (q : x = j4) => Or.inl (Or.inl q)); replace hat98 : AT true j4 c196 w204 ad97 (([.int .i64 ob94.bits] : List Value) ++ (cs99 ++ (([] : List Value) ++ (cs207 ++ (([.int .i64 ob94.many] : List Value)))))) := AT.eqv hat98 (by simp only [List.append_assoc]); refine ⟨fun q => absurd rfl q, ?_⟩; refine d_nil ?_; obtain ⟨c208, e209, e210, e211, h102⟩ := ARO.back3 (off := 513) (z := m + 3) (k := t25.1) (AT.eqv (ds := (([.int .i64 ob94.bits] : List Value) ++ (cs99 ++ (([] : List Value)))) ++ (cs207 ++ (([.int .i64 ob94.many] : List Value)))) hat98 (by simp only [List.append_assoc])) (by have l0_ : cs99.length = 512 := (h100.1 : cs99.length = 512); simp only [List.length_append, List.length_cons, List.length_nil] <;> omega) h102 g104.1 (by have g_ := g104.2; omega) (by rw [← qqa112]; exact h110) h202 ⟨(ne_mp bj5.2.1), (pl hm0)⟩ bj5.1
    as_aux_lemma =>
    replace h100 := AR.rc (c' := c208) (i' := 0) h100 (fun k_ hk_ => (e209 k_ (by rw [hk_]; exact ne_zm)).trans hk_); replace hat98 := AT.rc (c' := c208) (j' := j4) hat98 (fun k_ hk_ => (e209 k_ (by rw [hk_]; exact (ne_pm bj4.2))).trans hk_); replace E : Ev (fun x => (x = j4 ∨ x = j5) ∨ m ≤ x) c0 w0 c208 w204 := Ev.lent EL113 B0 (by show (j5 = j4 ∨ j5 = j5); omega) (by omega) e106 e107 E e209 e211 (by omega); replace B : CB (m + 5) c208 w204 := B.recol (fun b_ => (e210 b_).imp id (fun q_ => by rw [q_]; exact (Nat.lt_add_right _ bj5.2.1))); exact J364 c208 w204 a ad97 ob94 cs99 t138 cs207 rfl (F.sub ⟨rfl, rfl, trivial⟩) E B hat98 h100 h102 H
   obtain ⟨t138, q139, H⟩ := bind_some H; refine o_val F rfl rfl rfl (by decide) (r_fieldAddr F rfl ff_75_2) fun a F => ?_; refine ⟨fun _ => ER.sb, ?_⟩; refine d_e ?_; refine oc F Try.func56 (slices_Insert.calls (m := m + 5) (pl hm0) B h111 h194.r hf188 (by omega) (by omega) _ q139) ?_; rintro e w213 ⟨c212, A216, C217, rfl, E214, B, h218⟩; refine rt fun a F => ?_; replace ER := ER.trans E214 (fun x q => by replace q : x = m + 3 := q; show x = m + 3; omega); replace h100 := h100.ev E214; replace h102 := h102.ev E214 (ne_pm bj5.2.1) ne_zm; replace hat98 := hat98.ev E214 (ne_pm bj4.2); replace h110 := h110.ev E214 (ne_pm bj4.2); replace E := E.trans E214 lc1; refine ⟨fun _ => ER.sb, ?_⟩; refine dq F (fun wq hS => r_indexArr3 F ua_73 sz_27 rfl rfl g104.1 (by have g_ := g104.2; omega) hat98 qqa112) ER.sb fun a F => ?_; refine d_e ?_; refine o_eff0 F rfl rfl rfl (e_storearH F rfl rfl sz_27 (AT.eqv (ds := (([.int .i64 ob94.bits] : List Value) ++ (cs99 ++ (([] : List Value)))) ++ (cs101 ++ (([.int .i64 ob94.many] : List Value)))) hat98 (by simp only [List.append_assoc])) (by have l0_ : cs99.length = 512 := (h100.1 : cs99.length = 512); simp only [List.length_append, List.length_cons, List.length_nil] <;> omega) h102 (m := t25.1.toNat) (by have g_ := g104; omega) qqa112 rfl bj5.2.2 bj4.1) ?_; rintro w220 a ⟨cs223, E221, hat98, h102, h110, Z222⟩ F
   as_aux_lemma =>
   replace B := B.size Z222; replace h100 := h100.ev E221 (ne_z bj4.1); replace h218 := h218.ev E221 (ne_mp bj4.2) (ne_z bj4.1); replace E := E.trans E221 (fun x (q : x = j4) => Or.inl (Or.inl q)); replace hat98 : AT true j4 c212 w220 ad97 (([.int .i64 ob94.bits] : List Value) ++ (cs99 ++ (([] : List Value) ++ (cs223 ++ (([.int .i64 ob94.many] : List Value)))))) := AT.eqv hat98 (by simp only [List.append_assoc]); refine ⟨fun q => absurd rfl q, ?_⟩; refine d_nil ?_; obtain ⟨c224, e225, e226, e227, h102⟩ := ARO.back3 (off := 513) (z := m + 3) (k := t25.1) (AT.eqv (ds := (([.int .i64 ob94.bits] : List Value) ++ (cs99 ++ (([] : List Value)))) ++ (cs223 ++ (([.int .i64 ob94.many] : List Value)))) hat98 (by simp only [List.append_assoc])) (by have l0_ : cs99.length = 512 := (h100.1 : cs99.length = 512); simp only [List.length_append, List.length_cons, List.length_nil] <;> omega) h102 g104.1 (by have g_ := g104.2; omega) (by rw [← qqa112]; exact h110) h218 ⟨(ne_mp bj5.2.1), (pl hm0)⟩ bj5.1; replace h100 := AR.rc (c' := c224) (i' := 0) h100 (fun k_ hk_ => (e225 k_ (by rw [hk_]; exact ne_zm)).trans hk_); replace hat98 := AT.rc (c' := c224) (j' := j4) hat98 (fun k_ hk_ => (e225 k_ (by rw [hk_]; exact (ne_pm bj4.2))).trans hk_); replace E : Ev (fun x => (x = j4 ∨ x = j5) ∨ m ≤ x) c0 w0 c224 w220 := Ev.lent EL113 B0 (by show (j5 = j4 ∨ j5 = j5); omega) (by omega) e106 e107 E e225 e227 (by omega); replace B : CB (m + 5) c224 w220 := B.recol (fun b_ => (e226 b_).imp id (fun q_ => by rw [q_]; exact (Nat.lt_add_right _ bj5.2.1))); exact J364 c224 w220 a ad97 ob94 cs99 t138 cs223 rfl (F.sub ⟨rfl, rfl, trivial⟩) E B hat98 h100 h102 H
  refine o_val F rfl rfl rfl (by decide) (r_fieldAddr F rfl ff_75_2) fun a F => ?_; refine ⟨fun _ => ER.sb, ?_⟩; refine d_e ?_; refine o_eff F rfl rfl rfl (by decide) (e_buildSliceF (n := 1) (e := 36) (c := c119) (k := K_api_Row) (i := 0) F [(0, .agg #[.slice A123 t117.Key.length C124, .slice A126 t117.Value.length C127, .int .i64 t117.Rev])] [.slice A123 t117.Key.length C124, .slice A126 t117.Value.length C127, .int .i64 t117.Rev] ([t117] : List api_Row) (by exact ⟨rfl, rfl, trivial⟩) (fun w => by kernel_rfl) rfl (by decide) rfl ⟨⟨A123, C124, A126, C127, rfl, (SL.fl h125 (fun q => q)), (SL.fl h128 (fun q => q))⟩, trivial⟩ (fun q => q) (m + 4)) ?_; rintro v w230 a ⟨c229, A231, C232, rfl, E233, h234, B235, hf228⟩ F; replace B := B235 _ B lm; replace ER := ER.trans E233 nx; replace h100 := h100.ev E233; replace h102 := h102.ev E233
  as_aux_lemma =>
  replace hat98 := hat98.ev E233; replace h110 := h110.ev E233; replace h111 := h111.ev E233; replace E := E.n E233; refine ⟨fun _ => ER.sb, ?_⟩; refine d_e ?_; obtain ⟨t138, q139, H⟩ := bind_some H; refine oc F Try.func56 (slices_Insert.calls (m := m + 5) (pl hm0) B h111 h234.r hf228 (by omega) (by omega) _ q139) ?_; rintro e w237 ⟨c236, A240, C241, rfl, E238, B, h242⟩; refine rt fun a F => ?_; replace ER := ER.trans E238 (fun x q => by replace q : x = m + 3 := q; show x = m + 3; omega); replace h100 := h100.ev E238; replace h102 := h102.ev E238 (ne_pm bj5.2.1) ne_zm; replace hat98 := hat98.ev E238 (ne_pm bj4.2); replace h110 := h110.ev E238 (ne_pm bj4.2); replace E := E.trans E238 lc1; refine ⟨fun _ => ER.sb, ?_⟩; refine dq F (fun wq hS => r_indexArr3 F ua_73 sz_27 rfl rfl g104.1 (by have g_ := g104.2; omega) hat98 qqa112) ER.sb fun a F => ?_; refine d_e ?_; refine o_eff0 F rfl rfl rfl (e_storearH F rfl rfl sz_27 (AT.eqv (ds := (([.int .i64 ob94.bits] : List Value) ++ (cs99 ++ (([] : List Value)))) ++ (cs101 ++ (([.int .i64 ob94.many] : List Value)))) hat98 (by simp only [List.append_assoc])) (by have l0_ : cs99.length = 512 := (h100.1 : cs99.length = 512); simp only [List.length_append, List.length_cons, List.length_nil] <;> omega) h102 (m := t25.1.toNat) (by have g_ := g104; omega) qqa112 rfl bj5.2.2 bj4.1) ?_; rintro w244 a ⟨cs247, E245, hat98, h102, h110, Z246⟩ F; replace B := B.size Z246
  as_aux_lemma =>
  replace h100 := h100.ev E245 (ne_z bj4.1); replace h242 := h242.ev E245 (ne_mp bj4.2) (ne_z bj4.1); replace E := E.trans E245 (fun x (q : x = j4) => Or.inl (Or.inl q)); replace hat98 : AT true j4 c236 w244 ad97 (([.int .i64 ob94.bits] : List Value) ++ (cs99 ++ (([] : List Value) ++ (cs247 ++ (([.int .i64 ob94.many] : List Value)))))) := AT.eqv hat98 (by simp only [List.append_assoc]); refine ⟨fun q => absurd rfl q, ?_⟩; refine d_nil ?_; obtain ⟨c248, e249, e250, e251, h102⟩ := ARO.back3 (off := 513) (z := m + 3) (k := t25.1) (AT.eqv (ds := (([.int .i64 ob94.bits] : List Value) ++ (cs99 ++ (([] : List Value)))) ++ (cs247 ++ (([.int .i64 ob94.many] : List Value)))) hat98 (by simp only [List.append_assoc])) (by have l0_ : cs99.length = 512 := (h100.1 : cs99.length = 512); simp only [List.length_append, List.length_cons, List.length_nil] <;> omega) h102 g104.1 (by have g_ := g104.2; omega) (by rw [← qqa112]; exact h110) h242 ⟨(ne_mp bj5.2.1), (pl hm0)⟩ bj5.1; replace h100 := AR.rc (c' := c248) (i' := 0) h100 (fun k_ hk_ => (e249 k_ (by rw [hk_]; exact ne_zm)).trans hk_); replace hat98 := AT.rc (c' := c248) (j' := j4) hat98 (fun k_ hk_ => (e249 k_ (by rw [hk_]; exact (ne_pm bj4.2))).trans hk_); replace E : Ev (fun x => (x = j4 ∨ x = j5) ∨ m ≤ x) c0 w0 c248 w244 := Ev.lent EL113 B0 (by show (j5 = j4 ∨ j5 = j5); omega) (by omega) e106 e107 E e249 e251 (by omega); replace B : CB (m + 5) c248 w244 := B.recol (fun b_ => (e250 b_).imp id (fun q_ => by rw [q_]; exact (Nat.lt_add_right _ bj5.2.1))); exact J364 c248 w244 a ad97 ob94 cs99 t138 cs247 rfl (F.sub ⟨rfl, rfl, trivial⟩) E B hat98 h100 h102 H
 refine o_val F rfl rfl rfl (by decide) (r_nil F rfl) fun a F => ?_; refine ⟨fun _ => ER.sb, ?_⟩; refine d_f ?_ ?_
 ·obtain ⟨t117, q118, H⟩ := bind_some H; refine oc F Try.func41 (merkle_own.calls (m := m + 5) (pl hm0) B h9 h12 _ q118) ?_; rintro e w253 ⟨c252, A256, C257, A259, C260, rfl, E254, B, h258, h261⟩; refine rt fun a F => ?_; replace ER := ER.trans E254 nx; replace h100 := h100.ev E254; replace h102 := h102.ev E254; replace hat98 := hat98.ev E254
  as_aux_lemma =>
  replace h110 := h110.ev E254; replace h111 := h111.ev E254; replace E := E.n E254; refine ⟨fun _ => ER.sb, ?_⟩; refine d_f ?_ ?_
  ·refine o_eff F rfl rfl rfl (by decide) (e_buildSliceF (n := 1) (e := 36) (c := c252) (k := K_api_Row) (i := 0) F [(0, .agg #[.slice A256 t117.Key.length C257, .slice A259 t117.Value.length C260, .int .i64 t117.Rev])] [.slice A256 t117.Key.length C257, .slice A259 t117.Value.length C260, .int .i64 t117.Rev] ([t117] : List api_Row) (by exact ⟨rfl, rfl, trivial⟩) (fun w => by kernel_rfl) rfl (by decide) rfl ⟨⟨A256, C257, A259, C260, rfl, (SL.fl h258 (fun q => q)), (SL.fl h261 (fun q => q))⟩, trivial⟩ (fun q => q) (m + 4)) ?_; rintro v w265 a ⟨c264, A266, C267, rfl, E268, h269, B270, hf263⟩ F; replace B := B270 _ B lm; replace ER := ER.trans E268 nx; replace h100 := h100.ev E268; replace h102 := h102.ev E268; replace hat98 := hat98.ev E268; replace h110 := h110.ev E268; replace h111 := h111.ev E268; replace E := E.n E268; refine ⟨fun _ => ER.sb, ?_⟩; refine d_f ?_ ?_
   ·obtain ⟨t138, q139, H⟩ := bind_some H; refine oc F Try.func56 (slices_Insert.calls (m := m + 5) (pl hm0) B h111 h269.r hf263 (by omega) (by omega) _ q139) ?_; rintro e w272 ⟨c271, A275, C276, rfl, E273, B, h277⟩; refine rt fun a F => ?_; replace ER := ER.trans E273 (fun x q => by replace q : x = m + 3 := q; show x = m + 3; omega); replace h100 := h100.ev E273; replace h102 := h102.ev E273 (ne_pm bj5.2.1) ne_zm
    as_aux_lemma =>
    replace hat98 := hat98.ev E273 (ne_pm bj4.2); replace h110 := h110.ev E273 (ne_pm bj4.2); replace E := E.trans E273 lc1; refine ⟨fun _ => ER.sb, ?_⟩; refine d_e ?_; refine o_val F rfl rfl rfl (by decide) (r_fieldAddr F rfl ff_75_2) fun a F => ?_; refine ⟨fun _ => ER.sb, ?_⟩; refine dq F (fun wq hS => r_indexArr3 F ua_73 sz_27 rfl rfl g104.1 (by have g_ := g104.2; omega) hat98 qqa112) ER.sb fun a F => ?_; refine d_e ?_; refine o_eff0 F rfl rfl rfl (e_storearH F rfl rfl sz_27 (AT.eqv (ds := (([.int .i64 ob94.bits] : List Value) ++ (cs99 ++ (([] : List Value)))) ++ (cs101 ++ (([.int .i64 ob94.many] : List Value)))) hat98 (by simp only [List.append_assoc])) (by have l0_ : cs99.length = 512 := (h100.1 : cs99.length = 512); simp only [List.length_append, List.length_cons, List.length_nil] <;> omega) h102 (m := t25.1.toNat) (by have g_ := g104; omega) qqa112 rfl bj5.2.2 bj4.1) ?_; rintro w279 a ⟨cs282, E280, hat98, h102, h110, Z281⟩ F; replace B := B.size Z281; replace h100 := h100.ev E280 (ne_z bj4.1); replace h277 := h277.ev E280 (ne_mp bj4.2) (ne_z bj4.1); replace E := E.trans E280 (fun x (q : x = j4) => Or.inl (Or.inl q)); replace hat98 : AT true j4 c271 w279 ad97 (([.int .i64 ob94.bits] : List Value) ++ (cs99 ++ (([] : List Value) ++ (cs282 ++ (([.int .i64 ob94.many] : List Value)))))) := AT.eqv hat98 (by simp only [List.append_assoc]); refine ⟨fun q => absurd rfl q, ?_⟩; refine d_nil ?_; obtain ⟨c283, e284, e285, e286, h102⟩ := ARO.back3 (off := 513) (z := m + 3) (k := t25.1) (AT.eqv (ds := (([.int .i64 ob94.bits] : List Value) ++ (cs99 ++ (([] : List Value)))) ++ (cs282 ++ (([.int .i64 ob94.many] : List Value)))) hat98 (by simp only [List.append_assoc])) (by have l0_ : cs99.length = 512 := (h100.1 : cs99.length = 512); simp only [List.length_append, List.length_cons, List.length_nil] <;> omega) h102 g104.1 (by have g_ := g104.2; omega) (by rw [← qqa112]; exact h110) h277 ⟨(ne_mp bj5.2.1), (pl hm0)⟩ bj5.1; replace h100 := AR.rc (c' := c283) (i' := 0) h100 (fun k_ hk_ => (e284 k_ (by rw [hk_]; exact ne_zm)).trans hk_); replace hat98 := AT.rc (c' := c283) (j' := j4) hat98 (fun k_ hk_ => (e284 k_ (by rw [hk_]; exact (ne_pm bj4.2))).trans hk_); replace E : Ev (fun x => (x = j4 ∨ x = j5) ∨ m ≤ x) c0 w0 c283 w279 := Ev.lent EL113 B0 (by show (j5 = j4 ∨ j5 = j5); omega) (by omega) e106 e107 E e284 e286 (by omega)
    as_aux_lemma =>
    replace B : CB (m + 5) c283 w279 := B.recol (fun b_ => (e285 b_).imp id (fun q_ => by rw [q_]; exact (Nat.lt_add_right _ bj5.2.1))); exact J364 c283 w279 a ad97 ob94 cs99 t138 cs282 rfl (F.sub ⟨rfl, rfl, trivial⟩) E B hat98 h100 h102 H
   obtain ⟨t138, q139, H⟩ := bind_some H; refine o_val F rfl rfl rfl (by decide) (r_fieldAddr F rfl ff_75_2) fun a F => ?_; refine ⟨fun _ => ER.sb, ?_⟩; refine d_e ?_; refine oc F Try.func56 (slices_Insert.calls (m := m + 5) (pl hm0) B h111 h269.r hf263 (by omega) (by omega) _ q139) ?_; rintro e w288 ⟨c287, A291, C292, rfl, E289, B, h293⟩; refine rt fun a F => ?_; replace ER := ER.trans E289 (fun x q => by replace q : x = m + 3 := q; show x = m + 3; omega); replace h100 := h100.ev E289; replace h102 := h102.ev E289 (ne_pm bj5.2.1) ne_zm; replace hat98 := hat98.ev E289 (ne_pm bj4.2); replace h110 := h110.ev E289 (ne_pm bj4.2); replace E := E.trans E289 lc1; refine ⟨fun _ => ER.sb, ?_⟩; refine dq F (fun wq hS => r_indexArr3 F ua_73 sz_27 rfl rfl g104.1 (by have g_ := g104.2; omega) hat98 qqa112) ER.sb fun a F => ?_; refine d_e ?_; refine o_eff0 F rfl rfl rfl (e_storearH F rfl rfl sz_27 (AT.eqv (ds := (([.int .i64 ob94.bits] : List Value) ++ (cs99 ++ (([] : List Value)))) ++ (cs101 ++ (([.int .i64 ob94.many] : List Value)))) hat98 (by simp only [List.append_assoc])) (by have l0_ : cs99.length = 512 := (h100.1 : cs99.length = 512); simp only [List.length_append, List.length_cons, List.length_nil] <;> omega) h102 (m := t25.1.toNat) (by have g_ := g104; omega) qqa112 rfl bj5.2.2 bj4.1) ?_; rintro w295 a ⟨cs298, E296, hat98, h102, h110, Z297⟩ F; replace B := B.size Z297; replace h100 := h100.ev E296 (ne_z bj4.1)
   as_aux_lemma =>
   replace h293 := h293.ev E296 (ne_mp bj4.2) (ne_z bj4.1); replace E := E.trans E296 (fun x (q : x = j4) => Or.inl (Or.inl q)); replace hat98 : AT true j4 c287 w295 ad97 (([.int .i64 ob94.bits] : List Value) ++ (cs99 ++ (([] : List Value) ++ (cs298 ++ (([.int .i64 ob94.many] : List Value)))))) := AT.eqv hat98 (by simp only [List.append_assoc]); refine ⟨fun q => absurd rfl q, ?_⟩; refine d_nil ?_; obtain ⟨c299, e300, e301, e302, h102⟩ := ARO.back3 (off := 513) (z := m + 3) (k := t25.1) (AT.eqv (ds := (([.int .i64 ob94.bits] : List Value) ++ (cs99 ++ (([] : List Value)))) ++ (cs298 ++ (([.int .i64 ob94.many] : List Value)))) hat98 (by simp only [List.append_assoc])) (by have l0_ : cs99.length = 512 := (h100.1 : cs99.length = 512); simp only [List.length_append, List.length_cons, List.length_nil] <;> omega) h102 g104.1 (by have g_ := g104.2; omega) (by rw [← qqa112]; exact h110) h293 ⟨(ne_mp bj5.2.1), (pl hm0)⟩ bj5.1; replace h100 := AR.rc (c' := c299) (i' := 0) h100 (fun k_ hk_ => (e300 k_ (by rw [hk_]; exact ne_zm)).trans hk_); replace hat98 := AT.rc (c' := c299) (j' := j4) hat98 (fun k_ hk_ => (e300 k_ (by rw [hk_]; exact (ne_pm bj4.2))).trans hk_); replace E : Ev (fun x => (x = j4 ∨ x = j5) ∨ m ≤ x) c0 w0 c299 w295 := Ev.lent EL113 B0 (by show (j5 = j4 ∨ j5 = j5); omega) (by omega) e106 e107 E e300 e302 (by omega); replace B : CB (m + 5) c299 w295 := B.recol (fun b_ => (e301 b_).imp id (fun q_ => by rw [q_]; exact (Nat.lt_add_right _ bj5.2.1))); exact J364 c299 w295 a ad97 ob94 cs99 t138 cs298 rfl (F.sub ⟨rfl, rfl, trivial⟩) E B hat98 h100 h102 H
  refine o_val F rfl rfl rfl (by decide) (r_fieldAddr F rfl ff_75_2) fun a F => ?_; refine ⟨fun _ => ER.sb, ?_⟩; refine d_e ?_; refine o_eff F rfl rfl rfl (by decide) (e_buildSliceF (n := 1) (e := 36) (c := c252) (k := K_api_Row) (i := 0) F [(0, .agg #[.slice A256 t117.Key.length C257, .slice A259 t117.Value.length C260, .int .i64 t117.Rev])] [.slice A256 t117.Key.length C257, .slice A259 t117.Value.length C260, .int .i64 t117.Rev] ([t117] : List api_Row) (by exact ⟨rfl, rfl, trivial⟩) (fun w => by kernel_rfl) rfl (by decide) rfl ⟨⟨A256, C257, A259, C260, rfl, (SL.fl h258 (fun q => q)), (SL.fl h261 (fun q => q))⟩, trivial⟩ (fun q => q) (m + 4)) ?_; rintro v w305 a ⟨c304, A306, C307, rfl, E308, h309, B310, hf303⟩ F; replace B := B310 _ B lm; replace ER := ER.trans E308 nx; replace h100 := h100.ev E308; replace h102 := h102.ev E308; replace hat98 := hat98.ev E308; replace h110 := h110.ev E308
  as_aux_lemma =>
  replace h111 := h111.ev E308; replace E := E.n E308; refine ⟨fun _ => ER.sb, ?_⟩; refine d_e ?_; obtain ⟨t138, q139, H⟩ := bind_some H; refine oc F Try.func56 (slices_Insert.calls (m := m + 5) (pl hm0) B h111 h309.r hf303 (by omega) (by omega) _ q139) ?_; rintro e w312 ⟨c311, A315, C316, rfl, E313, B, h317⟩; refine rt fun a F => ?_; replace ER := ER.trans E313 (fun x q => by replace q : x = m + 3 := q; show x = m + 3; omega); replace h100 := h100.ev E313; replace h102 := h102.ev E313 (ne_pm bj5.2.1) ne_zm; replace hat98 := hat98.ev E313 (ne_pm bj4.2); replace h110 := h110.ev E313 (ne_pm bj4.2); replace E := E.trans E313 lc1; refine ⟨fun _ => ER.sb, ?_⟩; refine dq F (fun wq hS => r_indexArr3 F ua_73 sz_27 rfl rfl g104.1 (by have g_ := g104.2; omega) hat98 qqa112) ER.sb fun a F => ?_; refine d_e ?_; refine o_eff0 F rfl rfl rfl (e_storearH F rfl rfl sz_27 (AT.eqv (ds := (([.int .i64 ob94.bits] : List Value) ++ (cs99 ++ (([] : List Value)))) ++ (cs101 ++ (([.int .i64 ob94.many] : List Value)))) hat98 (by simp only [List.append_assoc])) (by have l0_ : cs99.length = 512 := (h100.1 : cs99.length = 512); simp only [List.length_append, List.length_cons, List.length_nil] <;> omega) h102 (m := t25.1.toNat) (by have g_ := g104; omega) qqa112 rfl bj5.2.2 bj4.1) ?_; rintro w319 a ⟨cs322, E320, hat98, h102, h110, Z321⟩ F; replace B := B.size Z321; replace h100 := h100.ev E320 (ne_z bj4.1); replace h317 := h317.ev E320 (ne_mp bj4.2) (ne_z bj4.1)
  as_aux_lemma =>
  replace E := E.trans E320 (fun x (q : x = j4) => Or.inl (Or.inl q)); replace hat98 : AT true j4 c311 w319 ad97 (([.int .i64 ob94.bits] : List Value) ++ (cs99 ++ (([] : List Value) ++ (cs322 ++ (([.int .i64 ob94.many] : List Value)))))) := AT.eqv hat98 (by simp only [List.append_assoc]); refine ⟨fun q => absurd rfl q, ?_⟩; refine d_nil ?_; obtain ⟨c323, e324, e325, e326, h102⟩ := ARO.back3 (off := 513) (z := m + 3) (k := t25.1) (AT.eqv (ds := (([.int .i64 ob94.bits] : List Value) ++ (cs99 ++ (([] : List Value)))) ++ (cs322 ++ (([.int .i64 ob94.many] : List Value)))) hat98 (by simp only [List.append_assoc])) (by have l0_ : cs99.length = 512 := (h100.1 : cs99.length = 512); simp only [List.length_append, List.length_cons, List.length_nil] <;> omega) h102 g104.1 (by have g_ := g104.2; omega) (by rw [← qqa112]; exact h110) h317 ⟨(ne_mp bj5.2.1), (pl hm0)⟩ bj5.1; replace h100 := AR.rc (c' := c323) (i' := 0) h100 (fun k_ hk_ => (e324 k_ (by rw [hk_]; exact ne_zm)).trans hk_); replace hat98 := AT.rc (c' := c323) (j' := j4) hat98 (fun k_ hk_ => (e324 k_ (by rw [hk_]; exact (ne_pm bj4.2))).trans hk_); replace E : Ev (fun x => (x = j4 ∨ x = j5) ∨ m ≤ x) c0 w0 c323 w319 := Ev.lent EL113 B0 (by show (j5 = j4 ∨ j5 = j5); omega) (by omega) e106 e107 E e324 e326 (by omega); replace B : CB (m + 5) c323 w319 := B.recol (fun b_ => (e325 b_).imp id (fun q_ => by rw [q_]; exact (Nat.lt_add_right _ bj5.2.1))); exact J364 c323 w319 a ad97 ob94 cs99 t138 cs322 rfl (F.sub ⟨rfl, rfl, trivial⟩) E B hat98 h100 h102 H
 refine o_val F rfl rfl rfl (by decide) (r_fieldAddr F rfl ff_75_2) fun a F => ?_; refine ⟨fun _ => ER.sb, ?_⟩; refine d_e ?_; obtain ⟨t117, q118, H⟩ := bind_some H; refine oc F Try.func41 (merkle_own.calls (m := m + 5) (pl hm0) B h9 h12 _ q118) ?_; rintro e w328 ⟨c327, A331, C332, A334, C335, rfl, E329, B, h333, h336⟩; refine rt fun a F => ?_; replace ER := ER.trans E329 nx; replace h100 := h100.ev E329; replace h102 := h102.ev E329; replace hat98 := hat98.ev E329; replace h110 := h110.ev E329
 as_aux_lemma =>
 replace h111 := h111.ev E329; replace E := E.n E329; refine ⟨fun _ => ER.sb, ?_⟩; refine d_e ?_; refine o_eff F rfl rfl rfl (by decide) (e_buildSliceF (n := 1) (e := 36) (c := c327) (k := K_api_Row) (i := 0) F [(0, .agg #[.slice A331 t117.Key.length C332, .slice A334 t117.Value.length C335, .int .i64 t117.Rev])] [.slice A331 t117.Key.length C332, .slice A334 t117.Value.length C335, .int .i64 t117.Rev] ([t117] : List api_Row) (by exact ⟨rfl, rfl, trivial⟩) (fun w => by kernel_rfl) rfl (by decide) rfl ⟨⟨A331, C332, A334, C335, rfl, (SL.fl h333 (fun q => q)), (SL.fl h336 (fun q => q))⟩, trivial⟩ (fun q => q) (m + 4)) ?_; rintro v w340 a ⟨c339, A341, C342, rfl, E343, h344, B345, hf338⟩ F; replace B := B345 _ B lm; replace ER := ER.trans E343 nx; replace h100 := h100.ev E343; replace h102 := h102.ev E343; replace hat98 := hat98.ev E343; replace h110 := h110.ev E343; replace h111 := h111.ev E343; replace E := E.n E343; refine ⟨fun _ => ER.sb, ?_⟩; refine d_e ?_; obtain ⟨t138, q139, H⟩ := bind_some H; refine oc F Try.func56 (slices_Insert.calls (m := m + 5) (pl hm0) B h111 h344.r hf338 (by omega) (by omega) _ q139) ?_; rintro e w347 ⟨c346, A350, C351, rfl, E348, B, h352⟩; refine rt fun a F => ?_; replace ER := ER.trans E348 (fun x q => by replace q : x = m + 3 := q; show x = m + 3; omega); replace h100 := h100.ev E348
 as_aux_lemma =>
 replace h102 := h102.ev E348 (ne_pm bj5.2.1) ne_zm; replace hat98 := hat98.ev E348 (ne_pm bj4.2); replace h110 := h110.ev E348 (ne_pm bj4.2); replace E := E.trans E348 lc1; refine ⟨fun _ => ER.sb, ?_⟩; refine dq F (fun wq hS => r_indexArr3 F ua_73 sz_27 rfl rfl g104.1 (by have g_ := g104.2; omega) hat98 qqa112) ER.sb fun a F => ?_; refine d_e ?_; refine o_eff0 F rfl rfl rfl (e_storearH F rfl rfl sz_27 (AT.eqv (ds := (([.int .i64 ob94.bits] : List Value) ++ (cs99 ++ (([] : List Value)))) ++ (cs101 ++ (([.int .i64 ob94.many] : List Value)))) hat98 (by simp only [List.append_assoc])) (by have l0_ : cs99.length = 512 := (h100.1 : cs99.length = 512); simp only [List.length_append, List.length_cons, List.length_nil] <;> omega) h102 (m := t25.1.toNat) (by have g_ := g104; omega) qqa112 rfl bj5.2.2 bj4.1) ?_; rintro w354 a ⟨cs357, E355, hat98, h102, h110, Z356⟩ F; replace B := B.size Z356; replace h100 := h100.ev E355 (ne_z bj4.1); replace h352 := h352.ev E355 (ne_mp bj4.2) (ne_z bj4.1); replace E := E.trans E355 (fun x (q : x = j4) => Or.inl (Or.inl q)); replace hat98 : AT true j4 c346 w354 ad97 (([.int .i64 ob94.bits] : List Value) ++ (cs99 ++ (([] : List Value) ++ (cs357 ++ (([.int .i64 ob94.many] : List Value)))))) := AT.eqv hat98 (by simp only [List.append_assoc]); refine ⟨fun q => absurd rfl q, ?_⟩; refine d_nil ?_; obtain ⟨c358, e359, e360, e361, h102⟩ := ARO.back3 (off := 513) (z := m + 3) (k := t25.1) (AT.eqv (ds := (([.int .i64 ob94.bits] : List Value) ++ (cs99 ++ (([] : List Value)))) ++ (cs357 ++ (([.int .i64 ob94.many] : List Value)))) hat98 (by simp only [List.append_assoc])) (by have l0_ : cs99.length = 512 := (h100.1 : cs99.length = 512); simp only [List.length_append, List.length_cons, List.length_nil] <;> omega) h102 g104.1 (by have g_ := g104.2; omega) (by rw [← qqa112]; exact h110) h352 ⟨(ne_mp bj5.2.1), (pl hm0)⟩ bj5.1; replace h100 := AR.rc (c' := c358) (i' := 0) h100 (fun k_ hk_ => (e359 k_ (by rw [hk_]; exact ne_zm)).trans hk_); replace hat98 := AT.rc (c' := c358) (j' := j4) hat98 (fun k_ hk_ => (e359 k_ (by rw [hk_]; exact (ne_pm bj4.2))).trans hk_); replace E : Ev (fun x => (x = j4 ∨ x = j5) ∨ m ≤ x) c0 w0 c358 w354 := Ev.lent EL113 B0 (by show (j5 = j4 ∨ j5 = j5); omega) (by omega) e106 e107 E e359 e361 (by omega); replace B : CB (m + 5) c358 w354 := B.recol (fun b_ => (e360 b_).imp id (fun q_ => by rw [q_]; exact (Nat.lt_add_right _ bj5.2.1))); exact J364 c358 w354 a ad97 ob94 cs99 t138 cs357 rfl (F.sub ⟨rfl, rfl, trivial⟩) E B hat98 h100 h102 H
theorem haulagelaw10_grown.calls (k : Nat) {m : Nat} {c0 : Nat → Nat} {w0 : World} {j5 : Nat} {A2 : Option Addr} {C3 : Nat} {a1 : List haulagelaw10_Change} {a6 : Int} (hm0 : 0 < m) (B0 : CB m c0 w0) (h4 : SL false K_haulagelaw10_Change j5 0 c0 w0 A2 C3 a1) (bj5 : j5 < m) (jr407 : Nat) (bjr407 : 0 < jr407 ∧ jr407 < m) (jr408 : Nat) (bjr408 : 0 < jr408 ∧ jr408 < m) (jr409 : Nat) (bjr409 : jr409 < m) (r : (Option Mer) × (List api_Row)) (H : haulagelaw10_grown.f k a1 a6 = some r) : Calls Try.prog 9 #[.slice A2 a1.length C3, .int .i64 a6] w0 (fun e w_ => ∃ (c_ : Nat → Nat) (P0_ : Option Addr) (A1_ : Option Addr) (C1_ : Nat), e = .returned (.tuple #[.pointer P0_, .slice A1_ r.2.length C1_]) ∧ Ev (fun x => False) c0 w0 c_ w_ ∧ CB m c_ w_ ∧ ME jr407 jr408 c_ w_ P0_ r.1 ∧ SL true K_api_Row jr409 0 c_ w_ A1_ C1_ r.2) := by
 unfold haulagelaw10_grown.f at H; have B := B0.mono (show m ≤ m + 8 by omega); have E : Ev (fun x => False ∨ m ≤ x) c0 w0 c0 w0 := Ev.refl; refine enter (N := 84) (l := [.slice A2 a1.length C3, .int .i64 a6]) Try.func9 rfl rfl (nb rfl) fun a F => ?_; refine sr fun K7 hK7 => qa F fun a F => qa F fun a F => nil (hK7 _ _ ?_); refine sr fun K8 hK8 => qm F fun a F => ?_; obtain ⟨t9, q10, H⟩ := bind_some H; refine qc F Try.func17 (merkle_New.calls k (m := m + 8) (pl hm0) B SL.nil (m + 1) ⟨(pl hm0), lm⟩ (m + 2) ⟨(pl hm0), lm⟩ _ q10) ?_; rintro e w12 ⟨c11, p15, rfl, E13, B, h16⟩; refine rt fun a F => ?_; replace h4 := h4.ev E13; replace E := E.n E13; refine qm F fun a F => ?_; refine qx F fun a F => ?_; refine qx F fun a F => ?_; refine qa F fun a F => qa F fun a F => nil (hK8 _ _ ?_); replace F : Fr a 84 [(0, .slice A2 a1.length C3), (6, .pointer p15), (7, .int .i64 t9.2)] := F.sub ⟨rfl, rfl, rfl, trivial⟩; refine sq fun K18 hK18 => ?_; refine sq fun K19 hK19 => ?_; have J22 : ∀ (c23 : Nat → Nat) (w24 : World) (a : Act) (b21 : Bool), Fr a 84 [(0, .slice A2 a1.length C3), (6, .pointer p15), (23, .bool b21)] → Ev (fun x => False ∨ m ≤ x) c0 w0 c23 w24 → CB (m + 8) c23 w24 → SL false K_haulagelaw10_Change j5 0 c23 w24 A2 C3 a1 → ME (m + 1) (m + 2) c23 w24 p15 t9.1 → haulagelaw10_grown.j1 k a1 t9 b21 = some r → K19 a w24 := by
  intro c23 w24 a b21 F E B h4 h16 H; unfold haulagelaw10_grown.j1 at H
  as_aux_lemma =>
  refine hK19 _ _ ?_
  by_cases hb25 : b21 = true
  ·replace H := ip hb25 H; refine wct (fb F hb25) ?_; refine sr fun K26 hK26 => qa F fun a F => qa F fun a F => nil (hK26 _ _ ?_); refine wp_ret ?_; refine thenR ?_; obtain rfl := si H; refine out2 F rfl rfl rfl ?_; exact ⟨cf (fun x_ => if x_ = m + 1 then jr407 else if x_ = m + 2 then jr408 else if x_ = m + 6 then jr409 else if x_ < m then x_ else 0) c23, none, none, 0, rfl, E.lv B0, cfb, ME.nil, SL.nil⟩
  replace H := im hb25 H; refine wcf (fb F (bfalse hb25)) (wp_skip (hK18 _ _ ?_)); refine sr fun K27 hK27 => qa F fun a F => nil (hK27 _ _ ?_); refine sq fun K28 hK28 => ?_; refine sr fun K29 hK29 => qa F fun a F => nil (hK29 _ _ ?_); refine wp_block ?_; obtain ⟨x163, HL, HR162⟩ := bind_some H; have J403 : ∀ (c404 : Nat → Nat) (w405 : World) (a : Act) (o398 : Option Mer) (l400 : List api_Row) (A401 : Option Addr) (C402 : Nat), Fr a 84 [(6, .pointer p15), (8, .slice A401 l400.length C402)] → Ev (fun x => False ∨ m ≤ x) c0 w0 c404 w405 → CB (m + 8) c404 w405 → ME (m + 1) (m + 2) c404 w405 p15 o398 → SL true K_api_Row (m + 6) 0 c404 w405 A401 C402 l400 → haulagelaw10_grown.j7 o398 l400 = some r → K28 a w405 := by
   intro c404 w405 a o398 l400 A401 C402 F E B h397 h399 H; unfold haulagelaw10_grown.j7 at H; refine hK28 _ _ ?_; refine sr fun K406 hK406 => qm F fun a F => qm F fun a F => qa F fun a F => qa F fun a F => nil (hK406 _ _ ?_); refine wp_ret ?_; obtain rfl := si H
   as_aux_lemma =>
   refine out2 F rfl rfl rfl ?_; exact ⟨cf (fun x_ => if x_ = m + 1 then jr407 else if x_ = m + 2 then jr408 else if x_ = m + 6 then jr409 else if x_ < m then x_ else 0) c404, p15, A401, C402, rfl, E.lv B0, cfb, ME.rc h397 cfk cfk cfk (by omega), SL.rc h399 cfk cfk⟩
  refine loop_fuel (I := fun n a w => ∃ (o148 : Option Mer) (l149 : List api_Row) (A150 : Option Addr) (C151 : Nat) (i153 : Int) (c : Nat → Nat), Fr a 84 [(0, .slice A2 a1.length C3), (6, .pointer p15), (8, .slice A150 l149.length C151), (9, .int .i64 i153)] ∧ Ev (fun x => False ∨ m ≤ x) c0 w0 c w ∧ CB (m + 8) c w ∧ SL false K_haulagelaw10_Change j5 0 c w A2 C3 a1 ∧ ME (m + 1) (m + 2) c w p15 o148 ∧ SL true K_api_Row (m + 6) 0 c w A150 C151 l149 ∧ loop (fun (s_ : (Option Mer) × (List api_Row) × Int) => haulagelaw10_grown.b6 k a1 s_.1 s_.2.1 s_.2.2) n (o148, l149, i153) = some x163) (k := k) ⟨t9.1, [], none, 0, 0, c23, F.sub ⟨rfl, rfl, rfl, rfl, trivial⟩, E, B, h4, h16, SL.nil, HL⟩ ?_; clear HL H E F B; intro n160 X156 hX156 a w155 ⟨o148, l149, A150, C151, i153, c154, F, E, B, h4, h147, h152, HL⟩; obtain ⟨n161, ctl159, rfl, HB, HN157, HD158⟩ := loop_some HL; have H : haulagelaw10_grown.b6 k a1 o148 l149 i153 = some ctl159 := HB; clear HB HL; unfold haulagelaw10_grown.b6 at H; refine sq fun K164 hK164 => ?_; refine sr fun K165 hK165 => qm F fun a F => qm F fun a F => ?_; refine qv F (r_lensl F Try.underlying22 rfl) fun a F => ?_; refine qv F (r_lss F rfl rfl) fun a F => ?_; refine nil (hK165 _ _ ?_)
  by_cases hb166 : i153 < (a1.length : Int)
  ·replace H := ip hb166 H; refine wct (fb F (dt hb166)) (wp_skip (hK164 _ _ ?_)); refine sq fun K167 hK167 => ?_; refine wp_block ?_; refine sr fun K168 hK168 => qm F fun a F => qm F fun a F => ?_; replace H := ifN H; obtain ⟨g169, H⟩ := H; obtain ⟨ad170, cs171, e172, h173, r174⟩ := SL.at h4 i153 g169.1 g169.2; obtain ⟨A175, C176, A178, C179, rfl, h177, h180⟩ := r174
   as_aux_lemma =>
   replace h177 := SL.fl (i' := 0) h177 (fun q => q); replace h180 := SL.fl (i' := 0) h180 (fun q => q); obtain ⟨qa181, qqa181⟩ : ∃ q, q = (ad170.add (i153.toNat * 4)) := ⟨_, rfl⟩; have h173 : AT false j5 c154 w155 qa181 [.slice A175 (((rd a1 i153).Row).Key).length C176, .slice A178 (((rd a1 i153).Row).Value).length C179, .int .i64 (((rd a1 i153).Row).Rev), .bool ((rd a1 i153).Goes)] := by rw [qqa181]; exact h173
   refine qv F (r_indexAddr' F Try.underlying22 sz_69 rfl rfl g169.1 g169.2 e172 qqa181) fun a F => ?_; refine qv F (r_loads (cs := [.slice A175 (((rd a1 i153).Row).Key).length C176, .slice A178 (((rd a1 i153).Row).Value).length C179, .int .i64 (((rd a1 i153).Row).Rev), .bool ((rd a1 i153).Goes)]) F rfl ag_69 sz_69 h173) fun a F => ?_; refine q_eff F rfl rfl (by decide) (e_alloc F zv_69 c154 (m + 3)) ?_; rintro v w184 a ⟨c183, qa62, rfl, E185, h64, B186⟩ F; replace B := B186 _ B lm; replace h4 := h4.ev E185; replace h147 := h147.ev E185; replace h152 := h152.ev E185; replace h177 := h177.ev E185; replace h180 := h180.ev E185; replace E := E.n E185; replace h64 : AT _ _ _ _ _ [.slice none 0 0, .slice none 0 0, .int .i64 0, .bool false] := h64; refine q_eff0 F rfl rfl (e_storeN0 (us := [.slice A175 (((rd a1 i153).Row).Key).length C176, .slice A178 (((rd a1 i153).Row).Value).length C179, .int .i64 (((rd a1 i153).Row).Rev), .bool ((rd a1 i153).Goes)]) F rfl rfl sz_69 h64 (nb rfl) (one_all rfl)) ?_; rintro w187 a ⟨E188, h64, Z189⟩ F; replace B := B.size Z189; replace h4 := h4.ev E188 (ne_pm bj5) ne_zm; replace h147 := h147.ev E188; replace h152 := h152.ev E188
   as_aux_lemma =>
   replace h177 := h177.ev E188; replace h180 := h180.ev E188; replace E := E.trans E188 lc1; replace h64 : AT _ _ _ _ _ [.slice A175 (((rd a1 i153).Row).Key).length C176, .slice A178 (((rd a1 i153).Row).Value).length C179, .int .i64 (((rd a1 i153).Row).Rev), .bool ((rd a1 i153).Goes)] := h64; refine nil (hK168 _ _ ?_); replace F : Fr a 84 [(0, .slice A2 a1.length C3), (6, .pointer p15), (8, .slice A150 l149.length C151), (9, .int .i64 i153), (10, .pointer (some qa62))] := F.sub ⟨rfl, rfl, rfl, rfl, rfl, trivial⟩; refine sq fun K190 hK190 => ?_; refine sr fun K191 hK191 => qf F ff_69_1 fun a F => ?_; refine ql F ag_4 h64 fun a F => ?_; refine qv F (r_not F rfl) fun a F => ?_; refine nil (hK191 _ _ ?_)
   by_cases hb192 : ((rd a1 i153).Goes) = true
   ·replace H := ip hb192 H; refine wcf (fb F (congrArg not hb192)) (wp_skip (hK190 _ _ ?_)); refine sr fun K224 hK224 => qa F fun a F => nil (hK224 _ _ ?_); refine sq fun K225 hK225 => ?_; refine sr fun K226 hK226 => qa F fun a F => nil (hK226 _ _ ?_); refine wp_block ?_; obtain ⟨x310, HL, HR309⟩ := bind_some H; have J375 : ∀ (c376 : Nat → Nat) (w377 : World) (a : Act) (l372 : List api_Row) (A373 : Option Addr) (C374 : Nat), Fr a 84 [(0, .slice A2 a1.length C3), (6, .pointer p15), (8, .slice A150 l149.length C151), (9, .int .i64 i153), (10, .pointer (some qa62)), (11, .slice A373 l372.length C374)] → Ev (fun x => False ∨ m ≤ x) c0 w0 c376 w377 → CB (m + 8) c376 w377 → AT true (m + 3) c376 w377 qa62 [.slice A175 (((rd a1 i153).Row).Key).length C176, .slice A178 (((rd a1 i153).Row).Value).length C179, .int .i64 (((rd a1 i153).Row).Rev), .bool ((rd a1 i153).Goes)] → SL false K_haulagelaw10_Change j5 0 c376 w377 A2 C3 a1 → ME (m + 1) (m + 2) c376 w377 p15 o148 → SL false (Kint .u8) 0 0 c376 w377 A175 C176 (((rd a1 i153).Row).Key) → SL true K_api_Row (m + 7) 0 c376 w377 A373 C374 l372 → haulagelaw10_grown.j5 k a1 o148 l149 i153 l372 = some ctl159 → K225 a w377 := by
     intro c376 w377 a l372 A373 C374 F E B h64 h4 h147 h177 h371 H; unfold haulagelaw10_grown.j5 at H; refine hK225 _ _ ?_
     as_aux_lemma =>
     refine sq fun K378 hK378 => ?_; refine sr fun K379 hK379 => qm F fun a F => qf F ff_69_0 fun a F => ?_; refine qv F (r_fieldAddr2 F h64 rfl ff_36_0) fun a F => ?_; refine ql F ag_23 h64 fun a F => ?_; obtain ⟨t136, q137, H⟩ := bind_some H; refine qc F Try.func31 (merkle_Tree_Delete.calls k (m := m + 8) (pl hm0) B h147 h177 ⟨(pl hm0), lm⟩ ⟨(pl hm0), lm, mm⟩ _ q137) ?_; rintro e w381 ⟨c380, rfl, E382, B, h384⟩; refine rt fun a F => ?_; replace h4 := h4.ev E382 (nor (ne_pm bj5) (ne_pm bj5)) (nor ne_zm ne_zm); replace h371 := h371.ev E382 (nor mm mm) (nor ne_zm ne_zm); replace E := E.trans E382 lc2; refine qm F fun a F => ?_; refine qv F (r_lensl F Try.underlying27 rfl) fun a F => ?_; refine qm F fun a F => ?_; refine qv F (r_lensl F Try.underlying27 rfl) fun a F => ?_; refine qv F (r_lss F rfl rfl) fun a F => ?_; refine qv F (r_bneq F Try.underlying4 rfl rfl) fun a F => ?_; refine nil (hK379 _ _ ?_); replace F : Fr a 84 [(0, .slice A2 a1.length C3), (6, .pointer p15), (9, .int .i64 i153), (11, .slice A373 l372.length C374), (80, .bool (!(t136.1 == (decide ((l372.length : Int) < (l149.length : Int))))))] := F.sub ⟨rfl, rfl, rfl, rfl, rfl, trivial⟩
     by_cases hb386 : (t136.1 == (decide ((l372.length : Int) < (l149.length : Int)))) = true
     ·replace H := ip hb386 H; refine wcf (fb F (congrArg not hb386)) (wp_skip (hK378 _ _ ?_)); refine reg ?_
      as_aux_lemma =>
      refine qm F fun a F => qa F fun a F => ?_; obtain ⟨c388, hc388⟩ : ∃ c', c' = fun k => if c380 k = m + 7 then m + 6 else c380 k := ⟨_, rfl⟩; replace h4 := SL.rc (c' := c388) (j' := j5) (i' := 0) h4 (fun k_ hk_ => by rw [hc388]; show (if c380 k_ = m + 7 then m + 6 else c380 k_) = j5; rw [hk_]; exact if_neg (ne_pm bj5)) (fun k_ hk_ => by rw [hc388]; show (if c380 k_ = m + 7 then m + 6 else c380 k_) = 0; rw [hk_]; exact if_neg ne_zm); replace h371 := SL.rc (c' := c388) (j' := m + 6) (i' := 0) h371 (fun k_ hk_ => by rw [hc388]; show (if c380 k_ = m + 7 then m + 6 else c380 k_) = (m + 6); rw [hk_]; exact if_pos rfl) (fun k_ hk_ => by rw [hc388]; show (if c380 k_ = m + 7 then m + 6 else c380 k_) = 0; rw [hk_]; exact if_neg ne_zm); replace h384 := ME.rc (c' := c388) (j' := m + 1) (i' := m + 2) h384 (fun k_ hk_ => by rw [hc388]; show (if c380 k_ = m + 7 then m + 6 else c380 k_) = (m + 1); rw [hk_]; exact if_neg mm) (fun k_ hk_ => by rw [hc388]; show (if c380 k_ = m + 7 then m + 6 else c380 k_) = (m + 2); rw [hk_]; exact if_neg mm) (fun k_ hk_ => by rw [hc388]; show (if c380 k_ = m + 7 then m + 6 else c380 k_) = 0; rw [hk_]; exact if_neg ne_zm) (pl hm0); replace E : Ev (fun x => False ∨ m ≤ x) c0 w0 c388 w381 := E.recol B0 (fun b_ hb_ => by rw [hc388]; exact if_neg (by omega)); replace B : CB (m + 8) c388 w381 := B.recol (fun b_ => by rw [hc388]; show (if c380 b_ = m + 7 then m + 6 else c380 b_) = c380 b_ ∨ (if c380 b_ = m + 7 then m + 6 else c380 b_) < m + 8; split <;> first | exact Or.inr lm | exact Or.inl rfl); refine nil (hK167 _ _ ?_); refine reg ?_; refine qm F fun a F => ?_; refine qv F (r_add F rfl rfl) fun a F => ?_; refine qa F fun a F => nil ?_; replace H := HN157 _ (si H).symm; exact hX156 _ _ _ (Nat.lt_succ_self _) ⟨t136.2, l372, A373, C374, (IntKind.i64.wrap (i153 + 1)), c388, F.sub ⟨rfl, rfl, rfl, rfl, trivial⟩, E, B, h4, h384, h371, H⟩
     replace H := im hb386 H; refine wct (fb F (congrArg not (bfalse hb386))) ?_; refine sr fun K387 hK387 => qa F fun a F => qa F fun a F => nil (hK387 _ _ ?_); refine wp_ret ?_; refine thenR ?_; refine inbR ?_; refine thenR ?_; refine thenR ?_
     as_aux_lemma =>
     refine inbR ?_; refine thenR ?_; have hx_ := HD158 _ (si H).symm; have H := HR162; rw [← hx_] at H; replace H : some (none, []) = some r := H; obtain rfl := si H; refine out2 F rfl rfl rfl ?_; exact ⟨cf (fun x_ => if x_ = m + 1 then jr407 else if x_ = m + 2 then jr408 else if x_ = m + 6 then jr409 else if x_ < m then x_ else 0) c380, none, none, 0, rfl, E.lv B0, cfb, ME.nil, SL.nil⟩
    refine loop_fuel (I := fun n a w => ∃ (l296 : List api_Row) (A297 : Option Addr) (C298 : Nat) (i300 : Int) (c : Nat → Nat), Fr a 84 [(0, .slice A2 a1.length C3), (6, .pointer p15), (8, .slice A150 l149.length C151), (9, .int .i64 i153), (10, .pointer (some qa62)), (11, .slice A297 l296.length C298), (12, .int .i64 i300)] ∧ Ev (fun x => False ∨ m ≤ x) c0 w0 c w ∧ CB (m + 8) c w ∧ AT true (m + 3) c w qa62 [.slice A175 (((rd a1 i153).Row).Key).length C176, .slice A178 (((rd a1 i153).Row).Value).length C179, .int .i64 (((rd a1 i153).Row).Rev), .bool ((rd a1 i153).Goes)] ∧ SL false K_haulagelaw10_Change j5 0 c w A2 C3 a1 ∧ ME (m + 1) (m + 2) c w p15 o148 ∧ SL true K_api_Row (m + 6) 0 c w A150 C151 l149 ∧ SL false (Kint .u8) 0 0 c w A175 C176 (((rd a1 i153).Row).Key) ∧ SL false (Kint .u8) 0 0 c w A178 C179 (((rd a1 i153).Row).Value) ∧ SL true K_api_Row (m + 7) 0 c w A297 C298 l296 ∧ loop (fun (s_ : (List api_Row) × Int) => haulagelaw10_grown.b4 k a1 l149 i153 s_.1 s_.2) n (l296, i300) = some x310) (k := k) ⟨[], none, 0, 0, c183, F.sub ⟨rfl, rfl, rfl, rfl, rfl, rfl, rfl, trivial⟩, E, B, h64, h4, h147, h152, h177, h180, SL.nil, HL⟩ ?_; clear HL H E F B; intro n307 X303 hX303 a w302 ⟨l296, A297, C298, i300, c301, F, E, B, h64, h4, h147, h152, h177, h180, h299, HL⟩; obtain ⟨n308, ctl306, rfl, HB, HN304, HD305⟩ := loop_some HL; have H : haulagelaw10_grown.b4 k a1 l149 i153 l296 i300 = some ctl306 := HB; clear HB HL; unfold haulagelaw10_grown.b4 at H; refine sq fun K311 hK311 => ?_; refine sr fun K312 hK312 => qm F fun a F => qm F fun a F => ?_; refine qv F (r_lensl F Try.underlying27 rfl) fun a F => ?_; refine qv F (r_lss F rfl rfl) fun a F => ?_; refine nil (hK312 _ _ ?_)
    by_cases hb313 : i300 < (l149.length : Int)
    ·replace H := ip hb313 H
     as_aux_lemma =>
     refine wct (fb F (dt hb313)) (wp_skip (hK311 _ _ ?_)); refine sq fun K314 hK314 => ?_; refine wp_block ?_; refine sq fun K315 hK315 => ?_; refine regD (SB No c301 w302) 10 (.q 0 (.q 1 (.q 2 (.q 3 (.q 4 (.q 5 (.q 6 (.q 7 (.e 8 (.q 9 .nil)))))))))) Try_hm (by decide +kernel) ?_; intro w316 w1_ w2_ w3_ w4_; have E317 : Ev No c301 w302 c301 w316 := Ev.same w1_ w2_ w3_ w4_; replace B := B.same w1_; have zh64 := h64; have zh152 := h152; have ER : Ev No c301 w302 c301 w316 := Ev.same w1_ w2_ w3_ w4_; replace h64 := h64.ev E317; replace h4 := h4.ev E317; replace h147 := h147.ev E317; replace h152 := h152.ev E317; replace h177 := h177.ev E317; replace h180 := h180.ev E317; replace h299 := h299.ev E317; replace E := E.n E317; refine dm F ER.sb fun a F => ?_; refine dm F ER.sb fun a F => ?_; replace H := ifN H; obtain ⟨g318, H⟩ := H; obtain ⟨ad319, cs320, e321, h322, r323⟩ := SL.at zh152 i300 g318.1 g318.2; obtain ⟨A324, C325, A327, C328, rfl, h326, h329⟩ := r323
     as_aux_lemma =>
     replace h326 := SL.fl (i' := 0) h326 (fun q => q); obtain ⟨qa330, qqa330⟩ : ∃ q, q = (ad319.add (i300.toNat * 3)) := ⟨_, rfl⟩; have h322 : AT true (m + 6) c301 w302 qa330 [.slice A324 ((rd l149 i300).Key).length C325, .slice A327 ((rd l149 i300).Value).length C328, .int .i64 ((rd l149 i300).Rev)] := by rw [qqa330]; exact h322
     replace h326 := h326.ev ER nq nq; have zh322 := h322; refine dq F (fun wq hS => r_indexAddr' F Try.underlying27 sz_36 rfl rfl g318.1 g318.2 e321 qqa330) ER.sb fun a F => ?_; refine df F ff_36_0 ER.sb fun a F => ?_; refine dl F ag_23 zh322 nq ER.sb fun a F => ?_; refine df F ff_69_0 ER.sb fun a F => ?_; refine dq F (fun wq hS => r_fieldAddr2 F h64 rfl ff_36_0) ER.sb fun a F => ?_; refine dl F ag_23 zh64 nq ER.sb fun a F => ?_; refine d_e ?_; obtain ⟨t259, q260, H⟩ := bind_some H; refine oc F Try.func15 (haulagelaw10_same.calls k (m := m + 8) (pl hm0) B h326 h177 _ q260) ?_; rintro e w333 ⟨c332, rfl, E334, B⟩; refine rt fun a F => ?_; replace ER := ER.trans E334 nx; replace h64 := h64.ev E334; replace h4 := h4.ev E334; replace h147 := h147.ev E334; replace h152 := h152.ev E334; replace h177 := h177.ev E334
     as_aux_lemma =>
     replace h180 := h180.ev E334; replace h299 := h299.ev E334; replace E := E.n E334; refine ⟨fun _ => ER.sb, ?_⟩; refine dq F (fun wq hS => r_not F rfl) ER.sb fun a F => ?_; refine d_nil ?_; refine hK315 _ _ ?_; replace F : Fr a 84 [(0, .slice A2 a1.length C3), (6, .pointer p15), (8, .slice A150 l149.length C151), (9, .int .i64 i153), (10, .pointer (some qa62)), (11, .slice A297 l296.length C298), (12, .int .i64 i300), (62, .bool (!t259))] := F.sub ⟨rfl, rfl, rfl, rfl, rfl, rfl, rfl, rfl, trivial⟩
     by_cases hb337 : t259 = true
     ·replace H := ip hb337 H; refine wcf (fb F (congrArg not hb337)) (wp_skip (hK314 _ _ ?_)); refine reg ?_; refine qm F fun a F => ?_; refine qv F (r_add F rfl rfl) fun a F => ?_; refine qa F fun a F => nil ?_; replace H := HN304 _ (si H).symm; exact hX303 _ _ _ (Nat.lt_succ_self _) ⟨l296, A297, C298, (IntKind.i64.wrap (i300 + 1)), c332, F.sub ⟨rfl, rfl, rfl, rfl, rfl, rfl, rfl, trivial⟩, E, B, h64, h4, h147, h152, h177, h180, h299, H⟩
     replace H := im hb337 H; refine wct (fb F (congrArg not (bfalse hb337))) ?_; refine reg ?_; refine qm F fun a F => qm F fun a F => qm F fun a F => ?_; replace H := ifN H; obtain ⟨g338, H⟩ := H; obtain ⟨ad339, cs340, e341, h342, r343⟩ := SL.at h152 i300 g338.1 g338.2; obtain ⟨A344, C345, A347, C348, rfl, h346, h349⟩ := r343
     as_aux_lemma =>
     replace h346 := SL.fl (i' := 0) h346 (fun q => q); replace h349 := SL.fl (i' := 0) h349 (fun q => q); obtain ⟨qa350, qqa350⟩ : ∃ q, q = (ad339.add (i300.toNat * 3)) := ⟨_, rfl⟩; have h342 : AT true (m + 6) c332 w333 qa350 [.slice A344 ((rd l149 i300).Key).length C345, .slice A347 ((rd l149 i300).Value).length C348, .int .i64 ((rd l149 i300).Rev)] := by rw [qqa350]; exact h342
     refine qv F (r_indexAddr' F Try.underlying27 sz_36 rfl rfl g338.1 g338.2 e341 qqa350) fun a F => ?_; refine qv F (r_loads (cs := [.slice A344 ((rd l149 i300).Key).length C345, .slice A347 ((rd l149 i300).Value).length C348, .int .i64 ((rd l149 i300).Rev)]) F rfl ag_36 sz_36 h342) fun a F => ?_; refine q_eff F rfl rfl (by decide) (e_buildSlice (n := 1) (e := 36) (c := c332) (k := K_api_Row) (i := 0) F [(0, .agg #[.slice A344 ((rd l149 i300).Key).length C345, .slice A347 ((rd l149 i300).Value).length C348, .int .i64 ((rd l149 i300).Rev)])] [.slice A344 ((rd l149 i300).Key).length C345, .slice A347 ((rd l149 i300).Value).length C348, .int .i64 ((rd l149 i300).Rev)] ([(rd l149 i300)] : List api_Row) (by exact ⟨rfl, rfl, trivial⟩) (fun w => by kernel_rfl) rfl (by decide) rfl ⟨⟨A344, C345, A347, C348, rfl, (SL.fl h346 (fun q => q)), (SL.fl h349 (fun q => q))⟩, trivial⟩ (fun q => q) 0) ?_; rintro v w353 a ⟨c352, A354, C355, rfl, E356, h357, B358⟩ F; replace B := B358 _ B (pl hm0); replace h64 := h64.ev E356; replace h4 := h4.ev E356; replace h147 := h147.ev E356; replace h152 := h152.ev E356; replace h177 := h177.ev E356; replace h180 := h180.ev E356; replace h299 := h299.ev E356; replace E := E.n E356; replace H := ifN H; obtain ⟨g288, H⟩ := H; refine q_eff F rfl rfl (by decide) (e_append (k := K_api_Row) (xs := l296) (ys := [(rd l149 i300)]) (c := c352) (j := (m + 7)) (i := 0) F et_27 rfl rfl h299 h357 g288 (len_ok g288) ne_zm) ?_; rintro v w360 a ⟨c359, A361, C362, rfl, E363, h364, B365⟩ F; replace B := B365 _ B lm
     as_aux_lemma =>
     replace h64 := h64.ev E363; replace h4 := h4.ev E363 (ne_pm bj5) ne_zm; replace h147 := h147.ev E363; replace h152 := h152.ev E363; replace h177 := h177.ev E363; replace h180 := h180.ev E363; replace E := E.trans E363 lc1; refine qa F fun a F => nil (hK314 _ _ ?_); replace F : Fr a 84 [(0, .slice A2 a1.length C3), (6, .pointer p15), (8, .slice A150 l149.length C151), (9, .int .i64 i153), (10, .pointer (some qa62)), (11, .slice A361 (l296 ++ [(rd l149 i300)]).length C362), (12, .int .i64 i300)] := F.sub ⟨rfl, rfl, rfl, rfl, rfl, rfl, rfl, trivial⟩; refine reg ?_; refine qm F fun a F => ?_; refine qv F (r_add F rfl rfl) fun a F => ?_; refine qa F fun a F => nil ?_; replace H := HN304 _ (si H).symm; exact hX303 _ _ _ (Nat.lt_succ_self _) ⟨(l296 ++ [(rd l149 i300)]), A361, C362, (IntKind.i64.wrap (i300 + 1)), c359, F.sub ⟨rfl, rfl, rfl, rfl, rfl, rfl, rfl, trivial⟩, E, B, h64, h4, h147, h152, h177, h180, h364, H⟩
    replace H := im hb313 H; refine wcf (fb F (dz hb313)) ?_; refine wp_exit ?_; refine thenE ?_; refine thenE ?_; refine inbE ?_; have hx_ := HD305 _ (si H).symm; have H := HR309; rw [← hx_] at H; exact J375 c301 w302 a l296 A297 C298 (F.sub ⟨rfl, rfl, rfl, rfl, rfl, rfl, trivial⟩) E B h64 h4 h147 h177 h299 H
   as_aux_lemma =>
   replace H := im hb192 H; refine wct (fb F (congrArg not (bfalse hb192))) ?_; refine sr fun K193 hK193 => qm F fun a F => qf F ff_69_0 fun a F => ?_; refine qv F (r_loads (cs := [.slice A175 (((rd a1 i153).Row).Key).length C176, .slice A178 (((rd a1 i153).Row).Value).length C179, .int .i64 (((rd a1 i153).Row).Rev)]) F rfl ag_36 sz_36 (AT.sub h64 0 3 (nb rfl))) fun a F => ?_; obtain ⟨t74, q75, H⟩ := bind_some H; refine qc F Try.func30 (merkle_Tree_Put.calls k (m := m + 8) (pl hm0) B h147 h177 h180 ⟨(pl hm0), lm⟩ ⟨(pl hm0), lm, mm⟩ _ q75) ?_; rintro e w195 ⟨c194, rfl, E196, B, h198⟩; refine rt fun a F => ?_; replace h4 := h4.ev E196 (nor (ne_pm bj5) (ne_pm bj5)) (nor ne_zm ne_zm); replace h152 := h152.ev E196 (nor mm mm) (nor ne_zm ne_zm); replace h177 := h177.ev E196 (nor ne_zm ne_zm) (nor ne_zm ne_zm); replace h180 := h180.ev E196 (nor ne_zm ne_zm) (nor ne_zm ne_zm); replace h64 := h64.ev E196 (nor mm mm); replace E := E.trans E196 lc2; refine nil (hK193 _ _ ?_); refine sr fun K200 hK200 => qm F fun a F => qf F ff_69_0 fun a F => ?_; refine qv F (r_loads (cs := [.slice A175 (((rd a1 i153).Row).Key).length C176, .slice A178 (((rd a1 i153).Row).Value).length C179, .int .i64 (((rd a1 i153).Row).Rev)]) F rfl ag_36 sz_36 (AT.sub h64 0 3 (nb rfl))) fun a F => ?_; refine q_eff F rfl rfl (by decide) (e_buildSlice (n := 1) (e := 36) (c := c194) (k := K_api_Row) (i := 0) F [(0, .agg #[.slice A175 (((rd a1 i153).Row).Key).length C176, .slice A178 (((rd a1 i153).Row).Value).length C179, .int .i64 (((rd a1 i153).Row).Rev)])] [.slice A175 (((rd a1 i153).Row).Key).length C176, .slice A178 (((rd a1 i153).Row).Value).length C179, .int .i64 (((rd a1 i153).Row).Rev)] ([((rd a1 i153).Row)] : List api_Row) (by exact ⟨rfl, rfl, trivial⟩) (fun w => by kernel_rfl) rfl (by decide) rfl ⟨⟨A175, C176, A178, C179, rfl, (SL.fl h177 (fun q => q)), (SL.fl h180 (fun q => q))⟩, trivial⟩ (fun q => q) 0) ?_; rintro v w202 a ⟨c201, A203, C204, rfl, E205, h206, B207⟩ F; replace B := B207 _ B (pl hm0); replace h4 := h4.ev E205; replace h152 := h152.ev E205
   as_aux_lemma =>
   replace h198 := h198.ev E205; replace E := E.n E205; replace H := ifN H; obtain ⟨g90, H⟩ := H; refine q_eff F rfl rfl (by decide) (e_append (k := K_api_Row) (xs := l149) (ys := [((rd a1 i153).Row)]) (c := c201) (j := (m + 6)) (i := 0) F et_27 rfl rfl h152 h206 g90 (len_ok g90) ne_zm) ?_; rintro v w209 a ⟨c208, A210, C211, rfl, E212, h213, B214⟩ F; replace B := B214 _ B lm; replace h4 := h4.ev E212 (ne_pm bj5) ne_zm; replace h198 := h198.ev E212; replace E := E.trans E212 lc1; obtain ⟨t98, q99, H⟩ := bind_some H; refine qc F Try.func28 (haulagelaw10_sorted.calls k (m := m + 8) (pl hm0) B h213.r lm (m + 5) lm _ q99) ?_; rintro e w216 ⟨c215, A219, C220, rfl, E217, B, h221⟩; refine rt fun a F => ?_; replace h4 := h4.ev E217; replace h198 := h198.ev E217; replace E := E.n E217; refine qa F fun a F => ?_; obtain ⟨c223, hc223⟩ : ∃ c', c' = fun k => if c215 k = m + 5 then m + 6 else c215 k := ⟨_, rfl⟩; replace h4 := SL.rc (c' := c223) (j' := j5) (i' := 0) h4 (fun k_ hk_ => by rw [hc223]; show (if c215 k_ = m + 5 then m + 6 else c215 k_) = j5; rw [hk_]; exact if_neg (ne_pm bj5)) (fun k_ hk_ => by rw [hc223]; show (if c215 k_ = m + 5 then m + 6 else c215 k_) = 0; rw [hk_]; exact if_neg ne_zm); replace h198 := ME.rc (c' := c223) (j' := m + 1) (i' := m + 2) h198 (fun k_ hk_ => by rw [hc223]; show (if c215 k_ = m + 5 then m + 6 else c215 k_) = (m + 1); rw [hk_]; exact if_neg mm) (fun k_ hk_ => by rw [hc223]; show (if c215 k_ = m + 5 then m + 6 else c215 k_) = (m + 2); rw [hk_]; exact if_neg mm) (fun k_ hk_ => by rw [hc223]; show (if c215 k_ = m + 5 then m + 6 else c215 k_) = 0; rw [hk_]; exact if_neg ne_zm) (pl hm0); replace h221 := SL.rc (c' := c223) (j' := m + 6) (i' := 0) h221 (fun k_ hk_ => by rw [hc223]; show (if c215 k_ = m + 5 then m + 6 else c215 k_) = (m + 6); rw [hk_]; exact if_pos rfl) (fun k_ hk_ => by rw [hc223]; show (if c215 k_ = m + 5 then m + 6 else c215 k_) = 0; rw [hk_]; exact if_neg ne_zm)
   as_aux_lemma =>
   replace E : Ev (fun x => False ∨ m ≤ x) c0 w0 c223 w216 := E.recol B0 (fun b_ hb_ => by rw [hc223]; exact if_neg (by omega)); replace B : CB (m + 8) c223 w216 := B.recol (fun b_ => by rw [hc223]; show (if c215 b_ = m + 5 then m + 6 else c215 b_) = c215 b_ ∨ (if c215 b_ = m + 5 then m + 6 else c215 b_) < m + 8; split <;> first | exact Or.inr lm | exact Or.inl rfl); refine nil (hK200 _ _ ?_); replace F : Fr a 84 [(0, .slice A2 a1.length C3), (6, .pointer p15), (8, .slice A219 t98.length C220), (9, .int .i64 i153)] := F.sub ⟨rfl, rfl, rfl, rfl, trivial⟩; refine wp_exit ?_; refine thenE ?_; refine inbE ?_; refine hK167 _ _ ?_; refine reg ?_; refine qm F fun a F => ?_; refine qv F (r_add F rfl rfl) fun a F => ?_; refine qa F fun a F => nil ?_; replace H := HN157 _ (si H).symm; exact hX156 _ _ _ (Nat.lt_succ_self _) ⟨t74, t98, A219, C220, (IntKind.i64.wrap (i153 + 1)), c223, F.sub ⟨rfl, rfl, rfl, rfl, trivial⟩, E, B, h4, h198, h221, H⟩
  replace H := im hb166 H; refine wcf (fb F (dz hb166)) ?_; refine wp_exit ?_; refine thenE ?_; refine thenE ?_; refine inbE ?_; have hx_ := HD158 _ (si H).symm; have H := HR162; rw [← hx_] at H; exact J403 c154 w155 a o148 l149 A150 C151 (F.sub ⟨rfl, rfl, trivial⟩) E B h147 h152 H
 as_aux_lemma =>
 refine reg ?_; refine qm F fun a F => ?_; refine qv F (r_neq F rfl rfl) fun a F => ?_; refine qm F fun a F => ?_
 by_cases hb20 : t9.2 = 0
 ·replace H := ip hb20 H; refine qy F (congrArg not (dt hb20)) ?_; refine qm F fun a F => ?_; refine qy F (congrArg not (dt hb20)) ?_; refine qv F (r_peqlA F Try.underlying26 rfl rfl (ME.isNone h16)) fun a F => ?_; refine qv F (r_pick_f F rfl (congrArg not (dt hb20)) rfl) fun a F => ?_; refine nil ?_; exact J22 c11 w12 a (Option.isNone t9.1) (F.sub ⟨rfl, rfl, rfl, trivial⟩) E B h4 h16 H
 replace H := im hb20 H; refine qn F (congrArg not (dz hb20)) fun a F => qn F (congrArg not (dz hb20)) fun a F => ?_; refine qv F (r_pick_t F rfl (congrArg not (dz hb20)) rfl) fun a F => ?_; refine nil ?_; exact J22 c11 w12 a true (F.sub ⟨rfl, rfl, rfl, trivial⟩) E B h4 h16 H
theorem haulagelaw10_round.calls {m : Nat} {c0 : Nat → Nat} {w0 : World} {a1 : Int} {a2 : Int} (hm0 : 0 < m) (B0 : CB m c0 w0) (r : Int) (H : haulagelaw10_round.f a1 a2 = some r) : Calls Try.prog 8 #[.int .i64 a1, .int .i64 a2] w0 (fun e w_ => ∃ (c_ : Nat → Nat), e = .returned (.int .i64 r) ∧ Ev (fun x => False) c0 w0 c_ w_ ∧ CB m c_ w_) := by
 unfold haulagelaw10_round.f at H; have B := B0.mono (show m ≤ m + 1 by omega); have E : Ev (fun x => False ∨ m ≤ x) c0 w0 c0 w0 := Ev.refl; refine enter (N := 15) (l := [.int .i64 a1, .int .i64 a2]) Try.func8 rfl rfl (nb rfl) fun a F => ?_; refine sr fun K3 hK3 => qa F fun a F => nil (hK3 _ _ ?_); refine sr fun K4 hK4 => qm F fun a F => qm F fun a F => ?_; replace H := ifN H; obtain ⟨g5, H⟩ := H; refine qv F (r_rem F rfl rfl g5) fun a F => ?_; refine qa F fun a F => nil (hK4 _ _ ?_); refine sq fun K6 hK6 => ?_; refine sr fun K7 hK7 => qm F fun a F => ?_; refine qv F (r_lss F rfl rfl) fun a F => ?_; refine nil (hK7 _ _ ?_)
 by_cases hb8 : (Int.tmod a1 a2) < 0
 ·replace H := ip hb8 H; refine wct (fb F (dt hb8)) ?_; refine reg ?_; refine qm F fun a F => qm F fun a F => ?_; refine qv F (r_add F rfl rfl) fun a F => ?_; refine qa F fun a F => nil (hK6 _ _ ?_); replace F : Fr a 15 [(5, .int .i64 (IntKind.i64.wrap ((Int.tmod a1 a2) + a2)))] := F.sub ⟨rfl, trivial⟩; refine sr fun K9 hK9 => qm F fun a F => qa F fun a F => nil (hK9 _ _ ?_); refine wp_ret ?_; obtain rfl := si H; refine out1 F rfl rfl ?_; exact ⟨cf (ct m) c0, rfl, E.lv B0, cfb⟩
 replace H := im hb8 H; refine wcf (fb F (dz hb8)) (wp_skip (hK6 _ _ ?_)); replace F : Fr a 15 [(5, .int .i64 (Int.tmod a1 a2))] := F.sub ⟨rfl, trivial⟩; refine sr fun K10 hK10 => qm F fun a F => qa F fun a F => nil (hK10 _ _ ?_); refine wp_ret ?_; obtain rfl := si H; refine out1 F rfl rfl ?_; exact ⟨cf (ct m) c0, rfl, E.lv B0, cfb⟩
theorem haulagelaw10_unlike.calls (k : Nat) {m : Nat} {c0 : Nat → Nat} {w0 : World} {j4 : Nat} {j5 : Nat} {j9 : Nat} {j10 : Nat} {p2 : Option Addr} {p7 : Option Addr} {A12 : Option Addr} {C13 : Nat} {a1 : Option Mer} {a6 : Option Mer} {a11 : List Int} (hm0 : 0 < m) (B0 : CB m c0 w0) (h3 : ME j4 j5 c0 w0 p2 a1) (h8 : ME j9 j10 c0 w0 p7 a6) (h14 : SL false (Kint .u8) 0 0 c0 w0 A12 C13 a11) (bj4 : j4 < m) (bj5 : j5 < m ∧ j5 ≠ j4) (bj9 : j9 < m) (bj10 : j10 < m ∧ j10 ≠ j9) (r : Bool) (H : haulagelaw10_unlike.f k a1 a6 a11 = some r) : Calls Try.prog 26 #[.pointer p2, .pointer p7, .slice A12 a11.length C13] w0 (fun e w_ => ∃ (c_ : Nat → Nat), e = .returned (.bool r) ∧ Ev (fun x => False) c0 w0 c_ w_ ∧ CB m c_ w_) := by
 unfold haulagelaw10_unlike.f at H; have B := B0.mono (show m ≤ m + 3 by omega); have E : Ev (fun x => False ∨ m ≤ x) c0 w0 c0 w0 := Ev.refl; refine enter (N := 32) (l := [.pointer p2, .pointer p7, .slice A12 a11.length C13]) Try.func26 rfl rfl (nb rfl) fun a F => ?_; refine sr fun K15 hK15 => qa F fun a F => nil (hK15 _ _ ?_); refine sr fun K16 hK16 => qm F fun a F => qm F fun a F => ?_; obtain ⟨t17, q18, H⟩ := bind_some H; refine qc F Try.func13 (merkle_Tree_Get.calls k (m := m + 3) (pl hm0) B h3 h14 (Nat.lt_add_right _ bj4) ⟨(Nat.lt_add_right _ bj5.1), bj5.2⟩ _ q18) ?_; rintro e w20 ⟨c19, A23, C24, A26, C27, rfl, E21, B, h25, h28⟩; refine rt fun a F => ?_; replace h8 := h8.ev E21; replace h14 := h14.ev E21; replace E := E.n E21; refine qm F fun a F => ?_; refine qx F fun a F => ?_; refine qx F fun a F => ?_; refine q_eff F rfl rfl (by decide) (e_alloc F zv_36 c19 (m + 1)) ?_; rintro v w31 a ⟨c30, qa32, rfl, E33, h34, B35⟩ F; replace B := B35 _ B lm; replace h8 := h8.ev E33; replace h14 := h14.ev E33; replace h25 := h25.ev E33; replace h28 := h28.ev E33; replace E := E.n E33; replace h34 : AT _ _ _ _ _ [.slice none 0 0, .slice none 0 0, .int .i64 0] := h34; refine q_eff0 F rfl rfl (e_storeN0 (us := [.slice A23 t17.1.Key.length C24, .slice A26 t17.1.Value.length C27, .int .i64 t17.1.Rev]) F rfl rfl sz_36 h34 (nb rfl) (one_all rfl)) ?_; rintro w37 a ⟨E38, h34, Z39⟩ F; replace B := B.size Z39; replace h8 := h8.ev E38 (ne_pm bj9) (ne_pm bj10.1) ne_zm; replace h14 := h14.ev E38; replace h25 := h25.ev E38; replace h28 := h28.ev E38; replace E := E.trans E38 lc1; replace h34 : AT _ _ _ _ _ [.slice A23 t17.1.Key.length C24, .slice A26 t17.1.Value.length C27, .int .i64 t17.1.Rev] := h34; refine qa F fun a F => nil (hK16 _ _ ?_); replace F : Fr a 32 [(1, .pointer p7), (2, .slice A12 a11.length C13), (7, .pointer (some qa32)), (8, .bool t17.2)] := F.sub ⟨rfl, rfl, rfl, rfl, trivial⟩; refine sr fun K40 hK40 => qm F fun a F => qm F fun a F => ?_; obtain ⟨t41, q42, H⟩ := bind_some H; refine qc F Try.func13 (merkle_Tree_Get.calls k (m := m + 3) (pl hm0) B h8 h14 (Nat.lt_add_right _ bj9) ⟨(Nat.lt_add_right _ bj10.1), bj10.2⟩ _ q42) ?_; rintro e w44 ⟨c43, A47, C48, A50, C51, rfl, E45, B, h49, h52⟩; refine rt fun a F => ?_; replace h25 := h25.ev E45; replace h28 := h28.ev E45; replace h34 := h34.ev E45; replace E := E.n E45; refine qm F fun a F => ?_; refine qx F fun a F => ?_; refine qx F fun a F => ?_; refine q_eff F rfl rfl (by decide) (e_alloc F zv_36 c43 (m + 2)) ?_; rintro v w55 a ⟨c54, qa56, rfl, E57, h58, B59⟩ F; replace B := B59 _ B lm; replace h25 := h25.ev E57; replace h28 := h28.ev E57; replace h34 := h34.ev E57; replace h49 := h49.ev E57; replace h52 := h52.ev E57; replace E := E.n E57; replace h58 : AT _ _ _ _ _ [.slice none 0 0, .slice none 0 0, .int .i64 0] := h58; refine q_eff0 F rfl rfl (e_storeN0 (us := [.slice A47 t41.1.Key.length C48, .slice A50 t41.1.Value.length C51, .int .i64 t41.1.Rev]) F rfl rfl sz_36 h58 (nb rfl) (one_all rfl)) ?_; rintro w61 a ⟨E62, h58, Z63⟩ F
 replace B := B.size Z63; replace h25 := h25.ev E62; replace h28 := h28.ev E62; replace h34 := h34.ev E62; replace h49 := h49.ev E62; replace h52 := h52.ev E62; replace E := E.trans E62 lc1; replace h58 : AT _ _ _ _ _ [.slice A47 t41.1.Key.length C48, .slice A50 t41.1.Value.length C51, .int .i64 t41.1.Rev] := h58; refine qa F fun a F => nil (hK40 _ _ ?_); replace F : Fr a 32 [(7, .pointer (some qa32)), (8, .bool t17.2), (9, .pointer (some qa56)), (10, .bool t41.2)] := F.sub ⟨rfl, rfl, rfl, rfl, trivial⟩; refine sr fun K64 hK64 => qm F fun a F => qm F fun a F => ?_; refine qv F (r_bneq F Try.underlying4 rfl rfl) fun a F => ?_; refine qm F fun a F => ?_
 by_cases hb65 : (t17.2 == t41.2) = true
 ·replace H := ip hb65 H; refine qy F (congrArg not hb65) ?_; refine qv F (r_loads (cs := [.slice A23 t17.1.Key.length C24, .slice A26 t17.1.Value.length C27, .int .i64 t17.1.Rev]) F rfl ag_36 sz_36 h34) fun a F => ?_; refine qy F (congrArg not hb65) ?_; refine qv F (r_loads (cs := [.slice A47 t41.1.Key.length C48, .slice A50 t41.1.Value.length C51, .int .i64 t41.1.Rev]) F rfl ag_36 sz_36 h58) fun a F => ?_; obtain ⟨t66, q67, H⟩ := bind_some H; refine qy F (congrArg not hb65) ?_; refine qc F Try.func14 (haulagelaw10_sameRow.calls k (m := m + 3) (pl hm0) B h25 h28 h49 h52 _ q67) ?_; rintro e w69 ⟨c68, rfl, E70, B⟩; refine rt fun a F => ?_; replace E := E.n E70; refine qy F (congrArg not hb65) ?_; refine qv F (r_not F rfl) fun a F => ?_; refine qv F (r_pick_f F rfl (congrArg not hb65) rfl) fun a F => ?_; refine qa F fun a F => nil (hK64 _ _ ?_); replace F : Fr a 32 [(6, .bool (!t66))] := F.sub ⟨rfl, trivial⟩; refine wp_ret ?_; obtain rfl := si H; refine out1 F rfl rfl ?_; exact ⟨cf (ct m) c68, rfl, E.lv B0, cfb⟩
 replace H := im hb65 H; refine qn F (congrArg not (bfalse hb65)) fun a F => qn F (congrArg not (bfalse hb65)) fun a F => qn F (congrArg not (bfalse hb65)) fun a F => qn F (congrArg not (bfalse hb65)) fun a F => ?_; refine qv F (r_pick_t F rfl (congrArg not (bfalse hb65)) rfl) fun a F => ?_; refine qa F fun a F => nil (hK64 _ _ ?_); replace F : Fr a 32 [(6, .bool true)] := F.sub ⟨rfl, trivial⟩; refine wp_ret ?_; obtain rfl := si H; refine out1 F rfl rfl ?_; exact ⟨cf (ct m) c54, rfl, E.lv B0, cfb⟩
end Go.Proofs.Ytdnaoecfnjalgaa.G
namespace Go.Proofs
open Go.Shelf
def Try.sortLines_ren : Go.Shelf.Ren := ⟨fun | 6 => 53 | 15 => 67 | 14 => 74 | 28 => 89 | 29 => 90 | 20 => 92 | 21 => 93 | 22 => 94 | 23 => 95 | 24 => 96 | 25 => 97 | 26 => 98 | 27 => 99 | 46 => 107 | 47 => 103 | 48 => 104 | 49 => 108 | 50 => 109 | 57 => 112 | n => n, fun | 22 => 59 | 24 => 63 | 25 => 102 | 3 => 3 | 39 => 79 | 0 => 0 | 53 => 121 | 55 => 30 | 4 => 4 | 46 => 130 | 45 => 129 | 50 => 80 | 5 => 5 | 9 => 9 | 66 => 143 | 70 => 146 | 76 => 151 | 77 => 152 | n => n, fun | n => n⟩
theorem Try.sortLines : Go.Proofs.SlLaysF0.n6 Try.prog Try.sortLines_ren := {
 mixed := by kernel_rfl
 f6 := ⟨Try.f53.name, by decide, Try.func53.trans (congrArg some (by kernel_rfl))⟩
 f14 := ⟨Try.f74.name, by decide, Try.func74.trans (congrArg some (by kernel_rfl))⟩
 f15 := Try.func67.trans (congrArg some (by kernel_rfl))
 f20 := ⟨Try.f92.name, by decide, Try.func92.trans (congrArg some (by kernel_rfl))⟩
 f21 := ⟨Try.f93.name, by decide, Try.func93.trans (congrArg some (by kernel_rfl))⟩
 f22 := ⟨Try.f94.name, by decide, Try.func94.trans (congrArg some (by kernel_rfl))⟩
 f23 := ⟨Try.f95.name, by decide, Try.func95.trans (congrArg some (by kernel_rfl))⟩
 f24 := ⟨Try.f96.name, by decide, Try.func96.trans (congrArg some (by kernel_rfl))⟩
 f25 := ⟨Try.f97.name, by decide, Try.func97.trans (congrArg some (by kernel_rfl))⟩
 f26 := ⟨Try.f98.name, by decide, Try.func98.trans (congrArg some (by kernel_rfl))⟩
 f27 := ⟨Try.f99.name, by decide, Try.func99.trans (congrArg some (by kernel_rfl))⟩
 f28 := Try.func89.trans (congrArg some (by kernel_rfl))
 f29 := Try.func90.trans (congrArg some (by kernel_rfl))
 f46 := ⟨Try.f107.name, by decide, Try.func107.trans (congrArg some (by kernel_rfl))⟩
 f47 := Try.func103.trans (congrArg some (by kernel_rfl))
 f48 := Try.func104.trans (congrArg some (by kernel_rfl))
 f49 := ⟨Try.f108.name, by decide, Try.func108.trans (congrArg some (by kernel_rfl))⟩
 f50 := ⟨Try.f109.name, by decide, Try.func109.trans (congrArg some (by kernel_rfl))⟩
 f57 := ⟨Try.f112.name, by decide, Try.func112.trans (congrArg some (by kernel_rfl))⟩
 t0 := Try.underlying0
 a0 := Try.isAgg0
 z0 := Try.sizeOf0
 v0 := Try.zeroValue0
 t3 := Try.underlying3
 a3 := Try.isAgg3
 z3 := Try.sizeOf3
 v3 := Try.zeroValue3
 t4 := Try.underlying4
 a4 := Try.isAgg4
 z4 := Try.sizeOf4
 v4 := Try.zeroValue4
 t5 := Try.underlying5
 a5 := Try.isAgg5
 z5 := Try.sizeOf5
 v5 := Try.zeroValue5
 t9 := Try.underlying9
 a9 := Try.isAgg9
 z9 := Try.sizeOf9
 v9 := Try.zeroValue9
 t22 := Try.underlying59
 a22 := Try.isAgg59
 z22 := Try.sizeOf59
 v22 := Try.zeroValue59
 t25 := Try.underlying102
 a25 := Try.isAgg102
 z25 := Try.sizeOf102
 v25 := Try.zeroValue102
 t39 := Try.underlying79
 a39 := Try.isAgg79
 z39 := Try.sizeOf79
 v39 := Try.zeroValue79
 t45 := Try.underlying129
 a45 := Try.isAgg129
 z45 := Try.sizeOf129
 v45 := Try.zeroValue129
 t46 := Try.underlying130
 a46 := Try.isAgg130
 z46 := Try.sizeOf130
 v46 := Try.zeroValue130
 t50 := Try.underlying80
 a50 := Try.isAgg80
 z50 := Try.sizeOf80
 v50 := Try.zeroValue80
 t53 := Try.underlying121
 a53 := Try.isAgg121
 z53 := Try.sizeOf121
 v53 := Try.zeroValue121
 t55 := Try.underlying30
 a55 := Try.isAgg30
 z55 := Try.sizeOf30
 v55 := Try.zeroValue30
 t66 := Try.underlying143
 a66 := Try.isAgg143
 z66 := Try.sizeOf143
 v66 := Try.zeroValue143
 t70 := Try.underlying146
 a70 := Try.isAgg146
 z70 := Try.sizeOf146
 v70 := Try.zeroValue146
 t76 := Try.underlying151
 a76 := Try.isAgg151
 z76 := Try.sizeOf151
 v76 := Try.zeroValue151
 t77 := Try.underlying152
 a77 := Try.isAgg152
 z77 := Try.sizeOf152
 v77 := Try.zeroValue152 }
end Go.Proofs
namespace Go.Proofs.Ytdnaoecfnjalgaa.G
open Go
set_option linter.unusedVariables false
set_option linter.unusedSimpArgs false
theorem wr {n : Int} (h0 : -1000000000000000000 ≤ n) (h1 : n ≤ 1000000000000000000) : IntKind.i64.wrap n = n := by rw [IntKind.wrap_i64]; omega
theorem loop_next {S X : Type} {f : S → Option (Ctl S X)} {n : Nat} {s s' : S} (h : f s = some (.next s')) : loop f (n + 1) s = loop f n s' := by
 show (f s).bind _ = _; rw [h]; rfl
theorem loop_done {S X : Type} {f : S → Option (Ctl S X)} {n : Nat} {s : S} {x : X} (h : f s = some (.done x)) : loop f (n + 1) s = some x := by
 show (f s).bind _ = _; rw [h]; rfl
abbrev Fuel (k : Nat) : Prop := 1099511627776 ≤ k
theorem bind_eq {α β : Type} {x : Option α} {f : α → Option β} {a : α} (h : x = some a) : x.bind f = f a := by rw [h]; rfl
theorem shr7u (n : Nat) : shr .u64 (n : Int) 7 = ((n / 128 : Nat) : Int) := by
 unfold shr
 have : (2 : Int) ^ (min (7 : Int).toNat IntKind.u64.bits) = 128 := by decide
 rw [this, Int.fdiv_eq_ediv_of_nonneg _ (by omega)]
 omega
def nmF : Nat → Nat → Nat
 | 0, _ => 0
 | f + 1, n => if n ≤ 127 then 0 else nmF f (n / 128) + 1
theorem nmF_le : ∀ f n, nmF f n ≤ f
 | 0, _ => Nat.le_refl _
 | f + 1, n => by
  have := nmF_le f (n / 128)
  unfold nmF; split <;> omega
theorem rd_eq {α : Type} [Inhabited α] {xs : List α} {i : Nat} (h : i < xs.length) : rd xs (i : Int) = xs[i] := by
 unfold rd
 rw [Int.toNat_natCast, List.getD_eq_getElem?_getD, List.getElem?_eq_getElem h]
 rfl
theorem take_one {α : Type} {xs : List α} {i : Nat} (h : i < xs.length) : xs.take (i + 1) = xs.take i ++ [xs[i]] := by
 rw [List.take_add_one, List.getElem?_eq_getElem h]; rfl
theorem wrS (i : Nat) (h : i < 1000000000000) : IntKind.i64.wrap ((i : Int) + 1) = ((i + 1 : Nat) : Int) := by rw [wr (by omega) (by omega)]; omega
theorem loop_inv {S X : Type} {f : S → Option (Ctl S X)} {I : Nat → S → Prop} {P : X → Prop} {N : Nat}
  (step : ∀ i s, i < N → I i s → (∃ s', f s = some (.next s') ∧ I (i + 1) s') ∨ (∃ x, f s = some (.done x) ∧ P x))
  (last : ∀ s, I N s → ∃ x, f s = some (.done x) ∧ P x) : ∀ (n i : Nat) (s : S) (m : Nat), I i s → i + n = N → n < m → ∃ x, loop f m s = some x ∧ P x
 | _, _, _, 0, _, _, h => absurd h (by omega)
 | 0, i, s, m + 1, hI, hN, _ => by
  obtain rfl : i = N := by omega
  obtain ⟨x, h1, h2⟩ := last s hI
  exact ⟨x, loop_done h1, h2⟩
 | n + 1, i, s, m + 1, hI, hN, hm => by
  rcases step i s (by omega) hI with ⟨s', h1, h2⟩ | ⟨x, h1, h2⟩
  ·rw [loop_next h1]
   exact loop_inv step last n (i + 1) s' m h2 (by omega) (by omega)
  ·exact ⟨x, loop_done h1, h2⟩
def fmP : Nat → Nat → List Int
 | 0, _ => []
 | f + 1, n => if n ≤ 127 then [] else bor .u8 (IntKind.u8.wrap n) 128 :: fmP f (n / 128)
def fmL : Nat → Nat → Nat
 | 0, n => n
 | f + 1, n => if n ≤ 127 then n else fmL f (n / 128)
theorem fmP_len : ∀ f n, (fmP f n).length = nmF f n
 | 0, _ => rfl
 | f + 1, n => by
  unfold fmP nmF
  split
  ·rfl
  ·rw [List.length_cons, fmP_len f]
theorem form_loop : ∀ (f n k : Nat) (l : List Int), n < 128 ^ f → f < k → l.length + f < 1000 → loop (fun (s_ : Int × List Int) => parcel_form.b1 s_.1 s_.2) k ((n : Int), l) = some ((fmL f n : Int), l ++ fmP f n)
 | _, _, 0, _, _, h, _ => absurd h (by omega)
 | 0, n, k + 1, l, h, _, _ => by
  have : n = 0 := by simpa using h
  subst this
  rw [loop_done (x := ((0 : Int), l))]
  ·simp [fmP, fmL]
  ·simp [parcel_form.b1]
 | f + 1, n, k + 1, l, h, hk, hs => by
  by_cases c : n ≤ 127
  ·rw [loop_done (x := ((n : Int), l))]
   ·simp [fmP, fmL, c]
   ·unfold parcel_form.b1; rw [if_neg (by omega)]
  ·have hd : n / 128 < 128 ^ f := by rw [Nat.pow_succ] at h; omega
   rw [loop_next (s' := (((n / 128 : Nat) : Int), l ++ [bor .u8 (IntKind.u8.wrap n) 128]))]
   ·rw [form_loop f (n / 128) k _ hd (by omega) (by simp; omega)]
    simp [fmP, fmL, c]
   ·unfold parcel_form.b1
    rw [if_pos (by omega), if_pos (by simp; omega), shr7u]
theorem wru {n : Int} (h0 : 0 ≤ n) (h1 : n < 9223372036854775808) : IntKind.u64.wrap n = n := by
 simp only [IntKind.wrap, IntKind.bits, IntKind.signed]; simp; omega
abbrev W (room : Int) (b : List Int) : Option Wri := some ⟨room, b, [], 0⟩
theorem lay_eq {room : Int} {b a : List Int} (h1 : (b.length + a.length : Nat) ≤ room) (h2 : room ≤ 1000000000000) : parcel_Writer_lay.f (W room b) a = some (W room (b ++ a)) := by
 unfold parcel_Writer_lay.f parcel_Writer_whole.f
 simp only [Option.isNone_some, Bool.false_eq_true, if_false, Option.bind_some, decide_true, if_true]
 rw [wr (by omega) (by omega), if_neg (by omega), if_pos (by omega)]
theorem concat_eq {k : Nat} (hk : Fuel k) {x y : List Int} (h : x.length + y.length < 2000000000000) : slices_Concat.f k [x, y] = some (x ++ y) := by
 have h24 : 1099511627776 ≤ k := hk
 obtain ⟨q, rfl⟩ : ∃ q, k = q + 1 + 1 + 1 := ⟨k - 3, by omega⟩
 unfold slices_Concat.f
 have e1 : loop (fun (s_ : Int × Int) => slices_Concat.b1 [x, y] s_.1 s_.2) (q + 1 + 1 + 1) (0, 0) = some ((x.length + y.length : Nat) : Int) := by
  rw [loop_next (s' := ((x.length : Int), (1 : Int)))]
  ·rw [loop_next (s' := (((x.length + y.length : Nat) : Int), (2 : Int)))]
   ·refine loop_done ?_
    simp [slices_Concat.b1]
   ·have r1 : rd [x, y] 1 = y := rfl
    have w1 : IntKind.i64.wrap ((x.length : Int) + (y.length : Int)) = ((x.length + y.length : Nat) : Int) := by rw [wr (by omega) (by omega)]; omega
    unfold slices_Concat.b1
    simp only [r1, w1]
    rw [if_pos (by simp), if_pos (by simp), if_neg (by omega)]
    rfl
  ·have r1 : rd [x, y] 0 = x := rfl
   have w1 : IntKind.i64.wrap (0 + (x.length : Int)) = (x.length : Int) := by rw [wr (by omega) (by omega)]; omega
   unfold slices_Concat.b1
   simp only [r1, w1]
   rw [if_pos (by simp), if_pos (by simp), if_neg (by omega)]
   rfl
 rw [bind_eq e1]
 unfold slices_Concat.j2
 have e2 : slices_Grow.f [] ((x.length + y.length : Nat) : Int) = some [] := by
  unfold slices_Grow.f; rw [if_pos ⟨by omega, by omega, rfl⟩]
 rw [bind_eq e2]
 have e3 : loop (fun (s_ : (List Int) × Int) => slices_Concat.b3 [x, y] s_.1 s_.2) (q + 1 + 1 + 1) ([], 0) = some (x ++ y) := by
  rw [loop_next (s' := (x, (1 : Int)))]
  ·rw [loop_next (s' := (x ++ y, (2 : Int)))]
   ·refine loop_done ?_
    simp [slices_Concat.b3]
   ·have r1 : rd [x, y] 1 = y := rfl
    unfold slices_Concat.b3
    simp only [r1]
    rw [if_pos (by simp), if_pos (by simp), if_pos (by omega)]
    rfl
  ·have r1 : rd [x, y] 0 = x := rfl
   unfold slices_Concat.b3
   simp only [r1]
   rw [if_pos (by simp), if_pos (by simp), if_pos (by simp; omega)]
   rfl
 rw [bind_eq e3]
 rfl
theorem done_eq {room : Int} {b : List Int} (h : b.length ≤ 1000000000000) : parcel_Writer_Done.f (W room b) = some (b, 0) := by
 unfold parcel_Writer_Done.f
 simp only [Option.isNone_some, Bool.false_eq_true, if_false, Option.bind_some, if_true, List.length_nil]
 rw [if_neg (by omega), if_pos (by omega)]
 simp
theorem u64_range (x : Int) : ∃ n : Nat, IntKind.u64.wrap x = (n : Int) ∧ n < 18446744073709551616 := by
 refine ⟨(IntKind.u64.wrap x).toNat, ?_, ?_⟩ <;> simp only [IntKind.wrap, IntKind.bits, IntKind.signed] <;> simp <;> omega
theorem down_tot {k : Nat} (hk : Fuel k) (x : Int) : ∃ l, parcel_downuint64.f k (List.replicate 8 (0 : Int)) x = some l ∧ l.length = 8 := by
 have h24 : 1099511627776 ≤ k := hk
 unfold parcel_downuint64.f
 have L := loop_inv (f := fun (s_ : (List Int) × Int × Int) => parcel_downuint64.b1 (List.replicate 8 (0 : Int)) s_.1 s_.2.1 s_.2.2) (I := fun i s => s.1.length = 8 ∧ s.2.2 = (i : Int)) (P := fun l => l.length = 8) (N := 8) ?_ ?_ 8 0 (List.replicate 8 (0 : Int), x, 0) k ⟨rfl, rfl⟩ rfl (by omega)
 ·obtain ⟨l, e, h⟩ := L
  rw [bind_eq e]
  exact ⟨l, by unfold parcel_downuint64.j2; rw [if_pos (by rw [h]; rfl)], h⟩
 ·rintro i ⟨l, y, j⟩ hi ⟨hl, hj⟩
  left
  simp only at hj hl; subst hj
  simp only [parcel_downuint64.b1]
  rw [if_pos (by simp; omega), if_pos (by omega), wrS i (by omega)]
  exact ⟨_, rfl, by simpa using hl, rfl⟩
 ·rintro ⟨l, y, j⟩ ⟨hl, hj⟩
  simp only at hj hl; subst hj
  simp only [parcel_downuint64.b1]
  rw [if_neg (by simp)]
  exact ⟨_, rfl, hl⟩
def brange (xs : List Int) : Prop := ∀ n ∈ xs, 0 ≤ n ∧ n ≤ 255
theorem comes_loop (a b : List Int) (ha : a.length < 4000000) : ∀ (n i m : Nat), i + n = a.length → n < m → i ≤ b.length →
  (∃ x, loop (fun (s_ : Int) => haulagelaw10_comes.b2 a b s_) m (i : Int) = some x ∧ (match x with | .inl _ => haulagelaw10_comes.j3 a b | .inr q => some q) = some (cm (a.drop i) (b.drop i)))
 | _, _, 0, _, h, _ => absurd h (by omega)
 | 0, i, m + 1, h, _, hb => by
  refine ⟨Sum.inl (), loop_done ?_, ?_⟩
  ·unfold haulagelaw10_comes.b2 haulagelaw10_comes.j1
   rw [if_neg (by omega), if_neg (by simp)]
  ·show haulagelaw10_comes.j3 a b = _
   unfold haulagelaw10_comes.j3
   rw [List.drop_of_length_le (by omega)]
   congr 1
   by_cases c : i < b.length
   ·rw [List.drop_eq_getElem_cons c, decide_eq_true (by omega)]; rfl
   ·rw [List.drop_of_length_le (by omega), decide_eq_false (by omega)]; rfl
 | n + 1, i, m + 1, h, hm, hb => by
  have hi : i < a.length := by omega
  rw [List.drop_eq_getElem_cons hi]
  by_cases c : i < b.length
  ·rw [List.drop_eq_getElem_cons c]
   by_cases e : a[i] = b[i]
   ·rw [loop_next (s' := ((i + 1 : Nat) : Int))]
    ·have := comes_loop a b ha n (i + 1) m (by omega) (by omega) (by omega)
     simp only [cm, e, if_true]
     exact this
    ·unfold haulagelaw10_comes.b2 haulagelaw10_comes.j1
     rw [if_pos (by omega), if_pos (by simp; omega), if_pos (by omega), if_pos (by omega), rd_eq hi, rd_eq c, if_pos e, wrS i (by omega)]
   ·refine ⟨Sum.inr (decide (a[i] < b[i])), loop_done ?_, ?_⟩
    ·unfold haulagelaw10_comes.b2 haulagelaw10_comes.j1
     rw [if_pos (by omega), if_pos (by simp; omega), if_pos (by omega), if_pos (by omega), rd_eq hi, rd_eq c, if_neg e, if_pos (by omega), if_pos (by omega)]
    ·simp only [cm, if_neg e]
  ·refine ⟨Sum.inl (), loop_done ?_, ?_⟩
   ·unfold haulagelaw10_comes.b2 haulagelaw10_comes.j1
    rw [if_pos (by omega), if_neg (by simp; omega)]
   ·show haulagelaw10_comes.j3 a b = _
    unfold haulagelaw10_comes.j3
    rw [List.drop_of_length_le (show b.length ≤ i by omega)]
    congr 1
    rw [decide_eq_false (by omega)]; rfl
theorem comes_eq {k : Nat} (hk : Fuel k) (a b : List Int) (ha : a.length < 4000000) : haulagelaw10_comes.f k a b = some (cm a b) := by
 have h24 : 1099511627776 ≤ k := hk
 obtain ⟨x, e, h⟩ := comes_loop a b ha a.length 0 k (by omega) (by omega) (Nat.zero_le _)
 unfold haulagelaw10_comes.f
 rw [show (0 : Int) = ((0 : Nat) : Int) from rfl, bind_eq e]
 rw [List.drop_zero, List.drop_zero] at h
 cases x <;> exact h
theorem same_loop (a b : List Int) (hl : a.length = b.length) : ∀ (n i m : Nat), i + n = a.length → n < m → a.length < 4000000000 →
  loop (fun (s_ : Int) => haulagelaw10_same.b1 a b s_) m (i : Int) = some (if a.drop i = b.drop i then Sum.inl () else Sum.inr false)
 | _, _, 0, _, h, _ => absurd h (by omega)
 | 0, i, m + 1, h, _, _ => by
  refine loop_done ?_
  unfold haulagelaw10_same.b1
  rw [if_neg (by omega), if_pos]
  rw [List.drop_of_length_le (by omega), List.drop_of_length_le (by omega)]
 | n + 1, i, m + 1, h, hm, hb => by
  have hi : i < a.length := by omega
  have hj : i < b.length := by omega
  rw [List.drop_eq_getElem_cons hi, List.drop_eq_getElem_cons hj]
  by_cases c : a[i] = b[i]
  ·rw [loop_next (s' := ((i + 1 : Nat) : Int)), same_loop a b hl n (i + 1) m (by omega) (by omega) hb]
   ·simp only [c, List.cons.injEq, true_and]
   ·unfold haulagelaw10_same.b1
    rw [if_pos (by omega), if_pos (by omega), if_pos (by omega), rd_eq hi, rd_eq hj, if_pos c, wrS i (by omega)]
  ·rw [if_neg (by simp only [List.cons.injEq, c, false_and, not_false_eq_true])]
   refine loop_done ?_
   unfold haulagelaw10_same.b1
   rw [if_pos (by omega), if_pos (by omega), if_pos (by omega), rd_eq hi, rd_eq hj, if_neg c]
theorem same_eq {k : Nat} (hk : Fuel k) (a b : List Int) (h : a.length < 4000000000 ∨ b.length < 4000000000) : haulagelaw10_same.f k a b = some (decide (a = b)) := by
 have h24 : 1099511627776 ≤ k := hk
 unfold haulagelaw10_same.f
 by_cases c : a.length = b.length
 ·rw [if_pos (by omega), show (0 : Int) = ((0 : Nat) : Int) from rfl, bind_eq (same_loop a b c a.length 0 k (by omega) (by omega) (by omega))]
  simp only [List.drop_zero]
  by_cases e : a = b
  ·simp [e, haulagelaw10_same.j2]
  ·simp [e]
 ·rw [if_neg (by omega), decide_eq_false (fun e => c (by rw [e]))]
theorem cm_irr : ∀ a : List Int, cm a a = false
 | [] => rfl
 | a :: x => by simp only [cm, if_true]; exact cm_irr x
theorem cm_tr : ∀ {a b c : List Int}, cm a b = true → cm b c = true → cm a c = true
 | [], [], _, h, _ => by cases h
 | [], _ :: _, [], _, h => by simp [cm] at h
 | [], _ :: _, _ :: _, _, _ => rfl
 | _ :: _, [], _, h, _ => by simp [cm] at h
 | _ :: _, _ :: _, [], _, h => by simp [cm] at h
 | a :: x, b :: y, c :: z, h1, h2 => by
  simp only [cm] at h1 h2 ⊢
  by_cases e1 : a = b
  ·subst e1
   rw [if_pos rfl] at h1
   by_cases e2 : a = c
   ·subst e2
    rw [if_pos rfl] at h2 ⊢
    exact cm_tr h1 h2
   ·rw [if_neg e2] at h2 ⊢; exact h2
  ·rw [if_neg e1] at h1
   by_cases e2 : b = c
   ·subst e2; rw [if_neg e1]; exact h1
   ·rw [if_neg e2] at h2
    simp only [decide_eq_true_eq] at h1 h2
    rw [if_neg (by omega)]
    simp only [decide_eq_true_eq]; omega
theorem cm_tri : ∀ {a b : List Int}, cm a b = false → cm b a = false → a = b
 | [], [], _, _ => rfl
 | [], _ :: _, h, _ => by simp [cm] at h
 | _ :: _, [], _, h => by simp [cm] at h
 | a :: x, b :: y, h1, h2 => by
  simp only [cm] at h1 h2
  by_cases e : a = b
  ·subst e
   rw [if_pos rfl] at h1 h2
   rw [cm_tri h1 h2]
  ·rw [if_neg e] at h1
   rw [if_neg (fun q => e q.symm)] at h2
   simp only [decide_eq_false_iff_not] at h1 h2
   omega
theorem cm_asym {a b : List Int} (h : cm a b = true) : cm b a = false := by
 cases e : cm b a with
 | false => rfl
 | true => have := cm_tr h e; rw [cm_irr] at this; cases this
theorem cm_ntr {a b c : List Int} (h1 : cm a b = false) (h2 : cm b c = false) : cm a c = false := by
 cases e : cm a c with
 | false => rfl
 | true =>
  cases hb : cm b a with
  | true => rw [cm_tr hb e] at h2; cases h2
  | false => have := cm_tri h1 hb; subst this; rw [e] at h2; cases h2
theorem cm_ne {a b : List Int} (h : cm a b = true) : a ≠ b := by rintro rfl; rw [cm_irr] at h; cases h
theorem cm_first : ∀ (a b : List Int) (i : Nat) (ha : i < a.length) (hb : i < b.length), (∀ j (h1 : j < i), a[j] = b[j]) → a[i] ≠ b[i] → cm a b = decide (a[i] < b[i])
 | [], _, i, ha, _, _, _ => absurd ha (by simp)
 | _ :: _, [], i, _, hb, _, _ => absurd hb (by simp)
 | a :: x, b :: y, 0, _, _, _, h => by
  simp only [List.getElem_cons_zero] at h ⊢
  simp only [cm, if_neg h]
 | a :: x, b :: y, i + 1, ha, hb, h1, h => by
  have h0 := h1 0 (by omega)
  simp only [List.getElem_cons_zero] at h0
  simp only [List.getElem_cons_succ] at h ⊢
  simp only [cm, if_pos h0]
  exact cm_first x y i (by simpa using ha) (by simpa using hb) (fun j hj => by have := h1 (j + 1) (by omega); simpa using this) h
theorem cm_none : ∀ (a b : List Int), (∀ j (h1 : j < a.length) (h2 : j < b.length), a[j] = b[j]) → cm a b = decide (a.length < b.length) ∧ (a.length = b.length → a = b)
 | [], [], _ => ⟨rfl, fun _ => rfl⟩
 | [], _ :: _, _ => ⟨by simp [cm], fun h => by simp at h⟩
 | _ :: _, [], _ => ⟨by simp [cm], fun h => by simp at h⟩
 | a :: x, b :: y, h => by
  have h0 := h 0 (by simp) (by simp)
  simp only [List.getElem_cons_zero] at h0
  obtain ⟨h1, h2⟩ := cm_none x y (fun j a b => by have := h (j + 1) (by simpa using a) (by simpa using b); simpa using this)
  refine ⟨?_, fun e => ?_⟩
  ·simp only [cm, if_pos h0, h1, List.length_cons]
   exact decide_eq_decide.2 (by omega)
  ·rw [h0, h2 (by simpa using e)]
theorem bs_get {l : List Int} (h : brange l) {i : Nat} (hi : i < l.length) : (bs l)[i]! = UInt8.ofNat l[i].toNat := by
 have hs : (bs l).size = l.length := by simp [bs, ByteArray.size]
 rw [getElem!_pos (bs l) i (by omega)]
 show (bs l).data[i]'(by simp [bs]; omega) = _
 simp [bs]
theorem bs_size (l : List Int) : (bs l).size = l.length := by simp [bs, ByteArray.size]
theorem u8_lt {x y : Int} (hx : 0 ≤ x ∧ x ≤ 255) (hy : 0 ≤ y ∧ y ≤ 255) : (UInt8.ofNat x.toNat < UInt8.ofNat y.toNat) ↔ x < y := by
 rw [UInt8.lt_iff_toNat_lt]
 simp only [UInt8.toNat_ofNat']
 omega
theorem u8_eq {x y : Int} (hx : 0 ≤ x ∧ x ≤ 255) (hy : 0 ≤ y ∧ y ≤ 255) : (UInt8.ofNat x.toNat = UInt8.ofNat y.toNat) ↔ x = y := by
 rw [← UInt8.toNat_inj]
 simp only [UInt8.toNat_ofNat']
 omega
theorem cmp_eq {a b : List Int} (ha : brange a) (hb : brange b) : Extern.BytealgCompare.cmp (bs a) (bs b) = if cm a b = true then -1 else if a = b then 0 else 1 := by
 unfold Extern.BytealgCompare.cmp
 rw [bs_size, bs_size]
 have hA : ∀ i (h : i < a.length), 0 ≤ a[i] ∧ a[i] ≤ 255 := fun i h => ha _ (List.getElem_mem h)
 have hB : ∀ i (h : i < b.length), 0 ≤ b[i] ∧ b[i] ≤ 255 := fun i h => hb _ (List.getElem_mem h)
 have key : ∀ i, i < min a.length b.length → (((bs a)[i]! != (bs b)[i]!) = true ↔ ∃ (h1 : i < a.length) (h2 : i < b.length), a[i] ≠ b[i]) := by
  intro i hi
  rw [bs_get ha (by omega), bs_get hb (by omega)]
  simp only [bne_iff_ne, ne_eq]
  rw [u8_eq (hA i (by omega)) (hB i (by omega))]
  exact ⟨fun h => ⟨by omega, by omega, h⟩, fun ⟨_, _, h⟩ => h⟩
 cases hf : (List.range (min a.length b.length)).find? fun i => (bs a)[i]! != (bs b)[i]! with
 | some i =>
  rw [List.find?_range_eq_some] at hf
  obtain ⟨h1, h2, h3⟩ := hf
  have hi : i < min a.length b.length := by simpa using h2
  obtain ⟨g1, g2, g3⟩ := (key i hi).1 h1
  have hc := cm_first a b i g1 g2 (fun j hj => by
   have := h3 j hj
   have hj' : j < min a.length b.length := by omega
   have h4 : ¬ ((bs a)[j]! != (bs b)[j]!) = true := by simpa using this
   rw [key j hj'] at h4
   have h1 : j < a.length := by omega
   have h2 : j < b.length := by omega
   exact Decidable.byContradiction fun q => h4 ⟨h1, h2, q⟩) g3
  simp only
  rw [bs_get ha g1, bs_get hb g2]
  by_cases c : a[i] < b[i]
  ·rw [if_pos ((u8_lt (hA i g1) (hB i g2)).2 c), if_pos (by rw [hc]; simpa using c)]
  ·rw [if_neg (fun q => c ((u8_lt (hA i g1) (hB i g2)).1 q)), if_neg (by rw [hc]; simpa using c), if_neg (fun e => g3 (by subst e; rfl))]
 | none =>
  rw [List.find?_eq_none] at hf
  obtain ⟨h1, h2⟩ := cm_none a b (fun j g1 g2 => by
   have hj' : j < min a.length b.length := by omega
   have h4 := hf j (List.mem_range.2 hj')
   rw [key j hj'] at h4
   exact Decidable.byContradiction fun q => h4 ⟨g1, g2, q⟩)
  simp only
  rw [h1]
  rcases Nat.lt_trichotomy a.length b.length with c | c | c
  ·have n1 : ¬ b.length < a.length := by omega
   simp [c, n1]
  ·have e := h2 c
   subst e
   simp
  ·have n1 : ¬ a.length < b.length := by omega
   have ne : a ≠ b := fun q => by rw [q] at c; omega
   simp [c, n1, ne]
theorem byKey_eq {r s : api_Row} (h1 : brange r.Key) (h2 : brange s.Key) : merkle_byKey.f r s = some (if cm r.Key s.Key = true then -1 else if r.Key = s.Key then 0 else 1) := by
 unfold merkle_byKey.f bytes_Compare.f
 rw [Option.bind_some, cmp_eq h1 h2]
theorem sameRow_eq {k : Nat} (hk : Fuel k) (r s : api_Row) (h1 : r.Key.length < 4000000000) (h2 : r.Value.length < 4000000000) : haulagelaw10_sameRow.f k r s = some (decide (r = s)) := by
 unfold haulagelaw10_sameRow.f
 rw [bind_eq (same_eq hk _ _ (.inl h1))]
 obtain ⟨a, b, c⟩ := r
 obtain ⟨a', b', c'⟩ := s
 simp only [api_Row.mk.injEq]
 by_cases e1 : a = a'
 ·rw [if_pos (by simpa using e1), bind_eq (same_eq hk _ _ (.inl h2))]
  by_cases e2 : b = b'
  ·rw [if_pos (by simpa using e2)]; simp [e1, e2]
  ·rw [if_neg (by simpa using e2)]; simp [e2]
 ·rw [if_neg (by simpa using e1)]; simp [e1]
end Go.Proofs.Ytdnaoecfnjalgaa.G
namespace Go.Proofs.Ytdnaoecfnjalgaa.G
open Go
set_option linter.unusedVariables false
section
variable {α : Type} {key : α → List Int}
theorem insK_perm (r : α) : ∀ l : List α, (insK key r l).Perm (r :: l)
 | [] => .refl _
 | x :: l => by
  unfold insK
  split
  ·exact .refl _
  ·exact ((insK_perm r l).cons x).trans (List.Perm.swap r x l)
theorem srtK_perm : ∀ l : List α, (srtK key l).Perm l
 | [] => .refl _
 | x :: l => (insK_perm x (srtK key l)).trans ((srtK_perm l).cons x)
def SrtK (key : α → List Int) (l : List α) : Prop := l.Pairwise fun a b => cm (key a) (key b) = true
theorem insK_srt (r : α) : ∀ l : List α, SrtK key l → (∀ x ∈ l, key x ≠ key r) → SrtK key (insK key r l)
 | [], _, _ => by simp [insK, SrtK]
 | x :: l, h, hn => by
  unfold insK
  obtain ⟨h1, h2⟩ := List.pairwise_cons.1 h
  split
  ·rename_i c
   refine List.pairwise_cons.2 ⟨fun y hy => ?_, h⟩
   rcases List.mem_cons.1 hy with rfl | hy
   ·exact c
   ·exact cm_tr c (h1 y hy)
  ·rename_i c
   refine List.pairwise_cons.2 ⟨fun y hy => ?_, insK_srt r l h2 fun z hz => hn z (List.mem_cons_of_mem _ hz)⟩
   have hc : cm (key x) (key r) = true := by
    cases e : cm (key x) (key r) with
    | true => rfl
    | false => exact absurd (cm_tri e (by simpa using c)) (hn x (List.mem_cons_self ..))
   rcases List.mem_cons.1 ((insK_perm r l).mem_iff.1 hy) with rfl | hy
   ·exact hc
   ·exact h1 y hy
theorem srtK_srt : ∀ l : List α, (l.map key).Nodup → SrtK key (srtK key l)
 | [], _ => .nil
 | x :: l, h => by
  rw [List.map_cons, List.nodup_cons] at h
  exact insK_srt x _ (srtK_srt l h.2) fun y hy e => h.1 (List.mem_map.2 ⟨y, (srtK_perm l).mem_iff.1 hy, e⟩)
theorem srt_uniq : ∀ {l l' : List α}, SrtK key l → SrtK key l' → l.Perm l' → l = l'
 | [], l', _, _, h => (List.nil_perm.1 h).symm
 | a :: t, [], _, _, h => absurd h.symm (by intro q; exact absurd (List.nil_perm.1 q) (by simp))
 | a :: t, b :: t', h1, h2, h => by
  obtain ⟨g1, g2⟩ := List.pairwise_cons.1 h1
  obtain ⟨k1, k2⟩ := List.pairwise_cons.1 h2
  have e : a = b := by
   rcases List.mem_cons.1 (h.mem_iff.1 (List.mem_cons_self ..)) with e | e
   ·exact e
   ·rcases List.mem_cons.1 (h.mem_iff.2 (List.mem_cons_self ..)) with e2 | e2
    ·exact e2.symm
    ·have := cm_asym (k1 a e); rw [g1 b e2] at this; cases this
  subst e
  rw [srt_uniq g2 k2 (h.cons_inv)]
theorem srtK_eq {l ys : List α} (hn : (l.map key).Nodup) (hp : ys.Perm l) (hs : SrtK key ys) : ys = srtK key l :=
 srt_uniq hs (srtK_srt l hn) (hp.trans (srtK_perm l).symm)
end
end Go.Proofs.Ytdnaoecfnjalgaa.G
namespace Go.Proofs.Ytdnaoecfnjalgaa.G
open Go Go.RowKit Go.Shelf Go.Sort Go.Lib
set_option linter.unusedVariables false
set_option linter.unusedSimpArgs false
theorem r_box_ine {P : Program} {a : Act} {N : Nat} {L : List (Nat × Value)} {D : List Deferred} {w : World} {x : Operand} {v : Value} {d : Option Tmp} {e ty : TypeId} {pos : String} {af : Array Edge} {gd : Option (Nat × Bool)} (F : Fr a N L D) (hx : ev L x = some v) :
  (execOp a.eval { dst := d, op := .box e x, type := ty, pos := pos, after := af, guard := gd }).run P w = .ok (.value (.pointer (some ⟨w.heap.size, 0, none⟩))) (w.alloc (.cells v.cells e (0, 0))) := by
 simp [execOp, Instr.box, F.ev hx, newVar, newRow]
theorem compare_exact_ine {c : Nat → Nat} {w0 : World} {j1 j4 : Nat} {A2 A5 : Option Addr} {C3 C6 : Nat} {a1 a4 : List Int} (h1 : SL false (Kint .u8) j1 0 c w0 A2 C3 a1) (h4 : SL false (Kint .u8) j4 0 c w0 A5 C6 a4) :
  Calls Try.prog 55 #[.slice A2 a1.length C3, .slice A5 a4.length C6] w0 (fun e w_ => e = .returned (.int .i64 (Extern.BytealgCompare.cmp (bs a1) (bs a4))) ∧ w_ = w0) := by
 refine enter (N := 8) (l := [.slice A2 a1.length C3, .slice A5 a4.length C6]) Try.func55 rfl rfl (Nat.le_of_ble_eq_true rfl) fun a F => ?_
 refine wp_seq_k fun K5 hK5 => reg ?_
 refine q_val F rfl rfl (by decide) (r_assign F rfl) fun a F => nil ?_
 refine hK5 _ _ ?_
 refine wp_seq_k fun K6 hK6 => reg ?_
 refine q_val F rfl rfl (by decide) (r_move F rfl) fun a F => ?_
 refine q_val F rfl rfl (by decide) (r_move F rfl) fun a F => ?_
 refine q_val F rfl rfl (by decide) (r_extern F Try.func75 (by kernel_rfl) (by kernel_rfl) (by kernel_rfl) (e := Extern.BytealgCompare.compare) (by kernel_rfl) rfl (run_compare h1 h4)) fun a F => ?_
 refine q_val F rfl rfl (by decide) (r_assign F rfl) fun a F => nil ?_
 refine hK6 _ _ ?_
 refine wp_ret ?_
 refine out1 F rfl rfl ?_
 exact ⟨rfl, rfl⟩
set_option maxHeartbeats 1000000 in
theorem closure_ine {c : Nat → Nat} {W : World} {A1 A2 : Option Addr} {C1 C2 : Nat} {k1 k2 : List Int} {u1 u2 v1 v2 : Value} (h1 : SL false (Kint .u8) 0 0 c W A1 C1 k1) (h2 : SL false (Kint .u8) 0 0 c W A2 C2 k2) :
  Calls Try.prog 54 #[.agg #[.slice A1 k1.length C1, u1, u2], .agg #[.slice A2 k2.length C2, v1, v2]] W fun e w' => e = .returned (.int .i64 (Extern.BytealgCompare.cmp (bs k1) (bs k2))) ∧ ∃ q os', w' = grow (W.drewN q) os' := by
 refine enter (N := 10) (l := [.agg #[.slice A1 k1.length C1, u1, u2], .agg #[.slice A2 k2.length C2, v1, v2]]) Try.func54 rfl rfl (Nat.le_of_ble_eq_true rfl) fun a F => ?_
 refine wp_seq_k fun K1 hK1 => reg ?_
 obtain ⟨E1, g1, _⟩ := alloc_new (M := No) c W (Value.agg #[.slice A1 k1.length C1, u1, u2]).cells 63 (0, 0) 1 true (fun _ k _ => by simp)
 refine q_val F rfl rfl (by decide) (r_box_ine F rfl) fun a F => ?_
 have h1 := h1.ev E1 (fun q => q) (fun q => q)
 have h2 := h2.ev E1 (fun q => q) (fun q => q)
 obtain ⟨W1, hW1⟩ : ∃ w, w = W.alloc (.cells (Value.agg #[.slice A1 k1.length C1, u1, u2]).cells 63 (0, 0)) := ⟨_, rfl⟩
 rw [← hW1] at h1 h2 E1 g1 ⊢
 obtain ⟨E2, g2, _⟩ := alloc_new (M := No) (cset c W.heap.size 1) W1 (Value.agg #[.slice A2 k2.length C2, v1, v2]).cells 63 (0, 0) 1 true (fun _ k _ => by simp)
 refine q_val F rfl rfl (by decide) (r_box_ine F rfl) fun a F => ?_
 have h1 := h1.ev E2 (fun q => q) (fun q => q)
 have h2 := h2.ev E2 (fun q => q) (fun q => q)
 have g1 := g1.ev E2 (fun q => q)
 refine q_val F rfl rfl (by decide) (r_assign F rfl) fun a F => nil ?_
 refine hK1 _ _ ?_
 refine wp_seq_k fun K2 hK2 => reg ?_
 refine q_val F rfl rfl (by decide) (r_fieldAddr F rfl ff_63_0) fun a F => ?_
 refine q_val F rfl rfl (by decide) (r_load (v := .slice A1 k1.length C1) F rfl ag_23 (AT.cell g1 rfl)) fun a F => ?_
 refine q_val F rfl rfl (by decide) (r_fieldAddr F rfl ff_63_0) fun a F => ?_
 refine q_val F rfl rfl (by decide) (r_load (v := .slice A2 k2.length C2) F rfl ag_23 (AT.cell g2 rfl)) fun a F => ?_
 refine q_call F rfl rfl (by decide) (r_call F Try.func55 rfl (by kernel_rfl) rfl) (compare_exact_ine h1 h2) ?_
 rintro e w ⟨rfl, rfl⟩
 refine ⟨_, rfl, fun a F => ?_⟩
 refine q_val F rfl rfl (by decide) (r_assign F rfl) fun a F => nil ?_
 refine hK2 _ _ ?_
 refine wp_ret ?_
 refine out1 F rfl rfl ?_
 refine ⟨rfl, 0, #[.cells (Value.agg #[.slice A1 k1.length C1, u1, u2]).cells 63 (0, 0), .cells (Value.agg #[.slice A2 k2.length C2, v1, v2]).cells 63 (0, 0)], ?_⟩
 rw [hW1, alloc_eq_grow, alloc_eq_grow, grow_grow]
 rfl
theorem sub_block_ine {cs : List Value} {n sz : Nat} {q : Nat} (hq : q < sz) (u : List Value) (h : (cs.drop (n * sz)).take sz = u) : cs[n * sz + q]? = u[q]? := by
 rw [← h, List.getElem?_take_of_lt hq, List.getElem?_drop]
set_option maxHeartbeats 2000000 in
theorem sort_keyed_ine {m : Nat} {c0 : Nat → Nat} {w0 : World} {j1 : Nat} {A2 : Option Addr} {C3 : Nat} {xs : List api_Line} (B0 : CB m c0 w0) (h4 : SL true K_api_Line j1 0 c0 w0 A2 C3 xs) (bj1 : 0 < j1 ∧ j1 < m) (hs : xs.length < 4611686018427387904) (hb : ∀ x ∈ xs, brange x.Key) (hn : (xs.map (·.Key)).Nodup) :
  Calls Try.prog 53 #[.slice A2 xs.length C3, .func (.func 54) #[] #[]] w0 (fun e w_ => ∃ (c_ : Nat → Nat) (ys : List api_Line), e = .returned (.tuple #[]) ∧ Ev (fun x => x = j1) c0 w0 c_ w_ ∧ CB m c_ w_ ∧ SL true K_api_Line j1 0 c_ w_ A2 C3 ys ∧ ys.Perm xs ∧ SrtK (·.Key) ys) := by
 by_cases hnil : xs = []
 ·subst hnil
  refine (AnyF.slices_SortFunc_none Try.sortLines A2 C3 _ w0).mono ?_
  rintro e w' ⟨rfl, rfl⟩
  exact ⟨c0, [], rfl, Ev.refl, B0, h4, List.Perm.refl _, .nil⟩
 obtain ⟨l, hl⟩ : ∃ l, xs.length = l + 1 := ⟨xs.length - 1, by have := List.length_pos_iff.2 hnil; omega⟩
 obtain ⟨cs, h2, h3, hcl, hrow, hr⟩ := h4
 have hcl : cs.length = C3 * 3 := hcl
 rcases hrow with rfl | ⟨p, rfl, hat⟩
 ·simp at hcl; omega
 let en : Fin (l + 1) → List Value := fun k => (cs.drop (k.val * 3)).take 3
 let at_ : Fin (l + 1) → api_Line := fun k => xs.getD k.val default
 have hrep : ∀ k : Fin (l + 1), K_api_Line.rep 0 c0 w0 (en k) (at_ k) := fun k => by
  have hk : k.val < xs.length := by have := k.isLt; omega
  have e : at_ k = xs[k.val] := by show xs.getD k.val default = _; rw [List.getD_eq_getElem?_getD, List.getElem?_eq_getElem hk]; rfl
  rw [e]
  exact hr k.val hk
 have hin : ∀ k, brange (at_ k).Key := fun k => by
  have hk : k.val < xs.length := by have := k.isLt; omega
  refine hb _ ?_
  show xs.getD k.val default ∈ xs
  rw [List.getD_eq_getElem?_getD, List.getElem?_eq_getElem hk]
  exact List.getElem_mem _
 have hk3 : ∀ k, (en k).length = 3 := fun k => K_api_Line.len (hrep k)
 have h1 : ∀ k, ∀ v ∈ en k, v.oneCell' = true := fun k v hv => K_api_Line.one (hrep k) v hv
 let cf : Fin (l + 1) → Fin (l + 1) → Int := fun x y => Extern.BytealgCompare.cmp (bs (at_ x).Key) (bs (at_ y).Key)
 have hlt : ∀ x y, ltOf cf x y = cm (at_ x).Key (at_ y).Key := fun x y => by
  show decide (Extern.BytealgCompare.cmp (bs (at_ x).Key) (bs (at_ y).Key) < 0) = _
  rw [cmp_eq (hin x) (hin y)]
  cases hc : cm (at_ x).Key (at_ y).Key with
  | true => rw [if_pos rfl]; rfl
  | false => rw [if_neg (by simp)]; split <;> rfl
 have swo : SWO (ltOf cf) := {
  irrefl := fun x => by rw [hlt]; exact cm_irr _
  trans := fun x y z h1 h2 => by rw [hlt] at *; exact cm_tr h1 h2
  ntrans := fun x y z h1 h2 => by rw [hlt] at *; exact cm_ntr h1 h2 }
 have tot : ∀ x y, ltOf cf x y = false → ltOf cf y x = false → x = y := fun x y g1 g2 => by
  rw [hlt] at g1 g2
  have hx : x.val < xs.length := by have := x.isLt; omega
  have hy : y.val < xs.length := by have := y.isLt; omega
  have ex : at_ x = xs[x.val] := by show xs.getD x.val default = _; rw [List.getD_eq_getElem?_getD, List.getElem?_eq_getElem hx]; rfl
  have ey : at_ y = xs[y.val] := by show xs.getD y.val default = _; rw [List.getD_eq_getElem?_getD, List.getElem?_eq_getElem hy]; rfl
  rw [ex, ey] at g1 g2
  have e : (xs.map (·.Key))[x.val]'(by simpa using hx) = (xs.map (·.Key))[y.val]'(by simpa using hy) := by rw [List.getElem_map, List.getElem_map]; exact cm_tri g1 g2
  exact Fin.ext ((List.getElem_inj hn).1 e)
 let d : Array (Fin (l + 1)) := (List.finRange (l + 1)).toArray
 have hd : d.size = l + 1 := by simp [d]
 have hdk : ∀ k (h : k < d.size), d[k]! = ⟨k, by omega⟩ := fun k h => by
  rw [getElem!_pos d k h]; simp [d]
 have hat' := hat
 obtain ⟨b, off, cur, ty, fz, rfl, hbk, hc, hcells, hfree⟩ := hat
 have hlt0 := lt_of_get hbk
 have hlen4 : xs.length * 3 ≤ cs.length := by rw [hcl]; exact Nat.mul_le_mul_right _ h2
 have flat : ∀ t, t < (l + 1) * 3 → (flatK en 3 d)[t]! = cs.getD t undef := fun t ht => by
  rw [get_flatK _ _ _ _ (by rw [hd]; exact ht), hdk _ (by rw [hd]; omega)]
  show ((cs.drop (t / 3 * 3)).take 3)[t % 3]! = _
  have e := sub_block_ine (cs := cs) (n := t / 3) (sz := 3) (q := t % 3) (Nat.mod_lt _ (by decide)) _ rfl
  have e3 : t / 3 * 3 + t % 3 = t := Nat.div_add_mod' t 3
  rw [e3] at e
  rw [List.getD_eq_getElem?_getD, e, List.getElem?_eq_getElem (by simp; omega), getElem!_pos]
  rfl
 have hH : HoldsK en 3 w0 b off d := fun t ht => by
  have ht' : t < (l + 1) * 3 := by rw [size_flatK, hd] at ht; exact ht
  rw [flat t ht']
  refine ⟨?_, ?_⟩
  ·rw [← add_eq, hat'.cell (List.getElem?_eq_getElem (by omega))]
   rw [List.getD_eq_getElem?_getD, List.getElem?_eq_getElem (by omega)]
   rfl
  ·rw [← add_eq]; exact hat'.free (by omega)
 have eg : ∀ args w, (callFunc 54 args).run Try.prog w = .ok (.enter 54 args) w := enters_of Try.func54 (by kernel_rfl) rfl
 have old : ∀ n (τ : Array (Fin (l + 1))) os k, k < w0.heap.size → b ≠ k → (sortWorldK en 3 w0 b off n τ os).heap[k]? = w0.heap[k]? := fun n τ os k hk hne => by
  unfold sortWorldK
  rw [heap_grow_old _ _ (by simpa [putRowK, putRow, mapBlock, Sort.ahead] using hk)]
  simp [putRowK, putRow, mapBlock, Sort.ahead, Array.getElem?_modify, hne]
 have hE : ∀ n (τ : Array (Fin (l + 1))) os, Ev (fun x => x = j1) c0 w0 (fun k => if k < w0.heap.size then c0 k else j1) (sortWorldK en 3 w0 b off n τ os) := fun n τ os => ⟨rfl, rfl, rfl, by simp [sortWorldK, grow, putRowK, putRow, mapBlock, Sort.ahead], fun k hk => if_pos hk, fun k hk hm => old n τ os k hk (fun q => hm (by rw [← q]; exact hc))⟩
 have hcmp : CmpLays Try.prog 54 #[] en 3 cf b off d.size w0 := fun mm os dk _ x y => by
  have gx := hrep x
  have gy := hrep y
  obtain ⟨A1, C1, e1, f1⟩ := gx
  obtain ⟨A2, C2, e2, f2⟩ := gy
  rw [e1, e2]
  exact closure_ine (f1.ev (hE mm dk os) (by omega) (by omega)) (f2.ev (hE mm dk os) (by omega) (by omega))
 have hcall := AnyQ.slices_SortFunc_total Try.sortLines 3 Try.isAgg63 Try.sizeOf63 en hk3 h1 cf swo 54 #[] b off C3 d w0 eg hcmp hH hlt0 (by rw [hd]; omega) tot
 rw [hl, ← hd]
 change Calls Try.prog 53 #[.slice (some ⟨b, off, none⟩) d.size C3, .func (.func 54) #[] #[]] w0 _ at hcall
 refine hcall.mono ?_
 rintro e w' ⟨rfl, n, os, rfl⟩
 generalize hσ : (d.toList.mergeSort fun x y => !ltOf cf y x) = σ
 have hperm : σ.Perm (List.finRange (l + 1)) := by rw [← hσ]; exact List.mergeSort_perm _ _
 have hsl : σ.length = l + 1 := by rw [hperm.length_eq]; simp
 have hfs : (flatK en 3 σ.toArray).size = (l + 1) * 3 := by rw [size_flatK]; simp [hsl]
 have new : (sortWorldK en 3 w0 b off n σ.toArray os).heap[b]? = some (.cells (putCells id off (flatK en 3 σ.toArray) cur) ty fz) := by
  unfold sortWorldK
  rw [heap_grow_old _ _ (by simpa [putRowK, putRow, mapBlock, Sort.ahead] using hlt0)]
  simp [putRowK, putRow, mapBlock, Sort.ahead, Array.getElem?_modify, hbk, onCells]
 refine ⟨_, σ.map at_, rfl, hE n _ os, fun k _ => ?_, ?_, ?_, ?_⟩
 ·show (if k < w0.heap.size then c0 k else j1) < m
  split
  ·exact B0 k (by assumption)
  ·exact bj1.2
 ·have hcur : ∀ t, t < C3 * 3 → off + t < cur.size := fun t ht => by
   have := hcells t (by omega)
   rw [List.getElem?_eq_getElem (by omega)] at this
   exact (Array.getElem?_eq_some_iff.1 this).1
  refine ⟨(flatK en 3 σ.toArray).toList ++ cs.drop ((l + 1) * 3), by simp [hsl]; omega, h3, by simp only [List.length_append, Array.length_toList, hfs, List.length_drop]; show _ = C3 * 3; omega, .inr ⟨_, rfl, b, off, _, ty, fz, rfl, new, by show (if b < w0.heap.size then c0 b else j1) = j1; rw [if_pos hlt0]; exact hc, fun k hk => ?_, fun q k hk => hfree q k (by simp only [List.length_append, Array.length_toList, hfs, List.length_drop] at hk; omega)⟩, fun k hk => ?_⟩
  ·simp only [List.length_append, Array.length_toList, hfs, List.length_drop] at hk
   simp only [putCells, Array.getElem?_mapIdx]
   have hck := hcur k (by omega)
   rw [Array.getElem?_eq_getElem hck]
   simp only [Option.map_some, hfs]
   by_cases cc : k < (l + 1) * 3
   ·rw [if_pos (by omega), List.getElem?_append_left (by rw [Array.length_toList, hfs]; exact cc)]
    have e : off + k - off = k := by omega
    rw [e, Array.getElem?_toList, Array.getElem?_eq_getElem (by rw [hfs]; exact cc), getElem!_pos _ k (by rw [hfs]; exact cc)]
    rfl
   ·rw [if_neg (by omega), List.getElem?_append_right (by rw [Array.length_toList, hfs]; omega), List.getElem?_drop, Array.length_toList, hfs]
    have e : (l + 1) * 3 + (k - (l + 1) * 3) = k := by omega
    rw [e, ← hcells k (by omega), Array.getElem?_eq_getElem hck]
  ·have hk' : k < σ.length := by simpa using hk
   show K_api_Line.rep 0 _ _ ((((flatK en 3 σ.toArray).toList ++ cs.drop ((l + 1) * 3)).drop (k * 3)).take 3) (σ.map at_)[k]
   have hle : (k + 1) * 3 ≤ (l + 1) * 3 := Nat.mul_le_mul_right _ (by omega)
   have e1 : (((flatK en 3 σ.toArray).toList ++ cs.drop ((l + 1) * 3)).drop (k * 3)).take 3 = en σ[k] := by
    apply List.ext_getElem?
    intro q
    by_cases hq : q < 3
    ·rw [List.getElem?_take_of_lt hq, List.getElem?_drop, List.getElem?_append_left (by rw [Array.length_toList, hfs]; omega), Array.getElem?_toList, Array.getElem?_eq_getElem (by rw [hfs]; omega)]
     have e2 := get_flatK en 3 σ.toArray (k * 3 + q) (by simp [hsl]; omega)
     rw [getElem!_pos _ _ (by rw [hfs]; omega)] at e2
     rw [e2]
     have e3 : (k * 3 + q) / 3 = k := by omega
     have e4 : (k * 3 + q) % 3 = q := by omega
     rw [e3, e4]
     have e5 : σ.toArray[k]! = σ[k] := by rw [getElem!_pos _ k (by simpa using hk')]; simp
     rw [e5, getElem!_pos _ q (by rw [hk3]; exact hq), List.getElem?_eq_getElem (by rw [hk3]; exact hq)]
    ·rw [List.getElem?_eq_none (by simp; omega), List.getElem?_eq_none (by rw [hk3]; omega)]
   rw [e1, List.getElem_map]
   exact K_api_Line.ev (hrep σ[k]) (hE n _ os) (by omega)
 ·have e1 : xs = (List.finRange (l + 1)).map at_ := by
   apply List.ext_getElem
   ·simp [hl]
   ·intro k a b
    simp only [List.getElem_map, List.getElem_finRange]
    show _ = xs.getD k default
    rw [List.getD_eq_getElem?_getD, List.getElem?_eq_getElem a]
    rfl
  have := hperm.map at_
  rw [← e1] at this
  exact this
 ·unfold SrtK
  rw [List.pairwise_map]
  have hsrt : σ.Pairwise (fun x y => (!ltOf cf y x) = true) := by
   rw [← hσ]
   exact List.pairwise_mergeSort (le := fun x y => !ltOf cf y x) (fun a b c g1 g2 => by
    rw [hlt] at *
    simp only [Bool.not_eq_true'] at *
    exact cm_ntr g2 g1) (fun a b => by
    rw [hlt, hlt]
    cases h : cm (at_ b).Key (at_ a).Key with
    | false => rfl
    | true => rw [cm_asym h]; rfl) _
  have hnd : σ.Nodup := hperm.nodup_iff.2 (List.nodup_finRange _)
  refine (List.Pairwise.and hsrt hnd).imp fun {x y} hxy => ?_
  obtain ⟨g1, g2⟩ := hxy
  have g3 : ltOf cf y x = false := by simpa using g1
  cases hq : ltOf cf x y with
  | true => rw [hlt] at hq; exact hq
  | false => exact absurd (tot x y hq g3) g2
theorem slices_SortLine.calls {m : Nat} {c0 : Nat → Nat} {w0 : World} {j1 : Nat} {A2 : Option Addr} {C3 : Nat} {a1 : List api_Line} (hm0 : 0 < m) (B0 : CB m c0 w0) (h4 : SL true K_api_Line j1 0 c0 w0 A2 C3 a1) (bj1 : 0 < j1 ∧ j1 < m) (r : List api_Line) (H : slices_SortLine.f a1 = some r) :
  Calls Try.prog 53 #[.slice A2 a1.length C3, .func (.func 54) #[] #[]] w0 (fun e w_ => ∃ (c_ : Nat → Nat), e = .returned (.tuple #[]) ∧ Ev (fun x => x = j1) c0 w0 c_ w_ ∧ CB m c_ w_ ∧ SL true K_api_Line j1 0 c_ w_ A2 C3 r ∧ r.length = a1.length) := by
 unfold slices_SortLine.f at H
 obtain ⟨⟨g0, g1, g2⟩, H⟩ := ifN H
 have H := Option.some.inj H
 refine (sort_keyed_ine B0 h4 bj1 g2 (fun x hx n hn => g0 x hx n hn) g1).mono ?_
 rintro e w' ⟨c_, ys, rfl, E, B, h, hp, hs⟩
 have := srtK_eq g1 hp hs
 rw [H] at this
 subst this
 exact ⟨c_, rfl, E, B, h, hp.length_eq⟩
end Go.Proofs.Ytdnaoecfnjalgaa.G
namespace Go.Proofs.Ytdnaoecfnjalgaa.G
open Go Go.RowKit
set_option linter.unusedVariables false
set_option linter.unusedSimpArgs false
set_option maxRecDepth 100000
set_option maxHeartbeats 40000000
theorem merkle_hold.calls (k : Nat) {m : Nat} {c0 : Nat → Nat} {w0 : World} {j5 : Nat} {j10 : Nat} {A2 : Option Addr} {C3 : Nat} {A7 : Option Addr} {C8 : Nat} {a1 : List api_Row} {a6 : List api_Row} {a11 : Int} (hm0 : 0 < m) (B0 : CB m c0 w0) (h4 : SL false K_api_Row j5 0 c0 w0 A2 C3 a1) (h9 : SL false K_api_Row j10 0 c0 w0 A7 C8 a6) (bj5 : j5 < m) (bj10 : j10 < m) (jr527 : Nat) (bjr527 : jr527 < m) (r : (List api_Line)) (H : merkle_hold.f k a1 a6 a11 = some r) : Calls Try.prog 52 #[.slice A2 a1.length C3, .slice A7 a6.length C8, .int .i64 a11] w0 (fun e w_ => ∃ (c_ : Nat → Nat) (A0_ : Option Addr) (C0_ : Nat), e = .returned (.slice A0_ r.length C0_) ∧ Ev (fun x => False) c0 w0 c_ w_ ∧ CB m c_ w_ ∧ SL true K_api_Line jr527 0 c_ w_ A0_ C0_ r) := by
 unfold merkle_hold.f at H; have B := B0.mono (show m ≤ m + 3 by omega); have E : Ev (fun x => False ∨ m ≤ x) c0 w0 c0 w0 := Ev.refl; refine enter (N := 79) (l := [.slice A2 a1.length C3, .slice A7 a6.length C8, .int .i64 a11]) Try.func52 rfl rfl (nb rfl) fun a F => ?_; refine sr fun K12 hK12 => qa F fun a F => nil (hK12 _ _ ?_); refine sr fun K13 hK13 => qa F fun a F => nil (hK13 _ _ ?_); refine sq fun K14 hK14 => ?_; refine wp_block ?_; obtain ⟨x287, HL, HR286⟩ := bind_some H; have J523 : ∀ (c524 : Nat → Nat) (w525 : World) (a : Act) (l520 : List api_Line) (A521 : Option Addr) (C522 : Nat), Fr a 79 [(7, .slice A521 l520.length C522)] → Ev (fun x => False ∨ m ≤ x) c0 w0 c524 w525 → CB (m + 3) c524 w525 → SL true K_api_Line (m + 2) 0 c524 w525 A521 C522 l520 → merkle_hold.j12 l520 = some r → K14 a w525 := by
  intro c524 w525 a l520 A521 C522 F E B h519 H; unfold merkle_hold.j12 at H; refine hK14 _ _ ?_; refine sr fun K526 hK526 => qm F fun a F => qa F fun a F => nil (hK526 _ _ ?_); refine wp_ret ?_; obtain rfl := si H; refine out1 F rfl rfl ?_; exact ⟨cf (fun x_ => if x_ = m + 2 then jr527 else if x_ < m then x_ else 0) c524, A521, C522, rfl, E.lv B0, cfb, SL.rc h519 cfk cfk⟩
 refine loop_fuel (I := fun n a w => ∃ (l266 : List api_Row) (A267 : Option Addr) (C268 : Nat) (l270 : List api_Row) (A271 : Option Addr) (C272 : Nat) (l274 : List api_Line) (A275 : Option Addr) (C276 : Nat) (c : Nat → Nat), Fr a 79 [(0, .slice A267 l266.length C268), (1, .slice A271 l270.length C272), (2, .int .i64 a11), (7, .slice A275 l274.length C276)] ∧ Ev (fun x => False ∨ m ≤ x) c0 w0 c w ∧ CB (m + 3) c w ∧ SL false K_api_Row j5 0 c w A267 C268 l266 ∧ SL false K_api_Row j10 0 c w A271 C272 l270 ∧ SL true K_api_Line (m + 2) 0 c w A275 C276 l274 ∧ loop (fun (s_ : (List api_Row) × (List api_Row) × (List api_Line)) => merkle_hold.b11 k a11 s_.1 s_.2.1 s_.2.2) n (l266, l270, l274) = some x287) (k := k) ⟨a1, A2, C3, a6, A7, C8, [], none, 0, c0, F.sub ⟨rfl, rfl, rfl, rfl, trivial⟩, E, B, h4, h9, SL.nil, HL⟩ ?_; clear HL H E F B; intro n284 X280 hX280 a w279 ⟨l266, A267, C268, l270, A271, C272, l274, A275, C276, c278, F, E, B, h269, h273, h277, HL⟩; obtain ⟨n285, ctl283, rfl, HB, HN281, HD282⟩ := loop_some HL; have H : merkle_hold.b11 k a11 l266 l270 l274 = some ctl283 := HB; clear HB HL; unfold merkle_hold.b11 at H
 as_aux_lemma =>
 refine sq fun K288 hK288 => ?_; refine sq fun K289 hK289 => ?_; have J292 : ∀ (c293 : Nat → Nat) (w294 : World) (a : Act) (b291 : Bool), Fr a 79 [(0, .slice A267 l266.length C268), (1, .slice A271 l270.length C272), (2, .int .i64 a11), (7, .slice A275 l274.length C276), (17, .bool b291)] → Ev (fun x => False ∨ m ≤ x) c0 w0 c293 w294 → CB (m + 3) c293 w294 → SL false K_api_Row j5 0 c293 w294 A267 C268 l266 → SL false K_api_Row j10 0 c293 w294 A271 C272 l270 → SL true K_api_Line (m + 2) 0 c293 w294 A275 C276 l274 → merkle_hold.j6 k a11 l266 l270 l274 b291 = some ctl283 → K289 a w294 := by
  intro c293 w294 a b291 F E B h269 h273 h277 H; unfold merkle_hold.j6 at H; refine hK289 _ _ ?_
  by_cases hb295 : b291 = true
  ·replace H := ip hb295 H; refine wct (fb F hb295) (wp_skip (hK288 _ _ ?_)); refine wp_block ?_; refine sr fun K296 hK296 => qa F fun a F => nil (hK296 _ _ ?_); refine sq fun K297 hK297 => ?_; have J338 : ∀ (c339 : Nat → Nat) (w340 : World) (a : Act) (i337 : Int), Fr a 79 [(0, .slice A267 l266.length C268), (1, .slice A271 l270.length C272), (2, .int .i64 a11), (7, .slice A275 l274.length C276), (8, .int .i64 i337)] → Ev (fun x => False ∨ m ≤ x) c0 w0 c339 w340 → CB (m + 3) c339 w340 → SL false K_api_Row j5 0 c339 w340 A267 C268 l266 → SL false K_api_Row j10 0 c339 w340 A271 C272 l270 → SL true K_api_Line (m + 2) 0 c339 w340 A275 C276 l274 → merkle_hold.j7 k a11 l266 l270 l274 i337 = some ctl283 → K297 a w340 := by
    intro c339 w340 a i337 F E B h269 h273 h277 H; unfold merkle_hold.j7 at H; refine hK297 _ _ ?_; refine sr fun K341 hK341 => ?_; refine q_eff F rfl rfl (by decide) (e_alloc F zv_63 c339 (m + 1)) ?_; rintro v w343 a ⟨c342, qa91, rfl, E344, h93, B345⟩ F; replace B := B345 _ B lm; replace h269 := h269.ev E344; replace h273 := h273.ev E344; replace h277 := h277.ev E344
    as_aux_lemma =>
    replace E := E.n E344; replace h93 : AT _ _ _ _ _ [.slice none 0 0, .int .u64 0, .int .u64 0] := h93; refine nil (hK341 _ _ ?_); refine sq fun K346 hK346 => ?_; have J413 : ∀ (c414 : Nat → Nat) (w415 : World) (a : Act) (l407 : List api_Row) (A404 : Option Addr) (C405 : Nat) (l411 : List Int) (A408 : Option Addr) (C409 : Nat) (i412 : Int), Fr a 79 [(0, .slice A404 l407.length C405), (1, .slice A271 l270.length C272), (2, .int .i64 a11), (7, .slice A275 l274.length C276), (8, .int .i64 i337), (9, .pointer (some qa91))] → Ev (fun x => False ∨ m ≤ x) c0 w0 c414 w415 → CB (m + 3) c414 w415 → AT true (m + 1) c414 w415 qa91 [.slice A408 l411.length C409, .int .u64 i412, .int .u64 0] → SL false K_api_Row j10 0 c414 w415 A271 C272 l270 → SL true K_api_Line (m + 2) 0 c414 w415 A275 C276 l274 → SL false K_api_Row j5 0 c414 w415 A404 C405 l407 → SL true (Kint .u8) 0 0 c414 w415 A408 C409 l411 → merkle_hold.j8 k a11 l270 l274 i337 l407 l411 i412 = some ctl283 → K346 a w415 := by
     intro c414 w415 a l407 A404 C405 l411 A408 C409 i412 F E B h93 h273 h277 h406 h410 H; unfold merkle_hold.j8 at H; refine hK346 _ _ ?_; refine sq fun K416 hK416 => ?_; have J483 : ∀ (c484 : Nat → Nat) (w485 : World) (a : Act) (l477 : List api_Row) (A474 : Option Addr) (C475 : Nat) (l481 : List Int) (A478 : Option Addr) (C479 : Nat) (i482 : Int), Fr a 79 [(0, .slice A404 l407.length C405), (1, .slice A474 l477.length C475), (2, .int .i64 a11), (7, .slice A275 l274.length C276), (8, .int .i64 i337), (9, .pointer (some qa91))] → Ev (fun x => False ∨ m ≤ x) c0 w0 c484 w485 → CB (m + 3) c484 w485 → AT true (m + 1) c484 w485 qa91 [.slice A478 l481.length C479, .int .u64 i412, .int .u64 i482] → SL false K_api_Row j5 0 c484 w485 A404 C405 l407 → SL true K_api_Line (m + 2) 0 c484 w485 A275 C276 l274 → SL false K_api_Row j10 0 c484 w485 A474 C475 l477 → SL true (Kint .u8) 0 0 c484 w485 A478 C479 l481 → merkle_hold.j9 l274 i337 l407 i412 l477 l481 i482 = some ctl283 → K416 a w485 := by
      intro c484 w485 a l477 A474 C475 l481 A478 C479 i482 F E B h93 h406 h277 h476 h480 H; unfold merkle_hold.j9 at H; refine hK416 _ _ ?_; refine sq fun K486 hK486 => ?_; have J489 : ∀ (c490 : Nat → Nat) (w491 : World) (a : Act) (b488 : Bool), Fr a 79 [(0, .slice A404 l407.length C405), (1, .slice A474 l477.length C475), (2, .int .i64 a11), (7, .slice A275 l274.length C276), (9, .pointer (some qa91)), (73, .bool b488)] → Ev (fun x => False ∨ m ≤ x) c0 w0 c490 w491 → CB (m + 3) c490 w491 → AT true (m + 1) c490 w491 qa91 [.slice A478 l481.length C479, .int .u64 i412, .int .u64 i482] → SL false K_api_Row j5 0 c490 w491 A404 C405 l407 → SL false K_api_Row j10 0 c490 w491 A474 C475 l477 → SL true K_api_Line (m + 2) 0 c490 w491 A275 C276 l274 → SL true (Kint .u8) 0 0 c490 w491 A478 C479 l481 → merkle_hold.j10 l274 l407 i412 l477 l481 i482 b488 = some ctl283 → K486 a w491 := by
       intro c490 w491 a b488 F E B h93 h406 h476 h277 h480 H; unfold merkle_hold.j10 at H; refine hK486 _ _ ?_
       by_cases hb492 : b488 = true
       ·replace H := ip hb492 H; refine wct (fb F hb492) ?_; refine reg ?_; refine qm F fun a F => ?_
        as_aux_lemma =>
        refine qv F (r_loads (cs := [.slice A478 l481.length C479, .int .u64 i412, .int .u64 i482]) F rfl ag_63 sz_63 h93) fun a F => ?_; refine q_eff F rfl rfl (by decide) (e_buildSlice (n := 1) (e := 63) (c := c490) (k := K_api_Line) (i := 0) F [(0, .agg #[.slice A478 l481.length C479, .int .u64 i412, .int .u64 i482])] [.slice A478 l481.length C479, .int .u64 i412, .int .u64 i482] ([api_Line.mk l481 i412 i482] : List api_Line) (by exact ⟨rfl, rfl, trivial⟩) (fun w => by kernel_rfl) rfl (by decide) rfl ⟨⟨A478, C479, rfl, (SL.fl h480.r (fun q => q))⟩, trivial⟩ (fun q => q) 0) ?_; rintro v w494 a ⟨c493, A495, C496, rfl, E497, h498, B499⟩ F; replace B := B499 _ B (pl hm0); replace h406 := h406.ev E497; replace h476 := h476.ev E497; replace h277 := h277.ev E497; replace E := E.n E497; replace H := ifN H; obtain ⟨g258, H⟩ := H; refine q_eff F rfl rfl (by decide) (e_append (k := K_api_Line) (xs := l274) (ys := [api_Line.mk l481 i412 i482]) (c := c493) (j := (m + 2)) (i := 0) F et_59 rfl rfl h277 h498 g258 (len_ok g258) ne_zm) ?_; rintro v w501 a ⟨c500, A502, C503, rfl, E504, h505, B506⟩ F; replace B := B506 _ B lm; replace h406 := h406.ev E504 (ne_pm bj5) ne_zm; replace h476 := h476.ev E504 (ne_pm bj10) ne_zm; replace E := E.trans E504 lc1; refine qa F fun a F => nil ?_; replace H := HN281 _ (si H).symm; exact hX280 _ _ _ (Nat.lt_succ_self _) ⟨l407, A404, C405, l477, A474, C475, (l274 ++ [api_Line.mk l481 i412 i482]), A502, C503, c500, F.sub ⟨rfl, rfl, rfl, rfl, trivial⟩, E, B, h406, h476, h505, H⟩
       replace H := im hb492 H; refine wcf (fb F (bfalse hb492)) ?_; refine wp_skip ?_
       as_aux_lemma =>
       replace H := HN281 _ (si H).symm; exact hX280 _ _ _ (Nat.lt_succ_self _) ⟨l407, A404, C405, l477, A474, C475, l274, A275, C276, c490, F.sub ⟨rfl, rfl, rfl, rfl, trivial⟩, E, B, h406, h476, h277, H⟩
      refine reg ?_; refine qm F fun a F => ?_; refine qv F (r_neq F rfl rfl) fun a F => ?_; refine qm F fun a F => ?_
      by_cases hb487 : i337 = 0
      ·replace H := ip hb487 H; refine qy F (congrArg not (dt hb487)) ?_; refine qf F ff_63_1 fun a F => ?_; refine qy F (congrArg not (dt hb487)) ?_; refine ql F ag_30 h93 fun a F => ?_; refine qy F (congrArg not (dt hb487)) ?_; refine qf F ff_63_2 fun a F => ?_; refine qy F (congrArg not (dt hb487)) ?_; refine ql F ag_30 h93 fun a F => ?_; refine qy F (congrArg not (dt hb487)) ?_; refine qv F (r_neq F rfl rfl) fun a F => ?_; refine qv F (r_pick_f F rfl (congrArg not (dt hb487)) rfl) fun a F => ?_; refine nil ?_; exact J489 c484 w485 a (!decide (i412 = i482)) (F.sub ⟨rfl, rfl, rfl, rfl, rfl, rfl, trivial⟩) E B h93 h406 h476 h277 h480 H
      replace H := im hb487 H; refine qn F (congrArg not (dz hb487)) fun a F => qn F (congrArg not (dz hb487)) fun a F => qn F (congrArg not (dz hb487)) fun a F => qn F (congrArg not (dz hb487)) fun a F => qn F (congrArg not (dz hb487)) fun a F => ?_
      as_aux_lemma =>
      refine qv F (r_pick_t F rfl (congrArg not (dz hb487)) rfl) fun a F => ?_; refine nil ?_; exact J489 c484 w485 a true (F.sub ⟨rfl, rfl, rfl, rfl, rfl, rfl, trivial⟩) E B h93 h406 h476 h277 h480 H
     refine sr fun K417 hK417 => qm F fun a F => ?_; refine qv F (r_geq F rfl rfl) fun a F => ?_; refine nil (hK417 _ _ ?_)
     by_cases hb418 : 0 ≤ i337
     ·replace H := ip hb418 H; refine wct (fb F (dt hb418)) ?_; refine sq fun K419 hK419 => ?_; refine regD (SB (fun x => x = m + 1) c414 w415) 13 (.q 0 (.q 1 (.q 2 (.q 3 (.q 5 (.q 6 (.q 7 (.q 8 (.e 4 (.q 10 (.e 9 (.e 11 (.q 12 (.e 13 .nil)))))))))))))) Try_hm (by decide +kernel) ?_; intro w420 w1_ w2_ w3_ w4_; have E421 : Ev No c414 w415 c414 w420 := Ev.same w1_ w2_ w3_ w4_; replace B := B.same w1_; have zh273 := h273; have ER : Ev (fun x => x = m + 1) c414 w415 c414 w420 := Ev.same w1_ w2_ w3_ w4_; replace h93 := h93.ev E421; replace h273 := h273.ev E421; replace h277 := h277.ev E421; replace h406 := h406.ev E421; replace E := E.n E421; refine dm F ER.sb fun a F => ?_; replace H := ifN H; obtain ⟨g422, H⟩ := H; obtain ⟨ad423, cs424, e425, h426, r427⟩ := SL.at zh273 0 g422.1 g422.2; obtain ⟨A428, C429, A431, C432, rfl, h430, h433⟩ := r427
      as_aux_lemma =>
      replace h430 := SL.fl (i' := 0) h430 (fun q => q); obtain ⟨qa434, qqa434⟩ : ∃ q, q = (ad423.add ((0 : Int).toNat * 3)) := ⟨_, rfl⟩; have h426 : AT false j10 c414 w415 qa434 [.slice A428 ((rd l270 0).Key).length C429, .slice A431 ((rd l270 0).Value).length C432, .int .i64 ((rd l270 0).Rev)] := by rw [qqa434]; exact h426
      replace h430 := h430.ev ER ne_zm ne_zm; have zh426 := h426; refine dq F (fun wq hS => r_indexAddr' F Try.underlying27 sz_36 rfl rfl g422.1 g422.2 e425 qqa434) ER.sb fun a F => ?_; refine df F ff_36_0 ER.sb fun a F => ?_; refine dq F (fun wq hS => r_load F rfl ag_23 (AT.cell (AT.sb zh426 hS (ne_pm bj10)) rfl)) ER.sb fun a F => ?_; refine dm F ER.sb fun a F => ?_; replace H := ifN H; obtain ⟨g436, H⟩ := H; obtain ⟨ad437, cs438, e439, h440, r441⟩ := SL.at zh273 0 g436.1 g436.2; obtain ⟨A442, C443, A445, C446, rfl, h444, h447⟩ := r441; replace h444 := SL.fl (i' := 0) h444 (fun q => q); replace h447 := SL.fl (i' := 0) h447 (fun q => q); obtain ⟨qa448, qqa448⟩ : ∃ q, q = (ad437.add ((0 : Int).toNat * 3)) := ⟨_, rfl⟩; have h440 : AT false j10 c414 w415 qa448 [.slice A442 ((rd l270 0).Key).length C443, .slice A445 ((rd l270 0).Value).length C446, .int .i64 ((rd l270 0).Rev)] := by rw [qqa448]; exact h440
      replace h444 := h444.ev ER ne_zm ne_zm; replace h447 := h447.ev ER ne_zm ne_zm; have zh440 := h440; refine dq F (fun wq hS => r_indexAddr' F Try.underlying27 sz_36 rfl rfl g436.1 g436.2 e439 qqa448) ER.sb fun a F => ?_; refine dq F (fun wq hS => r_loads (cs := [.slice A442 ((rd l270 0).Key).length C443, .slice A445 ((rd l270 0).Value).length C446, .int .i64 ((rd l270 0).Rev)]) F rfl ag_36 sz_36 (AT.sb zh440 hS (ne_pm bj10))) ER.sb fun a F => ?_
      as_aux_lemma =>
      refine dm F ER.sb fun a F => ?_; refine d_e ?_; obtain ⟨t204, q205, H⟩ := bind_some H; refine oc F Try.func62 (bytes_Clone.calls (m := m + 3) (pl hm0) B h430 (by omega) 0 (pl hm0) _ q205) ?_; rintro e w451 ⟨c450, A454, C455, rfl, E452, B, h456⟩; refine rt fun a F => ?_; replace ER := ER.trans E452 nx; replace h93 := h93.ev E452; replace h273 := h273.ev E452; replace h277 := h277.ev E452; replace h406 := h406.ev E452; replace h444 := h444.ev E452; replace h447 := h447.ev E452; replace E := E.n E452; refine ⟨fun _ => ER.sb, ?_⟩; refine df F ff_63_0 ER.sb fun a F => ?_; refine d_e ?_; obtain ⟨t214, q215, H⟩ := bind_some H; refine oc F Try.func60 (merkle_ofRow.calls k (m := m + 3) (pl hm0) B h444 h447 _ q215) ?_; rintro e w459 ⟨c458, rfl, E460, B⟩; refine rt fun a F => ?_; replace ER := ER.trans E460 nx
      as_aux_lemma =>
      replace h93 := h93.ev E460; replace h273 := h273.ev E460; replace h277 := h277.ev E460; replace h406 := h406.ev E460; replace h456 := h456.ev E460; replace E := E.n E460; refine ⟨fun _ => ER.sb, ?_⟩; refine d_e ?_; refine o_eff0 F rfl rfl rfl (e_store F rfl rfl sz_23 h93 (nb rfl) rfl) ?_; rintro w463 a ⟨E464, h93, Z465⟩ F; replace B := B.size Z465; replace ER := ER.trans E464 (fun x q => by replace q : x = m + 1 := q; show x = m + 1; omega); replace h273 := h273.ev E464 (ne_pm bj10) ne_zm; replace h277 := h277.ev E464; replace h406 := h406.ev E464 (ne_pm bj5) ne_zm; replace h456 := h456.ev E464; replace E := E.trans E464 lc1; replace h93 : AT _ _ _ _ _ [.slice A454 t204.length C455, .int .u64 i412, .int .u64 0] := h93; refine ⟨fun _ => ER.sb, ?_⟩; refine df F ff_63_2 ER.sb fun a F => ?_; refine d_e ?_; refine o_eff0 F rfl rfl rfl (e_store F rfl rfl sz_30 h93 (nb rfl) rfl) ?_; rintro w466 a ⟨E467, h93, Z468⟩ F
      as_aux_lemma =>
      replace B := B.size Z468; replace h273 := h273.ev E467 (ne_pm bj10) ne_zm; replace h277 := h277.ev E467; replace h406 := h406.ev E467 (ne_pm bj5) ne_zm; replace h456 := h456.ev E467; replace E := E.trans E467 lc1; replace h93 : AT _ _ _ _ _ [.slice A454 t204.length C455, .int .u64 i412, .int .u64 t214] := h93; refine ⟨fun q => absurd rfl q, ?_⟩; refine d_nil ?_; refine hK419 _ _ ?_; replace F : Fr a 79 [(0, .slice A404 l407.length C405), (1, .slice A271 l270.length C272), (2, .int .i64 a11), (7, .slice A275 l274.length C276), (8, .int .i64 i337), (9, .pointer (some qa91))] := F.sub ⟨rfl, rfl, rfl, rfl, rfl, rfl, trivial⟩; refine reg ?_; refine qm F fun a F => ?_; replace H := ifN H; obtain ⟨g469, H⟩ := H; obtain ⟨A470, C471, r472, h473⟩ := cut_l (kl := .i64) Try.underlying27 sz_36 h273 g469; refine qv F (r_slice (vl := some (.int .i64 1)) (vh := none) (vm := none) F rfl rfl rfl rfl r472) fun a F => ?_; refine qa F fun a F => nil ?_; exact J483 c458 w466 a (l270.drop (1 : Int).toNat) A470 C471 t204 A454 C455 t214 (F.sub ⟨rfl, rfl, rfl, rfl, rfl, rfl, trivial⟩) E B h93 h406 h277 h473 h456 H
     replace H := im hb418 H; refine wcf (fb F (dz hb418)) ?_; refine wp_skip ?_; exact J483 c414 w415 a l270 A271 C272 l411 A408 C409 0 (F.sub ⟨rfl, rfl, rfl, rfl, rfl, rfl, trivial⟩) E B h93 h406 h277 h273 h410 H
    as_aux_lemma =>
    refine sr fun K347 hK347 => qm F fun a F => ?_; refine qv F (r_leq F rfl rfl) fun a F => ?_; refine nil (hK347 _ _ ?_)
    by_cases hb348 : i337 ≤ 0
    ·replace H := ip hb348 H; refine wct (fb F (dt hb348)) ?_; refine sq fun K349 hK349 => ?_; refine regD (SB (fun x => x = m + 1) c342 w343) 13 (.q 0 (.q 1 (.q 2 (.q 3 (.q 5 (.q 6 (.q 7 (.q 8 (.e 4 (.q 10 (.e 9 (.e 11 (.q 12 (.e 13 .nil)))))))))))))) Try_hm (by decide +kernel) ?_; intro w350 w1_ w2_ w3_ w4_; have E351 : Ev No c342 w343 c342 w350 := Ev.same w1_ w2_ w3_ w4_; replace B := B.same w1_; have zh269 := h269; have ER : Ev (fun x => x = m + 1) c342 w343 c342 w350 := Ev.same w1_ w2_ w3_ w4_; replace h269 := h269.ev E351; replace h273 := h273.ev E351; replace h277 := h277.ev E351; replace h93 := h93.ev E351; replace E := E.n E351; refine dm F ER.sb fun a F => ?_; replace H := ifN H; obtain ⟨g352, H⟩ := H; obtain ⟨ad353, cs354, e355, h356, r357⟩ := SL.at zh269 0 g352.1 g352.2; obtain ⟨A358, C359, A361, C362, rfl, h360, h363⟩ := r357
     as_aux_lemma =>
     replace h360 := SL.fl (i' := 0) h360 (fun q => q); obtain ⟨qa364, qqa364⟩ : ∃ q, q = (ad353.add ((0 : Int).toNat * 3)) := ⟨_, rfl⟩; have h356 : AT false j5 c342 w343 qa364 [.slice A358 ((rd l266 0).Key).length C359, .slice A361 ((rd l266 0).Value).length C362, .int .i64 ((rd l266 0).Rev)] := by rw [qqa364]; exact h356
     replace h360 := h360.ev ER ne_zm ne_zm; have zh356 := h356; refine dq F (fun wq hS => r_indexAddr' F Try.underlying27 sz_36 rfl rfl g352.1 g352.2 e355 qqa364) ER.sb fun a F => ?_; refine df F ff_36_0 ER.sb fun a F => ?_; refine dq F (fun wq hS => r_load F rfl ag_23 (AT.cell (AT.sb zh356 hS (ne_pm bj5)) rfl)) ER.sb fun a F => ?_; refine dm F ER.sb fun a F => ?_; replace H := ifN H; obtain ⟨g366, H⟩ := H; obtain ⟨ad367, cs368, e369, h370, r371⟩ := SL.at zh269 0 g366.1 g366.2; obtain ⟨A372, C373, A375, C376, rfl, h374, h377⟩ := r371; replace h374 := SL.fl (i' := 0) h374 (fun q => q); replace h377 := SL.fl (i' := 0) h377 (fun q => q); obtain ⟨qa378, qqa378⟩ : ∃ q, q = (ad367.add ((0 : Int).toNat * 3)) := ⟨_, rfl⟩; have h370 : AT false j5 c342 w343 qa378 [.slice A372 ((rd l266 0).Key).length C373, .slice A375 ((rd l266 0).Value).length C376, .int .i64 ((rd l266 0).Rev)] := by rw [qqa378]; exact h370
     replace h374 := h374.ev ER ne_zm ne_zm; replace h377 := h377.ev ER ne_zm ne_zm; have zh370 := h370; refine dq F (fun wq hS => r_indexAddr' F Try.underlying27 sz_36 rfl rfl g366.1 g366.2 e369 qqa378) ER.sb fun a F => ?_; refine dq F (fun wq hS => r_loads (cs := [.slice A372 ((rd l266 0).Key).length C373, .slice A375 ((rd l266 0).Value).length C376, .int .i64 ((rd l266 0).Rev)]) F rfl ag_36 sz_36 (AT.sb zh370 hS (ne_pm bj5))) ER.sb fun a F => ?_
     as_aux_lemma =>
     refine dm F ER.sb fun a F => ?_; refine d_e ?_; obtain ⟨t130, q131, H⟩ := bind_some H; refine oc F Try.func62 (bytes_Clone.calls (m := m + 3) (pl hm0) B h360 (by omega) 0 (pl hm0) _ q131) ?_; rintro e w381 ⟨c380, A384, C385, rfl, E382, B, h386⟩; refine rt fun a F => ?_; replace ER := ER.trans E382 nx; replace h269 := h269.ev E382; replace h273 := h273.ev E382; replace h277 := h277.ev E382; replace h93 := h93.ev E382; replace h374 := h374.ev E382; replace h377 := h377.ev E382; replace E := E.n E382; refine ⟨fun _ => ER.sb, ?_⟩; refine df F ff_63_0 ER.sb fun a F => ?_; refine d_e ?_; obtain ⟨t140, q141, H⟩ := bind_some H; refine oc F Try.func60 (merkle_ofRow.calls k (m := m + 3) (pl hm0) B h374 h377 _ q141) ?_; rintro e w389 ⟨c388, rfl, E390, B⟩; refine rt fun a F => ?_; replace ER := ER.trans E390 nx
     as_aux_lemma =>
     replace h269 := h269.ev E390; replace h273 := h273.ev E390; replace h277 := h277.ev E390; replace h93 := h93.ev E390; replace h386 := h386.ev E390; replace E := E.n E390; refine ⟨fun _ => ER.sb, ?_⟩; refine d_e ?_; refine o_eff0 F rfl rfl rfl (e_store F rfl rfl sz_23 h93 (nb rfl) rfl) ?_; rintro w393 a ⟨E394, h93, Z395⟩ F; replace B := B.size Z395; replace ER := ER.trans E394 (fun x q => by replace q : x = m + 1 := q; show x = m + 1; omega); replace h269 := h269.ev E394 (ne_pm bj5) ne_zm; replace h273 := h273.ev E394 (ne_pm bj10) ne_zm; replace h277 := h277.ev E394; replace h386 := h386.ev E394; replace E := E.trans E394 lc1; replace h93 : AT _ _ _ _ _ [.slice A384 t130.length C385, .int .u64 0, .int .u64 0] := h93; refine ⟨fun _ => ER.sb, ?_⟩; refine df F ff_63_1 ER.sb fun a F => ?_; refine d_e ?_; refine o_eff0 F rfl rfl rfl (e_store F rfl rfl sz_30 h93 (nb rfl) rfl) ?_; rintro w396 a ⟨E397, h93, Z398⟩ F
     as_aux_lemma =>
     replace B := B.size Z398; replace h269 := h269.ev E397 (ne_pm bj5) ne_zm; replace h273 := h273.ev E397 (ne_pm bj10) ne_zm; replace h277 := h277.ev E397; replace h386 := h386.ev E397; replace E := E.trans E397 lc1; replace h93 : AT _ _ _ _ _ [.slice A384 t130.length C385, .int .u64 t140, .int .u64 0] := h93; refine ⟨fun q => absurd rfl q, ?_⟩; refine d_nil ?_; refine hK349 _ _ ?_; replace F : Fr a 79 [(0, .slice A267 l266.length C268), (1, .slice A271 l270.length C272), (2, .int .i64 a11), (7, .slice A275 l274.length C276), (8, .int .i64 i337), (9, .pointer (some qa91))] := F.sub ⟨rfl, rfl, rfl, rfl, rfl, rfl, trivial⟩; refine reg ?_; refine qm F fun a F => ?_; replace H := ifN H; obtain ⟨g399, H⟩ := H; obtain ⟨A400, C401, r402, h403⟩ := cut_l (kl := .i64) Try.underlying27 sz_36 h269 g399; refine qv F (r_slice (vl := some (.int .i64 1)) (vh := none) (vm := none) F rfl rfl rfl rfl r402) fun a F => ?_; refine qa F fun a F => nil ?_; exact J413 c388 w396 a (l266.drop (1 : Int).toNat) A400 C401 t130 A384 C385 t140 (F.sub ⟨rfl, rfl, rfl, rfl, rfl, rfl, trivial⟩) E B h93 h273 h277 h403 h386 H
    replace H := im hb348 H; refine wcf (fb F (dz hb348)) ?_; refine wp_skip ?_; exact J413 c342 w343 a l266 A267 C268 [] none 0 0 (F.sub ⟨rfl, rfl, rfl, rfl, rfl, rfl, trivial⟩) E B h93 h273 h277 h269 SL.nil H
   as_aux_lemma =>
   refine wp_block ?_; refine sr fun K298 hK298 => qm F fun a F => ?_; refine qv F (r_lensl F Try.underlying27 rfl) fun a F => ?_; refine qv F (r_eql F rfl rfl) fun a F => ?_; refine qa F fun a F => nil (hK298 _ _ ?_)
   by_cases hb299 : (l266.length : Int) = 0
   ·replace H := ip hb299 H; refine wct (fb F (dt hb299)) ?_; refine reg ?_; refine qa F fun a F => nil ?_; exact J338 c293 w294 a 1 (F.sub ⟨rfl, rfl, rfl, rfl, rfl, trivial⟩) E B h269 h273 h277 H
   replace H := im hb299 H; refine wcf (fb F (dz hb299)) ?_; refine sr fun K300 hK300 => qm F fun a F => ?_; refine qv F (r_lensl F Try.underlying27 rfl) fun a F => ?_; refine qv F (r_eql F rfl rfl) fun a F => ?_; refine qa F fun a F => nil (hK300 _ _ ?_); replace F : Fr a 79 [(0, .slice A267 l266.length C268), (1, .slice A271 l270.length C272), (2, .int .i64 a11), (7, .slice A275 l274.length C276), (29, .bool (decide ((l270.length : Int) = 0)))] := F.sub ⟨rfl, rfl, rfl, rfl, rfl, trivial⟩
   by_cases hb301 : (l270.length : Int) = 0
   ·replace H := ip hb301 H; refine wct (fb F (dt hb301)) ?_; refine reg ?_; refine qa F fun a F => nil ?_; exact J338 c293 w294 a (-1) (F.sub ⟨rfl, rfl, rfl, rfl, rfl, trivial⟩) E B h269 h273 h277 H
   as_aux_lemma =>
   replace H := im hb301 H; refine wcf (fb F (dz hb301)) ?_; refine regD (SB No c293 w294) 8 (.q 0 (.q 1 (.q 2 (.q 3 (.q 4 (.q 5 (.e 6 (.q 7 .nil)))))))) Try_hm (by decide +kernel) ?_; intro w302 w1_ w2_ w3_ w4_; have E303 : Ev No c293 w294 c293 w302 := Ev.same w1_ w2_ w3_ w4_; replace B := B.same w1_; have zh269 := h269; have zh273 := h273; have ER : Ev No c293 w294 c293 w302 := Ev.same w1_ w2_ w3_ w4_; replace h269 := h269.ev E303; replace h273 := h273.ev E303; replace h277 := h277.ev E303; replace E := E.n E303; refine dm F ER.sb fun a F => ?_; replace H := ifN H; obtain ⟨g304, H⟩ := H; obtain ⟨ad305, cs306, e307, h308, r309⟩ := SL.at zh269 0 g304.1 g304.2; obtain ⟨A310, C311, A313, C314, rfl, h312, h315⟩ := r309; replace h312 := SL.fl (i' := 0) h312 (fun q => q); replace h315 := SL.fl (i' := 0) h315 (fun q => q); obtain ⟨qa316, qqa316⟩ : ∃ q, q = (ad305.add ((0 : Int).toNat * 3)) := ⟨_, rfl⟩; have h308 : AT false j5 c293 w294 qa316 [.slice A310 ((rd l266 0).Key).length C311, .slice A313 ((rd l266 0).Value).length C314, .int .i64 ((rd l266 0).Rev)] := by rw [qqa316]; exact h308
   as_aux_lemma =>
   replace h312 := h312.ev ER nq nq; replace h315 := h315.ev ER nq nq; have zh308 := h308; refine dq F (fun wq hS => r_indexAddr' F Try.underlying27 sz_36 rfl rfl g304.1 g304.2 e307 qqa316) ER.sb fun a F => ?_; refine dq F (fun wq hS => r_loads (cs := [.slice A310 ((rd l266 0).Key).length C311, .slice A313 ((rd l266 0).Value).length C314, .int .i64 ((rd l266 0).Rev)]) F rfl ag_36 sz_36 (AT.sb zh308 hS nq)) ER.sb fun a F => ?_; refine dm F ER.sb fun a F => ?_; replace H := ifN H; obtain ⟨g318, H⟩ := H; obtain ⟨ad319, cs320, e321, h322, r323⟩ := SL.at zh273 0 g318.1 g318.2; obtain ⟨A324, C325, A327, C328, rfl, h326, h329⟩ := r323; replace h326 := SL.fl (i' := 0) h326 (fun q => q); replace h329 := SL.fl (i' := 0) h329 (fun q => q); obtain ⟨qa330, qqa330⟩ : ∃ q, q = (ad319.add ((0 : Int).toNat * 3)) := ⟨_, rfl⟩; have h322 : AT false j10 c293 w294 qa330 [.slice A324 ((rd l270 0).Key).length C325, .slice A327 ((rd l270 0).Value).length C328, .int .i64 ((rd l270 0).Rev)] := by rw [qqa330]; exact h322
   replace h326 := h326.ev ER nq nq; replace h329 := h329.ev ER nq nq; have zh322 := h322; refine dq F (fun wq hS => r_indexAddr' F Try.underlying27 sz_36 rfl rfl g318.1 g318.2 e321 qqa330) ER.sb fun a F => ?_; refine dq F (fun wq hS => r_loads (cs := [.slice A324 ((rd l270 0).Key).length C325, .slice A327 ((rd l270 0).Value).length C328, .int .i64 ((rd l270 0).Rev)]) F rfl ag_36 sz_36 (AT.sb zh322 hS nq)) ER.sb fun a F => ?_; refine d_e ?_; obtain ⟨t77, q78, H⟩ := bind_some H; refine oc F Try.func40 (merkle_byKey.calls (m := m + 3) (pl hm0) B h312 h315 h326 h329 _ q78) ?_; rintro e w333 ⟨c332, rfl, E334, B⟩
   as_aux_lemma =>
   refine rt fun a F => ?_; replace ER := ER.trans E334 nx; replace h269 := h269.ev E334; replace h273 := h273.ev E334; replace h277 := h277.ev E334; replace E := E.n E334; refine ⟨fun _ => ER.sb, ?_⟩; refine da F ER.sb fun a F => ?_; refine d_nil ?_; exact J338 c332 w333 a t77 (F.sub ⟨rfl, rfl, rfl, rfl, rfl, trivial⟩) E B h269 h273 h277 H
  replace H := im hb295 H; refine wcf (fb F (bfalse hb295)) ?_; refine wp_exit ?_; refine thenE ?_; refine thenE ?_; refine inbE ?_; have hx_ := HD282 _ (si H).symm; have H := HR286; rw [← hx_] at H; exact J523 c293 w294 a l274 A275 C276 (F.sub ⟨rfl, trivial⟩) E B h277 H
 refine reg ?_; refine qm F fun a F => ?_
 as_aux_lemma =>
 refine qv F (r_lensl F Try.underlying27 rfl) fun a F => ?_; refine qv F (r_gtr F rfl rfl) fun a F => ?_; refine qm F fun a F => ?_
 by_cases hb290 : 0 < (l266.length : Int)
 ·replace H := ip hb290 H; refine qn F (dt hb290) fun a F => qn F (dt hb290) fun a F => qn F (dt hb290) fun a F => ?_; refine qv F (r_pick_t F rfl (dt hb290) rfl) fun a F => ?_; refine nil ?_; exact J292 c278 w279 a true (F.sub ⟨rfl, rfl, rfl, rfl, rfl, trivial⟩) E B h269 h273 h277 H
 replace H := im hb290 H; refine qy F (dz hb290) ?_; refine qm F fun a F => ?_; refine qy F (dz hb290) ?_; refine qv F (r_lensl F Try.underlying27 rfl) fun a F => ?_; refine qy F (dz hb290) ?_; refine qv F (r_gtr F rfl rfl) fun a F => ?_; refine qv F (r_pick_f F rfl (dz hb290) rfl) fun a F => ?_; refine nil ?_; exact J292 c278 w279 a (decide (0 < (l270.length : Int))) (F.sub ⟨rfl, rfl, rfl, rfl, rfl, trivial⟩) E B h269 h273 h277 H
theorem merkle_Diff.calls (k : Nat) {m : Nat} {c0 : Nat → Nat} {w0 : World} {j4 : Nat} {j5 : Nat} {j9 : Nat} {j10 : Nat} {p2 : Option Addr} {p7 : Option Addr} {a1 : Option Mer} {a6 : Option Mer} (hm0 : 0 < m) (B0 : CB m c0 w0) (h3 : ME j4 j5 c0 w0 p2 a1) (h8 : ME j9 j10 c0 w0 p7 a6) (bj4 : j4 < m) (bj5 : j5 < m ∧ j5 ≠ j4) (bj9 : j9 < m) (bj10 : j10 < m ∧ j10 ≠ j9) (jr308 : Nat) (bjr308 : jr308 < m) (r : (List api_Line) × Int × Int) (H : merkle_Diff.f k a1 a6 = some r) : Calls Try.prog 25 #[.pointer p2, .pointer p7] w0 (fun e w_ => ∃ (c_ : Nat → Nat) (A0_ : Option Addr) (C0_ : Nat), e = .returned (.tuple #[.slice A0_ r.1.length C0_, .int .i64 r.2.1, .int .i64 r.2.2]) ∧ Ev (fun x => False) c0 w0 c_ w_ ∧ CB m c_ w_ ∧ SL true K_api_Line jr308 0 c_ w_ A0_ C0_ r.1) := by
 unfold merkle_Diff.f at H; have B := B0.mono (show m ≤ m + 3 by omega); have E : Ev (fun x => False ∨ m ≤ x) c0 w0 c0 w0 := Ev.refl; refine enter (N := 105) (l := [.pointer p2, .pointer p7]) Try.func25 rfl rfl (nb rfl) fun a F => ?_; refine sr fun K11 hK11 => qa F fun a F => qa F fun a F => qa F fun a F => nil (hK11 _ _ ?_); refine sq fun K12 hK12 => ?_; refine wp_block ?_; refine sq fun K13 hK13 => ?_; have J16 : ∀ (c17 : Nat → Nat) (w18 : World) (a : Act) (b15 : Bool), Fr a 105 [(0, .pointer p2), (1, .pointer p7), (11, .bool b15)] → Ev (fun x => False ∨ m ≤ x) c0 w0 c17 w18 → CB (m + 3) c17 w18 → ME j4 j5 c17 w18 p2 a1 → ME j9 j10 c17 w18 p7 a6 → merkle_Diff.j1 k a1 a6 b15 = some r → K13 a w18 := by
  intro c17 w18 a b15 F E B h3 h8 H; unfold merkle_Diff.j1 at H; refine hK13 _ _ ?_
  by_cases hb19 : b15 = true
  ·replace H := ip hb19 H; refine wct (fb F hb19) ?_; refine sr fun K20 hK20 => qa F fun a F => qa F fun a F => qa F fun a F => nil (hK20 _ _ ?_); refine wp_ret ?_; refine inbR ?_; refine thenR ?_; obtain rfl := si H; refine out3 F rfl rfl rfl rfl ?_; exact ⟨cf (fun x_ => if x_ = m + 2 then jr308 else if x_ < m then x_ else 0) c17, none, 0, rfl, E.lv B0, cfb, SL.nil⟩
  as_aux_lemma =>
  replace H := im hb19 H; refine wcf (fb F (bfalse hb19)) ?_; refine sq fun K21 hK21 => ?_; obtain ⟨ob22, e23, H⟩ := bind_some H; have z24 := h3; rw [e23] at z24; obtain ⟨ad25, cs27, cs29, rfl, hat26, h28, h30⟩ := ME.some z24; obtain ⟨ob32, e33, H⟩ := bind_some H; have z34 := h8; rw [e33] at z34; obtain ⟨ad35, cs37, cs39, rfl, hat36, h38, h40⟩ := ME.some z34; refine regD (SB No c17 w18) 10 (.q 0 (.q 1 (.q 2 (.q 3 (.q 4 (.q 5 (.q 6 (.q 7 (.q 8 (.q 9 .nil)))))))))) Try_hm (by decide +kernel) ?_; intro w42 w1_ w2_ w3_ w4_; have E43 : Ev No c17 w18 c17 w42 := Ev.same w1_ w2_ w3_ w4_; replace B := B.same w1_; have zh28 := h28; have zh30 := h30; have zhat26 := hat26; have zh38 := h38; have zh40 := h40; have zhat36 := hat36; have ER : Ev No c17 w18 c17 w42 := Ev.same w1_ w2_ w3_ w4_
  as_aux_lemma =>
  replace h28 := h28.ev E43; replace h30 := h30.ev E43; replace hat26 := hat26.ev E43; replace h38 := h38.ev E43; replace h40 := h40.ev E43; replace hat36 := hat36.ev E43; replace E := E.n E43; refine dm F ER.sb fun a F => ?_; refine di F ER.sb fun a F => ?_; refine df F ff_75_0 ER.sb fun a F => ?_; refine dq F (fun wq hS => r_load F rfl ag_3 (AT.cell (AT.ev zhat26 hS nq) rfl)) ER.sb fun a F => ?_; refine dm F ER.sb fun a F => ?_; refine di F ER.sb fun a F => ?_; refine df F ff_75_0 ER.sb fun a F => ?_; refine dq F (fun wq hS => r_load F rfl ag_3 (AT.cell (AT.ev zhat36 hS nq) rfl)) ER.sb fun a F => ?_; refine dq F (fun wq hS => r_neq F rfl rfl) ER.sb fun a F => ?_; refine da F ER.sb fun a F => ?_; refine d_nil ?_; refine hK21 _ _ ?_; replace F : Fr a 105 [(0, .pointer (some ad25)), (1, .pointer (some ad35)), (18, .bool (!decide (ob22.bits = ob32.bits)))] := F.sub ⟨rfl, rfl, rfl, trivial⟩
  by_cases hb44 : ob22.bits = ob32.bits
  ·replace H := ip hb44 H; refine wcf (fb F (congrArg not (dt hb44))) ?_
   as_aux_lemma =>
   refine sq fun K45 hK45 => ?_; refine regD (SB No c17 w42) 10 (.q 0 (.q 1 (.q 2 (.q 3 (.q 4 (.q 5 (.q 6 (.q 7 (.q 8 (.q 9 .nil)))))))))) Try_hm (by decide +kernel) ?_; intro w46 w1_ w2_ w3_ w4_; have E47 : Ev No c17 w42 c17 w46 := Ev.same w1_ w2_ w3_ w4_; replace B := B.same w1_; have zh28 := h28; have zh30 := h30; have zhat26 := hat26; have zh38 := h38; have zh40 := h40; have zhat36 := hat36; have ER : Ev No c17 w42 c17 w46 := Ev.same w1_ w2_ w3_ w4_; replace h28 := h28.ev E47; replace h30 := h30.ev E47; replace hat26 := hat26.ev E47; replace h38 := h38.ev E47; replace h40 := h40.ev E47; replace hat36 := hat36.ev E47; replace E := E.n E47; refine dm F ER.sb fun a F => ?_; refine di F ER.sb fun a F => ?_; refine df F ff_75_1 ER.sb fun a F => ?_
   as_aux_lemma =>
   refine dq F (fun wq hS => r_loadsS (cs := cs27) F rfl ag_72 sz_72 (h28.1 : cs27.length = 512) (AT.seg (AT.ev zhat26 hS nq) rfl (h28.1 : cs27.length = 512))) ER.sb fun a F => ?_; refine dm F ER.sb fun a F => ?_; refine di F ER.sb fun a F => ?_; refine df F ff_75_1 ER.sb fun a F => ?_; refine dq F (fun wq hS => r_loadsS (cs := cs37) F rfl ag_72 sz_72 (h38.1 : cs37.length = 512) (AT.seg (AT.ev zhat36 hS nq) rfl (h38.1 : cs37.length = 512))) ER.sb fun a F => ?_; refine dq F (fun wq hS => r_areql F sqg_72 ua_72 Try.underlying30 sz_30 rfl rfl h28 h38) ER.sb fun a F => ?_; refine da F ER.sb fun a F => ?_; refine d_nil ?_; refine hK45 _ _ ?_; replace F : Fr a 105 [(0, .pointer (some ad25)), (1, .pointer (some ad35)), (28, .bool (decide (ob22.digests = ob32.digests)))] := F.sub ⟨rfl, rfl, rfl, trivial⟩
   by_cases hb48 : ob22.digests = ob32.digests
   ·replace H := ip hb48 H; refine wct (fb F (dt hb48)) ?_; refine sr fun K49 hK49 => qa F fun a F => qa F fun a F => qa F fun a F => nil (hK49 _ _ ?_); refine wp_ret ?_; refine inbR ?_; refine thenR ?_; obtain rfl := si H; refine out3 F rfl rfl rfl rfl ?_; exact ⟨cf (fun x_ => if x_ = m + 2 then jr308 else if x_ < m then x_ else 0) c17, none, 0, rfl, E.lv B0, cfb, SL.nil⟩
   replace H := im hb48 H; refine wcf (fb F (dz hb48)) (wp_skip (hK12 _ _ ?_)); refine sr fun K51 hK51 => qa F fun a F => nil (hK51 _ _ ?_)
   as_aux_lemma =>
   refine sr fun K52 hK52 => qa F fun a F => nil (hK52 _ _ ?_); refine sr fun K53 hK53 => ?_; refine q_eff F rfl rfl (by decide) (e_buildSlice (n := 1) (e := 3) (c := c17) (k := (Kint .i64)) (i := 0) F [(0, .int .i64 1)] [.int .i64 1] ([1] : List Int) (by exact ⟨rfl, rfl, trivial⟩) (fun w => by kernel_rfl) rfl (by decide) rfl ⟨rfl, trivial⟩ (fun q => q) (m + 1)) ?_; rintro v w55 a ⟨c54, A56, C57, rfl, E58, h59, B60⟩ F; replace B := B60 _ B lm; replace h28 := h28.ev E58; replace h30 := h30.ev E58; replace hat26 := hat26.ev E58; replace h38 := h38.ev E58; replace h40 := h40.ev E58; replace hat36 := hat36.ev E58; replace E := E.n E58; refine qa F fun a F => nil (hK53 _ _ ?_); refine sq fun K61 hK61 => ?_; refine wp_block ?_; obtain ⟨x189, HL, HR188⟩ := bind_some H; have J294 : ∀ (c295 : Nat → Nat) (w296 : World) (a : Act) (l290 : List api_Line) (A291 : Option Addr) (C292 : Nat) (i293 : Int), Fr a 105 [(7, .slice A291 l290.length C292), (8, .int .i64 i293)] → Ev (fun x => False ∨ m ≤ x) c0 w0 c295 w296 → CB (m + 3) c295 w296 → SL true K_api_Line (m + 2) 0 c295 w296 A291 C292 l290 → merkle_Diff.j3 l290 i293 = some r → K61 a w296 := by
    intro c295 w296 a l290 A291 C292 i293 F E B h289 H; unfold merkle_Diff.j3 at H; refine hK61 _ _ ?_; refine sr fun K297 hK297 => qm F fun a F => ?_; obtain ⟨t298, q299, H⟩ := bind_some H
    as_aux_lemma =>
    refine qc F Try.func53 (slices_SortLine.calls (m := m + 3) (pl hm0) B h289 (by omega) _ q299) ?_; rintro e w301 ⟨c300, rfl, E302, B, h304, hl305⟩; refine rt fun a F => ?_; replace E := E.trans E302 lc1; replace hl305 := hl305.symm; replace F := F.sub (L' := [(7, .slice A291 t298.length C292), (8, .int .i64 i293), (101, .slice A291 t298.length C292)]) ⟨(by rw [← hl305]; rfl), rfl, (by rw [← hl305]; rfl), trivial⟩; refine nil (hK297 _ _ ?_); refine sr fun K307 hK307 => qm F fun a F => qm F fun a F => qa F fun a F => qa F fun a F => qa F fun a F => nil (hK307 _ _ ?_); refine wp_ret ?_; obtain rfl := si H; refine out3 F rfl rfl rfl rfl ?_; exact ⟨cf (fun x_ => if x_ = m + 2 then jr308 else if x_ < m then x_ else 0) c300, A291, C292, rfl, E.lv B0, cfb, SL.rc h304 cfk cfk⟩
   refine loop_fuel (I := fun n a w => ∃ (l171 : List api_Line) (A172 : Option Addr) (C173 : Nat) (i175 : Int) (l176 : List Int) (A177 : Option Addr) (C178 : Nat) (c : Nat → Nat), Fr a 105 [(0, .pointer (some ad25)), (1, .pointer (some ad35)), (7, .slice A172 l171.length C173), (8, .int .i64 i175), (9, .slice A177 l176.length C178)] ∧ Ev (fun x => False ∨ m ≤ x) c0 w0 c w ∧ CB (m + 3) c w ∧ AT true j4 c w ad25 (([.int .i64 ob22.bits] : List Value) ++ (cs27 ++ (([] : List Value) ++ (cs29 ++ (([.int .i64 ob22.many] : List Value)))))) ∧ AT true j9 c w ad35 (([.int .i64 ob32.bits] : List Value) ++ (cs37 ++ (([] : List Value) ++ (cs39 ++ (([.int .i64 ob32.many] : List Value)))))) ∧ AR (Kint .u64) 0 c w cs27 512 ob22.digests ∧ ARO (KOsl K_api_Row) j5 c w cs29 256 ob22.rows noHole ∧ AR (Kint .u64) 0 c w cs37 512 ob32.digests ∧ ARO (KOsl K_api_Row) j10 c w cs39 256 ob32.rows noHole ∧ SL true K_api_Line (m + 2) 0 c w A172 C173 l171 ∧ SL true (Kint .i64) (m + 1) 0 c w A177 C178 l176 ∧ loop (fun (s_ : (List api_Line) × Int × (List Int)) => merkle_Diff.b2 k ob22 ob32 s_.1 s_.2.1 s_.2.2) n (l171, i175, l176) = some x189) (k := k) ⟨[], none, 0, 0, [1], A56, C57, c54, F.sub ⟨rfl, rfl, rfl, rfl, rfl, trivial⟩, E, B, hat26, hat36, h28, h30, h38, h40, SL.nil, h59, HL⟩ ?_; clear HL H E F B; intro n186 X182 hX182 a w181 ⟨l171, A172, C173, i175, l176, A177, C178, c180, F, E, B, hat26, hat36, h28, h30, h38, h40, h174, h179, HL⟩; obtain ⟨n187, ctl185, rfl, HB, HN183, HD184⟩ := loop_some HL; have H : merkle_Diff.b2 k ob22 ob32 l171 i175 l176 = some ctl185 := HB; clear HB HL; unfold merkle_Diff.b2 at H; refine sq fun K190 hK190 => ?_; refine sr fun K191 hK191 => qm F fun a F => ?_; refine qv F (r_lensl F Try.underlying98 rfl) fun a F => ?_
   as_aux_lemma =>
   refine qv F (r_gtr F rfl rfl) fun a F => ?_; refine nil (hK191 _ _ ?_)
   by_cases hb192 : 0 < (l176.length : Int)
   ·replace H := ip hb192 H; refine wct (fb F (dt hb192)) (wp_skip (hK190 _ _ ?_)); refine wp_block ?_; refine sr fun K193 hK193 => qm F fun a F => qm F fun a F => ?_; refine qv F (r_lensl F Try.underlying98 rfl) fun a F => ?_; refine qv F (r_sub F rfl rfl) fun a F => ?_; replace H := ifN H; obtain ⟨g194, H⟩ := H; obtain ⟨ad195, cs196, e197, h198, r199⟩ := SL.at h179 (IntKind.i64.wrap ((l176.length : Int) - 1)) g194.1 g194.2; obtain rfl : cs196 = [.int .i64 (rd l176 (IntKind.i64.wrap ((l176.length : Int) - 1)))] := r199; obtain ⟨qa200, qqa200⟩ : ∃ q, q = (ad195.add ((IntKind.i64.wrap ((l176.length : Int) - 1)).toNat * 1)) := ⟨_, rfl⟩; have h198 : AT true (m + 1) c180 w181 qa200 [.int .i64 (rd l176 (IntKind.i64.wrap ((l176.length : Int) - 1)))] := by rw [qqa200]; exact h198
    refine qv F (r_indexAddr' F Try.underlying98 sz_3 rfl rfl g194.1 g194.2 e197 qqa200) fun a F => ?_; refine qv F (r_load F rfl ag_3 (AT.cell0 h198 rfl)) fun a F => ?_; refine qa F fun a F => nil (hK193 _ _ ?_); replace F : Fr a 105 [(0, .pointer (some ad25)), (1, .pointer (some ad35)), (7, .slice A172 l171.length C173), (8, .int .i64 i175), (9, .slice A177 l176.length C178), (10, .int .i64 (rd l176 (IntKind.i64.wrap ((l176.length : Int) - 1))))] := F.sub ⟨rfl, rfl, rfl, rfl, rfl, rfl, trivial⟩; refine sr fun K202 hK202 => qm F fun a F => qm F fun a F => ?_; refine qv F (r_lensl F Try.underlying98 rfl) fun a F => ?_; refine qv F (r_sub F rfl rfl) fun a F => ?_; replace H := ifN H; obtain ⟨g203, H⟩ := H; obtain ⟨A204, C205, r206, h207⟩ := cut_h (kh := .i64) Try.underlying98 sz_3 h179 g203
    as_aux_lemma =>
    refine qv F (r_slice (vl := none) (vh := some (.int .i64 (IntKind.i64.wrap ((l176.length : Int) - 1)))) (vm := none) F rfl rfl rfl rfl r206) fun a F => ?_; refine qa F fun a F => nil (hK202 _ _ ?_); refine sr fun K208 hK208 => qm F fun a F => ?_; refine qv F (r_add F rfl rfl) fun a F => ?_; refine qa F fun a F => nil (hK208 _ _ ?_); refine wp_block ?_; refine sq fun K209 hK209 => ?_; refine regD (SB No c180 w181) 14 (.q 0 (.q 1 (.q 2 (.q 3 (.q 4 (.q 5 (.q 6 (.q 7 (.q 8 (.q 9 (.q 10 (.q 11 (.q 12 (.q 13 .nil)))))))))))))) Try_hm (by decide +kernel) ?_; intro w210 w1_ w2_ w3_ w4_; have E211 : Ev No c180 w181 c180 w210 := Ev.same w1_ w2_ w3_ w4_; replace B := B.same w1_; have zhat26 := hat26; have zhat36 := hat36; have zh28 := h28; have zh30 := h30; have zh38 := h38; have zh40 := h40; have ER : Ev No c180 w181 c180 w210 := Ev.same w1_ w2_ w3_ w4_; replace hat26 := hat26.ev E211; replace hat36 := hat36.ev E211; replace h28 := h28.ev E211; replace h30 := h30.ev E211
    as_aux_lemma =>
    replace h38 := h38.ev E211; replace h40 := h40.ev E211; replace h174 := h174.ev E211; replace h207 := h207.ev E211; replace E := E.n E211; refine dm F ER.sb fun a F => ?_; refine dm F ER.sb fun a F => ?_; refine di F ER.sb fun a F => ?_; refine df F ff_75_1 ER.sb fun a F => ?_; replace H := ifN H; obtain ⟨g212, H⟩ := H; obtain ⟨cs214, h215, r216⟩ := AR.at (off := 1) zhat26 rfl zh28 (rd l176 (IntKind.i64.wrap ((l176.length : Int) - 1))) g212.1 (by have g_ := g212.2; omega); obtain rfl : cs214 = [.int .u64 (rd ob22.digests (rd l176 (IntKind.i64.wrap ((l176.length : Int) - 1))))] := r216; obtain ⟨qa217, qqa217⟩ : ∃ q, q = (ad25.add (1 + (rd l176 (IntKind.i64.wrap ((l176.length : Int) - 1))).toNat * 1)) := ⟨_, rfl⟩; have h215 : AT true j4 c180 w181 qa217 [.int .u64 (rd ob22.digests (rd l176 (IntKind.i64.wrap ((l176.length : Int) - 1))))] := by rw [qqa217]; exact h215
    have zh215 := h215; refine dq F (fun wq hS => r_indexArr3 F ua_72 sz_30 rfl rfl g212.1 (by have g_ := g212.2; omega) hat26 qqa217) ER.sb fun a F => ?_; refine dq F (fun wq hS => r_load F rfl ag_30 (AT.cell0 (AT.sb zh215 hS nq) rfl)) ER.sb fun a F => ?_; refine dm F ER.sb fun a F => ?_; refine dm F ER.sb fun a F => ?_; refine di F ER.sb fun a F => ?_; refine df F ff_75_1 ER.sb fun a F => ?_
    as_aux_lemma =>
    replace H := ifN H; obtain ⟨g219, H⟩ := H; obtain ⟨cs221, h222, r223⟩ := AR.at (off := 1) zhat36 rfl zh38 (rd l176 (IntKind.i64.wrap ((l176.length : Int) - 1))) g219.1 (by have g_ := g219.2; omega); obtain rfl : cs221 = [.int .u64 (rd ob32.digests (rd l176 (IntKind.i64.wrap ((l176.length : Int) - 1))))] := r223; obtain ⟨qa224, qqa224⟩ : ∃ q, q = (ad35.add (1 + (rd l176 (IntKind.i64.wrap ((l176.length : Int) - 1))).toNat * 1)) := ⟨_, rfl⟩; have h222 : AT true j9 c180 w181 qa224 [.int .u64 (rd ob32.digests (rd l176 (IntKind.i64.wrap ((l176.length : Int) - 1))))] := by rw [qqa224]; exact h222
    have zh222 := h222; refine dq F (fun wq hS => r_indexArr3 F ua_72 sz_30 rfl rfl g219.1 (by have g_ := g219.2; omega) hat36 qqa224) ER.sb fun a F => ?_; refine dq F (fun wq hS => r_load F rfl ag_30 (AT.cell0 (AT.sb zh222 hS nq) rfl)) ER.sb fun a F => ?_; refine dq F (fun wq hS => r_eql F rfl rfl) ER.sb fun a F => ?_; refine da F ER.sb fun a F => ?_; refine d_nil ?_; refine hK209 _ _ ?_; replace F : Fr a 105 [(0, .pointer (some ad25)), (1, .pointer (some ad35)), (7, .slice A172 l171.length C173), (8, .int .i64 (IntKind.i64.wrap (i175 + 1))), (9, .slice A204 (l176.take (IntKind.i64.wrap ((l176.length : Int) - 1)).toNat).length C205), (10, .int .i64 (rd l176 (IntKind.i64.wrap ((l176.length : Int) - 1)))), (76, .bool (decide ((rd ob22.digests (rd l176 (IntKind.i64.wrap ((l176.length : Int) - 1)))) = (rd ob32.digests (rd l176 (IntKind.i64.wrap ((l176.length : Int) - 1)))))))] := F.sub ⟨rfl, rfl, rfl, rfl, rfl, rfl, rfl, trivial⟩
    by_cases hb226 : (rd ob22.digests (rd l176 (IntKind.i64.wrap ((l176.length : Int) - 1)))) = (rd ob32.digests (rd l176 (IntKind.i64.wrap ((l176.length : Int) - 1))))
    ·replace H := ip hb226 H; refine wct (fb F (dt hb226)) ?_; refine wp_skip ?_; replace H := HN183 _ (si H).symm; exact hX182 _ _ _ (Nat.lt_succ_self _) ⟨l171, A172, C173, (IntKind.i64.wrap (i175 + 1)), (l176.take (IntKind.i64.wrap ((l176.length : Int) - 1)).toNat), A204, C205, c180, F.sub ⟨rfl, rfl, rfl, rfl, rfl, trivial⟩, E, B, hat26, hat36, h28, h30, h38, h40, h174, h207, H⟩
    replace H := im hb226 H; refine wcf (fb F (dz hb226)) ?_; refine sr fun K227 hK227 => qm F fun a F => ?_
    as_aux_lemma =>
    refine qv F (r_lss F rfl rfl) fun a F => ?_; refine qa F fun a F => nil (hK227 _ _ ?_)
    by_cases hb228 : (rd l176 (IntKind.i64.wrap ((l176.length : Int) - 1))) < 256
    ·replace H := ip hb228 H; refine wct (fb F (dt hb228)) ?_; refine reg ?_; refine qm F fun a F => qm F fun a F => ?_; refine qv F (r_mul F rfl rfl) fun a F => ?_; refine qm F fun a F => ?_; refine qv F (r_mul F rfl rfl) fun a F => ?_; refine qv F (r_add F rfl rfl) fun a F => ?_; refine q_eff F rfl rfl (by decide) (e_buildSlice (n := 2) (e := 3) (c := c180) (k := (Kint .i64)) (i := 0) F [(0, .int .i64 (IntKind.i64.wrap (2 * (rd l176 (IntKind.i64.wrap ((l176.length : Int) - 1)))))), (1, .int .i64 (IntKind.i64.wrap ((IntKind.i64.wrap (2 * (rd l176 (IntKind.i64.wrap ((l176.length : Int) - 1))))) + 1)))] [.int .i64 (IntKind.i64.wrap (2 * (rd l176 (IntKind.i64.wrap ((l176.length : Int) - 1))))), .int .i64 (IntKind.i64.wrap ((IntKind.i64.wrap (2 * (rd l176 (IntKind.i64.wrap ((l176.length : Int) - 1))))) + 1))] ([IntKind.i64.wrap (2 * (rd l176 (IntKind.i64.wrap ((l176.length : Int) - 1)))), IntKind.i64.wrap ((IntKind.i64.wrap (2 * (rd l176 (IntKind.i64.wrap ((l176.length : Int) - 1))))) + 1)] : List Int) (by exact ⟨rfl, rfl, rfl, rfl, trivial⟩) (fun w => by kernel_rfl) rfl (by decide) rfl ⟨rfl, rfl, trivial⟩ (fun q => q) 0) ?_; rintro v w230 a ⟨c229, A231, C232, rfl, E233, h234, B235⟩ F; replace B := B235 _ B (pl hm0); replace hat26 := hat26.ev E233; replace hat36 := hat36.ev E233; replace h28 := h28.ev E233; replace h30 := h30.ev E233; replace h38 := h38.ev E233; replace h40 := h40.ev E233; replace h174 := h174.ev E233; replace h207 := h207.ev E233; replace E := E.n E233
     as_aux_lemma =>
     replace H := ifN H; obtain ⟨g123, H⟩ := H; refine q_eff F rfl rfl (by decide) (e_append (k := (Kint .i64)) (xs := (l176.take (IntKind.i64.wrap ((l176.length : Int) - 1)).toNat)) (ys := [IntKind.i64.wrap (2 * (rd l176 (IntKind.i64.wrap ((l176.length : Int) - 1)))), IntKind.i64.wrap ((IntKind.i64.wrap (2 * (rd l176 (IntKind.i64.wrap ((l176.length : Int) - 1))))) + 1)]) (c := c229) (j := (m + 1)) (i := 0) F et_98 rfl rfl h207 h234 g123 (len_ok g123) ne_zm) ?_; rintro v w237 a ⟨c236, A238, C239, rfl, E240, h241, B242⟩ F; replace B := B242 _ B lm; replace hat26 := hat26.ev E240 (ne_pm bj4); replace hat36 := hat36.ev E240 (ne_pm bj9); replace h28 := h28.ev E240; replace h30 := h30.ev E240 (ne_pm bj5.1) ne_zm; replace h38 := h38.ev E240; replace h40 := h40.ev E240 (ne_pm bj10.1) ne_zm; replace h174 := h174.ev E240; replace E := E.trans E240 lc1; refine qa F fun a F => nil ?_; replace H := HN183 _ (si H).symm; exact hX182 _ _ _ (Nat.lt_succ_self _) ⟨l171, A172, C173, (IntKind.i64.wrap (i175 + 1)), ((l176.take (IntKind.i64.wrap ((l176.length : Int) - 1)).toNat) ++ [IntKind.i64.wrap (2 * (rd l176 (IntKind.i64.wrap ((l176.length : Int) - 1)))), IntKind.i64.wrap ((IntKind.i64.wrap (2 * (rd l176 (IntKind.i64.wrap ((l176.length : Int) - 1))))) + 1)]), A238, C239, c236, F.sub ⟨rfl, rfl, rfl, rfl, rfl, trivial⟩, E, B, hat26, hat36, h28, h30, h38, h40, h174, h241, H⟩
    replace H := im hb228 H; refine wcf (fb F (dz hb228)) ?_; refine regD (SB (fun x => x = m + 2) c180 w210) 22 (.q 0 (.q 1 (.q 2 (.q 3 (.q 4 (.q 5 (.q 6 (.q 7 (.q 8 (.q 9 (.q 10 (.q 11 (.q 12 (.q 13 (.q 14 (.q 15 (.q 16 (.q 17 (.q 18 (.e 19 (.e 20 (.q 21 .nil)))))))))))))))))))))) Try_hm (by decide +kernel) ?_; intro w243 w1_ w2_ w3_ w4_; have E244 : Ev No c180 w210 c180 w243 := Ev.same w1_ w2_ w3_ w4_; replace B := B.same w1_; have zhat26 := hat26; have zhat36 := hat36; have zh30 := h30; have zh40 := h40; have ER : Ev (fun x => x = m + 2) c180 w210 c180 w243 := Ev.same w1_ w2_ w3_ w4_
    as_aux_lemma =>
    replace hat26 := hat26.ev E244; replace hat36 := hat36.ev E244; replace h28 := h28.ev E244; replace h30 := h30.ev E244; replace h38 := h38.ev E244; replace h40 := h40.ev E244; replace h174 := h174.ev E244; replace h207 := h207.ev E244; replace E := E.n E244; refine dm F ER.sb fun a F => ?_; refine dm F ER.sb fun a F => ?_; refine dm F ER.sb fun a F => ?_; refine dq F (fun wq hS => r_sub F rfl rfl) ER.sb fun a F => ?_; refine di F ER.sb fun a F => ?_; refine df F ff_75_2 ER.sb fun a F => ?_; replace H := ifN H; obtain ⟨g245, H⟩ := H; obtain ⟨cs247, h248, r249⟩ := ARO.at (off := 513) (AT.eqv (ds := (([.int .i64 ob22.bits] : List Value) ++ (cs27 ++ (([] : List Value)))) ++ (cs29 ++ (([.int .i64 ob22.many] : List Value)))) zhat26 (by simp only [List.append_assoc])) (by have l0_ : cs27.length = 512 := (h28.1 : cs27.length = 512); simp only [List.length_append, List.length_cons, List.length_nil] <;> omega) zh30 (IntKind.i64.wrap ((rd l176 (IntKind.i64.wrap ((l176.length : Int) - 1))) - 256)) g245.1 (by have g_ := g245.2; omega); obtain ⟨A251, C252, rfl, h253⟩ := r249; obtain ⟨qa250, qqa250⟩ : ∃ q, q = (ad25.add (513 + (IntKind.i64.wrap ((rd l176 (IntKind.i64.wrap ((l176.length : Int) - 1))) - 256)).toNat * 1)) := ⟨_, rfl⟩; have h248 : AT true j4 c180 w210 qa250 [.slice A251 (rd ob22.rows (IntKind.i64.wrap ((rd l176 (IntKind.i64.wrap ((l176.length : Int) - 1))) - 256))).length C252] := by rw [qqa250]; exact h248
    replace h253 := h253.ev ER (ne_pm bj5.1) ne_zm; have zh248 := h248
    as_aux_lemma =>
    refine dq F (fun wq hS => r_indexArr3 F ua_73 sz_27 rfl rfl g245.1 (by have g_ := g245.2; omega) hat26 qqa250) ER.sb fun a F => ?_; refine dq F (fun wq hS => r_load F rfl ag_27 (AT.cell0 (AT.sb zh248 hS (ne_pm bj4)) rfl)) ER.sb fun a F => ?_; refine dm F ER.sb fun a F => ?_; refine dm F ER.sb fun a F => ?_; refine dq F (fun wq hS => r_sub F rfl rfl) ER.sb fun a F => ?_; refine di F ER.sb fun a F => ?_; refine df F ff_75_2 ER.sb fun a F => ?_; replace H := ifN H; obtain ⟨g255, H⟩ := H; obtain ⟨cs257, h258, r259⟩ := ARO.at (off := 513) (AT.eqv (ds := (([.int .i64 ob32.bits] : List Value) ++ (cs37 ++ (([] : List Value)))) ++ (cs39 ++ (([.int .i64 ob32.many] : List Value)))) zhat36 (by simp only [List.append_assoc])) (by have l0_ : cs37.length = 512 := (h38.1 : cs37.length = 512); simp only [List.length_append, List.length_cons, List.length_nil] <;> omega) zh40 (IntKind.i64.wrap ((rd l176 (IntKind.i64.wrap ((l176.length : Int) - 1))) - 256)) g255.1 (by have g_ := g255.2; omega); obtain ⟨A261, C262, rfl, h263⟩ := r259; obtain ⟨qa260, qqa260⟩ : ∃ q, q = (ad35.add (513 + (IntKind.i64.wrap ((rd l176 (IntKind.i64.wrap ((l176.length : Int) - 1))) - 256)).toNat * 1)) := ⟨_, rfl⟩; have h258 : AT true j9 c180 w210 qa260 [.slice A261 (rd ob32.rows (IntKind.i64.wrap ((rd l176 (IntKind.i64.wrap ((l176.length : Int) - 1))) - 256))).length C262] := by rw [qqa260]; exact h258
    replace h263 := h263.ev ER (ne_pm bj10.1) ne_zm; have zh258 := h258; refine dq F (fun wq hS => r_indexArr3 F ua_73 sz_27 rfl rfl g255.1 (by have g_ := g255.2; omega) hat36 qqa260) ER.sb fun a F => ?_; refine dq F (fun wq hS => r_load F rfl ag_27 (AT.cell0 (AT.sb zh258 hS (ne_pm bj9)) rfl)) ER.sb fun a F => ?_; refine dm F ER.sb fun a F => ?_; refine di F ER.sb fun a F => ?_; refine df F ff_75_0 ER.sb fun a F => ?_; refine dq F (fun wq hS => r_load F rfl ag_3 (AT.cell (AT.ev zhat26 hS (ne_pm bj4)) rfl)) ER.sb fun a F => ?_; refine d_e ?_; obtain ⟨t153, q154, H⟩ := bind_some H
    as_aux_lemma =>
    refine oc F Try.func52 (merkle_hold.calls k (m := m + 3) (pl hm0) B h253.r h263.r (Nat.lt_add_right _ bj5.1) (Nat.lt_add_right _ bj10.1) 0 (pl hm0) _ q154) ?_; rintro e w266 ⟨c265, A269, C270, rfl, E267, B, h271⟩; refine rt fun a F => ?_; replace ER := ER.trans E267 nx; replace hat26 := hat26.ev E267; replace hat36 := hat36.ev E267; replace h28 := h28.ev E267; replace h30 := h30.ev E267; replace h38 := h38.ev E267; replace h40 := h40.ev E267; replace h174 := h174.ev E267; replace h207 := h207.ev E267; replace E := E.n E267; refine ⟨fun _ => ER.sb, ?_⟩; refine d_e ?_; replace H := ifN H; obtain ⟨g163, H⟩ := H; refine o_eff F rfl rfl rfl (by decide) (e_append (k := K_api_Line) (xs := l171) (ys := t153) (c := c265) (j := (m + 2)) (i := 0) F et_59 rfl rfl h174 h271 g163 (len_ok g163) ne_zm) ?_; rintro v w274 a ⟨c273, A275, C276, rfl, E277, h278, B279⟩ F; replace B := B279 _ B lm; replace ER := ER.trans E277 (fun x q => by replace q : x = m + 2 := q; show x = m + 2; omega); replace hat26 := hat26.ev E277 (ne_pm bj4)
    as_aux_lemma =>
    replace hat36 := hat36.ev E277 (ne_pm bj9); replace h28 := h28.ev E277; replace h30 := h30.ev E277 (ne_pm bj5.1) ne_zm; replace h38 := h38.ev E277; replace h40 := h40.ev E277 (ne_pm bj10.1) ne_zm; replace h207 := h207.ev E277; replace E := E.trans E277 lc1; refine ⟨fun _ => ER.sb, ?_⟩; refine da F ER.sb fun a F => ?_; refine d_nil ?_; replace H := HN183 _ (si H).symm; exact hX182 _ _ _ (Nat.lt_succ_self _) ⟨(l171 ++ t153), A275, C276, (IntKind.i64.wrap (i175 + 1)), (l176.take (IntKind.i64.wrap ((l176.length : Int) - 1)).toNat), A204, C205, c273, F.sub ⟨rfl, rfl, rfl, rfl, rfl, trivial⟩, E, B, hat26, hat36, h28, h30, h38, h40, h278, h207, H⟩
   replace H := im hb192 H; refine wcf (fb F (dz hb192)) ?_; refine wp_exit ?_; refine thenE ?_; refine thenE ?_; refine inbE ?_; have hx_ := HD184 _ (si H).symm; have H := HR188; rw [← hx_] at H; exact J294 c180 w181 a l171 A172 C173 i175 (F.sub ⟨rfl, rfl, trivial⟩) E B h174 H
  as_aux_lemma =>
  replace H := im hb44 H; refine wct (fb F (congrArg not (dz hb44))) ?_; refine sr fun K50 hK50 => qa F fun a F => qa F fun a F => qa F fun a F => nil (hK50 _ _ ?_); refine wp_ret ?_; refine inbR ?_; refine thenR ?_; obtain rfl := si H; refine out3 F rfl rfl rfl rfl ?_; exact ⟨cf (fun x_ => if x_ = m + 2 then jr308 else if x_ < m then x_ else 0) c17, none, 0, rfl, E.lv B0, cfb, SL.nil⟩
 refine reg ?_; refine qm F fun a F => ?_; refine qv F (r_peqlA F Try.underlying26 rfl rfl (ME.isNone h3)) fun a F => ?_; refine qm F fun a F => ?_
 by_cases hb14 : (Option.isNone a1) = true
 ·replace H := ip hb14 H; refine qn F hb14 fun a F => qn F hb14 fun a F => ?_; refine qv F (r_pick_t F rfl hb14 rfl) fun a F => ?_; refine qa F fun a F => nil ?_; exact J16 c0 w0 a true (F.sub ⟨rfl, rfl, rfl, trivial⟩) E B h3 h8 H
 replace H := im hb14 H; refine qy F (bfalse hb14) ?_; refine qm F fun a F => ?_; refine qy F (bfalse hb14) ?_
 as_aux_lemma =>
 refine qv F (r_peqlA F Try.underlying26 rfl rfl (ME.isNone h8)) fun a F => ?_; refine qv F (r_pick_f F rfl (bfalse hb14) rfl) fun a F => ?_; refine qa F fun a F => nil ?_; exact J16 c0 w0 a (Option.isNone a6) (F.sub ⟨rfl, rfl, rfl, trivial⟩) E B h3 h8 H
end Go.Proofs.Ytdnaoecfnjalgaa.G