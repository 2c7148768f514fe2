/- Words and laws on which the row of 'TableReads' hangs (its '..UptoSaid': bulk at most 1048576). -/
import Derived.Test.YtcolmmjcdlmcoaaGreatHTableReadsB
import Derived.Test.YtcolmmjcdlmcoaaGreatHTableReadsD
import Derived.Test.YtcolmmjcdlmcoaaGreatHTableReadsC
import Derived.Laws.Panics
import Derived.Recover
import Derived.WideLaws
import Derived.Test.YtcolmmjcdlmcoaaGreatHTableReadsA
import Derived.Test.YtcolmmjcdlmcoaaGreatRows
import Derived.Deep.Slices
import Derived.ChangeArms
import Derived.KernelRfl
import Derived.Laws.OwnMore
import Derived.Laws.Strings
namespace Go.Proofs.YtcolmmjcdlmcoaaGreat.G
open Go Go.RowKit
set_option linter.unusedVariables false
set_option linter.unusedSimpArgs false
set_option maxRecDepth 100000
set_option maxHeartbeats 40000000
theorem haulageref13_Sound.calls (k : Nat) {m : Nat} {c0 : Nat → Nat} {w0 : World} {j4 : Nat} {j5 : Nat} {p2 : Option Addr} {a1 : Option Tb3} (hm0 : 0 < m) (B0 : CB m c0 w0) (h3 : TB3 j4 j5 c0 w0 p2 a1) (bj4 : j4 < m) (bj5 : j5 < m ∧ j5 ≠ j4) (r : Bool) (H : haulageref13_Sound.f k a1 = some r) : Calls Tryz.prog 50 #[.pointer p2] w0 (fun e w_ => ∃ (c_ : Nat → Nat), e = .returned (.bool r) ∧ Ev (fun x => False) c0 w0 c_ w_ ∧ CB m c_ w_) := by
 unfold haulageref13_Sound.f at H; have B := B0.mono (show m ≤ m + 3 by omega); have E : Ev (fun x => False ∨ m ≤ x) c0 w0 c0 w0 := Ev.refl; refine enter (N := 91) (l := [.pointer p2]) Tryz.func50 rfl rfl (nb rfl) fun a F => ?_; refine sr fun K6 hK6 => qa F fun a F => nil (hK6 _ _ ?_); refine sq fun K7 hK7 => ?_; refine sq fun K8 hK8 => ?_; have J20 : ∀ (c21 : Nat → Nat) (w22 : World) (a : Act) (ad12 : Addr) (A14 : Option Addr) (ob9 : Tb3) (C15 : Nat) (b19 : Bool), Fr a 91 [(0, .pointer (some ad12)), (17, .bool b19)] → Ev (fun x => False ∨ m ≤ x) c0 w0 c21 w22 → CB (m + 3) c21 w22 → AT true j4 c21 w22 ad12 [.slice A14 ob9.R.length C15, .int .i64 ob9.Rev1] → SL true K_api_Row j5 0 c21 w22 A14 C15 ob9.R → haulageref13_Sound.j1 k ob9 b19 = some r → K8 a w22 := by
  intro c21 w22 a ad12 A14 ob9 C15 b19 F E B hat13 h16 H; unfold haulageref13_Sound.j1 at H; refine hK8 _ _ ?_
  by_cases hb23 : b19 = true
  ·replace H := ip hb23 H; refine wct (fb F hb23) ?_; refine sr fun K24 hK24 => qa F fun a F => nil (hK24 _ _ ?_); refine wp_ret ?_; refine thenR ?_; obtain rfl := si H; refine out1 F rfl rfl ?_; exact ⟨cf (ct m) c21, rfl, E.lv B0, cfb⟩
  replace H := im hb23 H; refine wcf (fb F (bfalse hb23)) (wp_skip (hK7 _ _ ?_))
  as_aux_lemma =>
  refine sr fun K25 hK25 => ?_; refine q_eff F rfl rfl (by decide) (e_makeMap (q := .i64) (K := 3) (emb := Value.bool) F c21 (m + 1) (fun w => by kernel_rfl)) ?_; rintro v w27 a ⟨c26, qa28, rfl, E29, h30, B31⟩ F; replace B := B31 _ B lm; replace hat13 := hat13.ev E29; replace h16 := h16.ev E29; replace E := E.n E29; replace h30 : MU118 (m + 1) c26 w27 (some qa28) (MpV.mk (fun _ => none) 0) := h30; refine qa F fun a F => nil (hK25 _ _ ?_); refine sq fun K32 hK32 => ?_; refine sr fun K33 hK33 => qa F fun a F => nil (hK33 _ _ ?_); refine wp_block ?_; obtain ⟨x140, HL, HR139⟩ := bind_some H; have J221 : ∀ (c222 : Nat → Nat) (w223 : World) (a : Act), Fr a 91 [] → Ev (fun x => False ∨ m ≤ x) c0 w0 c222 w223 → CB (m + 3) c222 w223 → haulageref13_Sound.j7 = some r → K32 a w223 := by
   intro c222 w223 a  F E B  H; unfold haulageref13_Sound.j7 at H; refine hK32 _ _ ?_; refine sr fun K224 hK224 => qa F fun a F => nil (hK224 _ _ ?_); refine wp_ret ?_; obtain rfl := si H; refine out1 F rfl rfl ?_; exact ⟨cf (ct m) c222, rfl, E.lv B0, cfb⟩
  refine loop_fuel (I := fun n a w => ∃ (o129 : MpV Bool) (i130 : Int) (c : Nat → Nat), Fr a 91 [(0, .pointer (some ad12)), (3, .map (Option.map Addr.block (some qa28))), (4, .int .i64 i130)] ∧ Ev (fun x => False ∨ m ≤ x) c0 w0 c w ∧ CB (m + 3) c w ∧ AT true j4 c w ad12 [.slice A14 ob9.R.length C15, .int .i64 ob9.Rev1] ∧ SL true K_api_Row j5 0 c w A14 C15 ob9.R ∧ MU118 (m + 1) c w (some qa28) o129 ∧ loop (fun (s_ : (MpV Bool) × Int) => haulageref13_Sound.b6 k ob9 s_.1 s_.2) n (o129, i130) = some x140) (k := k) ⟨(MpV.mk (fun _ => none) 0), 0, c26, F.sub ⟨rfl, rfl, rfl, trivial⟩, E, B, hat13, h16, h30, HL⟩ ?_; clear HL H E F B; intro n137 X133 hX133 a w132 ⟨o129, i130, c131, F, E, B, hat13, h16, h128, HL⟩; obtain ⟨n138, ctl136, rfl, HB, HN134, HD135⟩ := loop_some HL; have H : haulageref13_Sound.b6 k ob9 o129 i130 = some ctl136 := HB; clear HB HL; unfold haulageref13_Sound.b6 at H
  as_aux_lemma =>
  refine sq fun K141 hK141 => ?_; refine sr fun K142 hK142 => qm F fun a F => qm F fun a F => ?_; refine qi F fun a F => ?_; refine qf F ff_53_0 fun a F => ?_; refine ql F ag_51 hat13 fun a F => ?_; refine qv F (r_lensl F Tryz.underlying51 rfl) fun a F => ?_; refine qv F (r_lss F rfl rfl) fun a F => ?_; refine nil (hK142 _ _ ?_)
  by_cases hb143 : i130 < (ob9.R.length : Int)
  ·replace H := ip hb143 H; refine wct (fb F (dt hb143)) (wp_skip (hK141 _ _ ?_)); refine sq fun K144 hK144 => ?_; refine wp_block ?_; refine sr fun K145 hK145 => qm F fun a F => ?_; refine qi F fun a F => ?_; refine qf F ff_53_0 fun a F => ?_; refine ql F ag_51 hat13 fun a F => ?_; refine qm F fun a F => ?_; replace H := ifN H; obtain ⟨g146, H⟩ := H; obtain ⟨ad147, cs148, e149, h150, r151⟩ := SL.at h16 i130 g146.1 g146.2; obtain ⟨A152, C153, A155, C156, rfl, h154, h157⟩ := r151; replace h154 := SL.fl (i' := 0) h154 (fun q => q); obtain ⟨qa158, qqa158⟩ : ∃ q, q = (ad147.add (i130.toNat * 3)) := ⟨_, rfl⟩; have h150 : AT true j5 c131 w132 qa158 [.slice A152 ((rd ob9.R i130).Key).length C153, .slice A155 ((rd ob9.R i130).Value).length C156, .int .i64 ((rd ob9.R i130).Rev)] := by rw [qqa158]; exact h150
   as_aux_lemma =>
   refine qv F (r_indexAddr' F Tryz.underlying51 sz_62 rfl rfl g146.1 g146.2 e149 qqa158) fun a F => ?_; refine qv F (r_loads (cs := [.slice A152 ((rd ob9.R i130).Key).length C153, .slice A155 ((rd ob9.R i130).Value).length C156, .int .i64 ((rd ob9.R i130).Rev)]) F rfl ag_62 sz_62 h150) fun a F => ?_; refine q_eff F rfl rfl (by decide) (e_alloc F zv_62 c131 (m + 2)) ?_; rintro v w161 a ⟨c160, qa66, rfl, E162, h68, B163⟩ F; replace B := B163 _ B lm; replace hat13 := hat13.ev E162; replace h16 := h16.ev E162; replace h128 := h128.ev E162; replace h154 := h154.ev E162; replace E := E.n E162; replace h68 : AT _ _ _ _ _ [.slice none 0 0, .slice none 0 0, .int .i64 0] := h68; refine q_eff0 F rfl rfl (e_storeN0 (us := [.slice A152 ((rd ob9.R i130).Key).length C153, .slice A155 ((rd ob9.R i130).Value).length C156, .int .i64 ((rd ob9.R i130).Rev)]) F rfl rfl sz_62 h68 (nb rfl) (one_all rfl)) ?_; rintro w164 a ⟨E165, h68, Z166⟩ F; replace B := B.size Z166; replace hat13 := hat13.ev E165 (ne_pm bj4); replace h16 := h16.ev E165 (ne_pm bj5.1) ne_zm; replace h128 := h128.ev E165; replace h154 := h154.ev E165; replace E := E.trans E165 lc1; replace h68 : AT _ _ _ _ _ [.slice A152 ((rd ob9.R i130).Key).length C153, .slice A155 ((rd ob9.R i130).Value).length C156, .int .i64 ((rd ob9.R i130).Rev)] := h68; refine nil (hK145 _ _ ?_); replace F : Fr a 91 [(0, .pointer (some ad12)), (3, .map (Option.map Addr.block (some qa28))), (4, .int .i64 i130), (5, .pointer (some qa66))] := F.sub ⟨rfl, rfl, rfl, rfl, trivial⟩
   as_aux_lemma =>
   refine sq fun K167 hK167 => ?_; refine sq fun K168 hK168 => ?_; have J178 : ∀ (c179 : Nat → Nat) (w180 : World) (a : Act) (b177 : Bool), Fr a 91 [(0, .pointer (some ad12)), (3, .map (Option.map Addr.block (some qa28))), (4, .int .i64 i130), (5, .pointer (some qa66)), (70, .bool b177)] → Ev (fun x => False ∨ m ≤ x) c0 w0 c179 w180 → CB (m + 3) c179 w180 → AT true j4 c179 w180 ad12 [.slice A14 ob9.R.length C15, .int .i64 ob9.Rev1] → AT true (m + 2) c179 w180 qa66 [.slice A152 ((rd ob9.R i130).Key).length C153, .slice A155 ((rd ob9.R i130).Value).length C156, .int .i64 ((rd ob9.R i130).Rev)] → SL true K_api_Row j5 0 c179 w180 A14 C15 ob9.R → MU118 (m + 1) c179 w180 (some qa28) o129 → SL false (Kint .u8) 0 0 c179 w180 A152 C153 ((rd ob9.R i130).Key) → haulageref13_Sound.j4 k ob9 o129 i130 b177 = some ctl136 → K168 a w180 := by
    intro c179 w180 a b177 F E B hat13 h68 h16 h128 h154 H; unfold haulageref13_Sound.j4 at H; refine hK168 _ _ ?_
    by_cases hb181 : b177 = true
    ·replace H := ip hb181 H; refine wct (fb F hb181) ?_; refine sr fun K182 hK182 => qa F fun a F => nil (hK182 _ _ ?_); refine wp_ret ?_; refine thenR ?_; refine inbR ?_; refine thenR ?_; refine thenR ?_; refine inbR ?_; refine thenR ?_; have hx_ := HD135 _ (si H).symm; have H := HR139; rw [← hx_] at H; replace H : some false = some r := H; obtain rfl := si H; refine out1 F rfl rfl ?_; exact ⟨cf (ct m) c179, rfl, E.lv B0, cfb⟩
    as_aux_lemma =>
    replace H := im hb181 H; refine wcf (fb F (bfalse hb181)) (wp_skip (hK167 _ _ ?_)); refine sr fun K183 hK183 => qm F fun a F => qf F ff_62_2 fun a F => ?_; refine ql F ag_3 h68 fun a F => ?_; replace H := ifN H; obtain ⟨g91, H⟩ := H; refine q_eff0 F rfl rfl (e_mapUpdate (z := true) F Tryz.underlying3 Tryz.underlying118 rfl rfl rfl h128 g91.1 (n_ok g91.2)) ?_; rintro w184 a ⟨E185, h186, Z187⟩ F; replace B := B.size Z187; replace hat13 := hat13.ev E185 (ne_pm bj4); replace h68 := h68.ev E185; replace h16 := h16.ev E185 (ne_pm bj5.1) ne_zm; replace h154 := h154.ev E185; replace E := E.trans E185 lc1; replace h186 : MU118 (m + 1) c179 w184 (some qa28) (MpV.mk (fun i_ => if i_ = ((rd ob9.R i130).Rev) then some true else o129.f i_) (o129.n + 1)) := h186; refine nil (hK183 _ _ ?_); refine sq fun K188 hK188 => ?_; have J212 : ∀ (c213 : Nat → Nat) (w214 : World) (a : Act) (b211 : Bool), Fr a 91 [(0, .pointer (some ad12)), (3, .map (Option.map Addr.block (some qa28))), (4, .int .i64 i130), (90, .bool b211)] → Ev (fun x => False ∨ m ≤ x) c0 w0 c213 w214 → CB (m + 3) c213 w214 → AT true j4 c213 w214 ad12 [.slice A14 ob9.R.length C15, .int .i64 ob9.Rev1] → SL true K_api_Row j5 0 c213 w214 A14 C15 ob9.R → MU118 (m + 1) c213 w214 (some qa28) (MpV.mk (fun i_ => if i_ = ((rd ob9.R i130).Rev) then some true else o129.f i_) (o129.n + 1)) → haulageref13_Sound.j5 ob9 o129 i130 b211 = some ctl136 → K188 a w214 := by
     intro c213 w214 a b211 F E B hat13 h16 h186 H; unfold haulageref13_Sound.j5 at H; refine hK188 _ _ ?_
     by_cases hb215 : b211 = true
     ·replace H := ip hb215 H
      as_aux_lemma =>
      refine wct (fb F hb215) ?_; refine sr fun K216 hK216 => qa F fun a F => nil (hK216 _ _ ?_); refine wp_ret ?_; refine inbR ?_; refine thenR ?_; refine thenR ?_; refine inbR ?_; refine thenR ?_; have hx_ := HD135 _ (si H).symm; have H := HR139; rw [← hx_] at H; replace H : some false = some r := H; obtain rfl := si H; refine out1 F rfl rfl ?_; exact ⟨cf (ct m) c213, rfl, E.lv B0, cfb⟩
     replace H := im hb215 H; refine wcf (fb F (bfalse hb215)) (wp_skip (hK144 _ _ ?_)); refine reg ?_; refine qm F fun a F => ?_; refine qv F (r_add F rfl rfl) fun a F => ?_; refine qa F fun a F => nil ?_; replace H := HN134 _ (si H).symm; exact hX133 _ _ _ (Nat.lt_succ_self _) ⟨(MpV.mk (fun i_ => if i_ = ((rd ob9.R i130).Rev) then some true else o129.f i_) (o129.n + 1)), (IntKind.i64.wrap (i130 + 1)), c213, F.sub ⟨rfl, rfl, rfl, trivial⟩, E, B, hat13, h16, h186, H⟩
    as_aux_lemma =>
    refine regD (SB No c179 w184) 17 (.q 0 (.q 1 (.q 2 (.q 3 (.q 4 (.q 5 (.q 6 (.q 7 (.q 8 (.q 9 (.q 10 (.q 11 (.q 12 (.q 13 (.e 14 (.q 15 (.q 16 .nil))))))))))))))))) Tryz_hm (by decide +kernel) ?_; intro w189 w1_ w2_ w3_ w4_; have E190 : Ev No c179 w184 c179 w189 := Ev.same w1_ w2_ w3_ w4_; replace B := B.same w1_; have zhat13 := hat13; have zh68 := h68; have zh16 := h16; have ER : Ev No c179 w184 c179 w189 := Ev.same w1_ w2_ w3_ w4_; replace hat13 := hat13.ev E190; replace h16 := h16.ev E190; replace h154 := h154.ev E190; replace h186 := h186.ev E190; replace E := E.n E190; refine dm F ER.sb fun a F => ?_; refine dq F (fun wq hS => r_gtr F rfl rfl) ER.sb fun a F => ?_; refine dm F ER.sb fun a F => ?_
    by_cases hb191 : 0 < i130
    ·replace H := ip hb191 H; refine dy F (dt hb191) (fun wq hS => r_move F rfl) ER.sb fun a F => ?_; refine dy F (dt hb191) (fun wq hS => r_nil F rfl) ER.sb fun a F => ?_; refine dy F (dt hb191) (fun wq hS => r_fieldAddr F rfl ff_53_0) ER.sb fun a F => ?_; refine dy F (dt hb191) (fun wq hS => r_load F rfl ag_51 (AT.cell (AT.sb zhat13 hS nq) rfl)) ER.sb fun a F => ?_; refine dy F (dt hb191) (fun wq hS => r_move F rfl) ER.sb fun a F => ?_
     as_aux_lemma =>
     refine dy F (dt hb191) (fun wq hS => r_sub F rfl rfl) ER.sb fun a F => ?_; replace H := ifN H; obtain ⟨g192, H⟩ := H; obtain ⟨ad193, cs194, e195, h196, r197⟩ := SL.at zh16 (IntKind.i64.wrap (i130 - 1)) g192.1 g192.2; obtain ⟨A198, C199, A201, C202, rfl, h200, h203⟩ := r197; replace h200 := SL.fl (i' := 0) h200 (fun q => q); obtain ⟨qa204, qqa204⟩ : ∃ q, q = (ad193.add ((IntKind.i64.wrap (i130 - 1)).toNat * 3)) := ⟨_, rfl⟩; have h196 : AT true j5 c179 w184 qa204 [.slice A198 ((rd ob9.R (IntKind.i64.wrap (i130 - 1))).Key).length C199, .slice A201 ((rd ob9.R (IntKind.i64.wrap (i130 - 1))).Value).length C202, .int .i64 ((rd ob9.R (IntKind.i64.wrap (i130 - 1))).Rev)] := by rw [qqa204]; exact h196
     replace h200 := h200.ev ER nq nq; have zh196 := h196; refine dy F (dt hb191) (fun wq hS => r_indexAddr' F Tryz.underlying51 sz_62 rfl rfl g192.1 g192.2 e195 qqa204) ER.sb fun a F => ?_; refine dy F (dt hb191) (fun wq hS => r_fieldAddr F rfl ff_62_0) ER.sb fun a F => ?_; refine dy F (dt hb191) (fun wq hS => r_load F rfl ag_29 (AT.cell (AT.sb zh196 hS nq) rfl)) ER.sb fun a F => ?_; refine dy F (dt hb191) (fun wq hS => r_fieldAddr F rfl ff_62_0) ER.sb fun a F => ?_; refine dy F (dt hb191) (fun wq hS => r_load F rfl ag_29 (AT.cell (AT.sb zh68 hS nq) rfl)) ER.sb fun a F => ?_; refine d_e ?_; obtain ⟨t114, q115, H⟩ := bind_some H; refine o_call F rfl (wanted_yes F rfl rfl (by decide) rfl (dt hb191)) rfl (by decide) (r_call F Tryz.func80 rfl (by kernel_rfl) rfl) (haulageref13_order.calls k (m := m + 3) (pl hm0) B h200 h154 (pl hm0) (pl hm0) _ q115) ?_; rintro e w207 ⟨c206, rfl, E208, B⟩; refine rt fun a F => ?_; replace ER := ER.trans E208 nx; replace hat13 := hat13.ev E208
     as_aux_lemma =>
     replace h16 := h16.ev E208; replace h186 := h186.ev E208; replace E := E.n E208; refine ⟨fun _ => ER.sb, ?_⟩; refine dy F (dt hb191) (fun wq hS => r_geq F rfl rfl) ER.sb fun a F => ?_; refine dq F (fun wq hS => r_pick_t F rfl (dt hb191) rfl) ER.sb fun a F => ?_; refine d_nil ?_; exact J212 c206 w207 a (decide (0 ≤ t114)) (F.sub ⟨rfl, rfl, rfl, rfl, trivial⟩) E B hat13 h16 h186 H
    replace H := im hb191 H; refine dn F (dz hb191) ER.sb fun a F => ?_; refine dn F (dz hb191) ER.sb fun a F => ?_; refine dn F (dz hb191) ER.sb fun a F => ?_; refine dn F (dz hb191) ER.sb fun a F => ?_; refine dn F (dz hb191) ER.sb fun a F => ?_; refine dn F (dz hb191) ER.sb fun a F => ?_; refine dn F (dz hb191) ER.sb fun a F => ?_; refine dn F (dz hb191) ER.sb fun a F => ?_; refine dn F (dz hb191) ER.sb fun a F => ?_; refine dn F (dz hb191) ER.sb fun a F => ?_; refine dn F (dz hb191) ER.sb fun a F => ?_; refine d_e ?_; refine o_no F rfl rfl rfl (by decide) rfl (dz hb191) rfl (by decide) fun a F => ?_
    as_aux_lemma =>
    refine ⟨fun _ => ER.sb, ?_⟩; refine dn F (dz hb191) ER.sb fun a F => ?_; refine dq F (fun wq hS => r_pick_f F rfl (dz hb191) rfl) ER.sb fun a F => ?_; refine d_nil ?_; exact J212 c179 w189 a false (F.sub ⟨rfl, rfl, rfl, rfl, trivial⟩) E B hat13 h16 h186 H
   refine regD (SB No c160 w164) 36 (.q 0 (.q 1 (.q 2 (.q 3 (.q 4 (.q 5 (.q 6 (.q 7 (.q 8 (.q 9 (.q 10 (.q 11 (.q 12 (.q 13 (.q 14 (.q 15 (.q 16 (.q 17 (.q 18 (.q 19 (.q 20 (.q 21 (.q 22 (.q 23 (.q 24 (.q 25 (.q 26 (.q 27 (.q 28 (.q 29 (.q 30 (.q 31 (.q 32 (.q 33 (.q 34 (.q 35 .nil)))))))))))))))))))))))))))))))))))) Tryz_hm (by decide +kernel) ?_; intro w169 w1_ w2_ w3_ w4_; have E170 : Ev No c160 w164 c160 w169 := Ev.same w1_ w2_ w3_ w4_; replace B := B.same w1_; have zhat13 := hat13; have zh128 := h128; have zh68 := h68; have ER : Ev No c160 w164 c160 w169 := Ev.same w1_ w2_ w3_ w4_; replace hat13 := hat13.ev E170; replace h16 := h16.ev E170; replace h128 := h128.ev E170; replace h154 := h154.ev E170; replace h68 := h68.ev E170; replace E := E.n E170; refine df F ff_62_0 ER.sb fun a F => ?_; refine dl F ag_29 zh68 nq ER.sb fun a F => ?_; refine dq F (fun wq hS => r_lensl F Tryz.underlying29 rfl) ER.sb fun a F => ?_
   as_aux_lemma =>
   refine dq F (fun wq hS => r_lss F rfl rfl) ER.sb fun a F => ?_; refine dm F ER.sb fun a F => ?_
   by_cases hb171 : (((rd ob9.R i130).Key).length : Int) < 1
   ·replace H := ip hb171 H; refine dn F (dt hb171) ER.sb fun a F => ?_; refine dn F (dt hb171) ER.sb fun a F => ?_; refine dn F (dt hb171) ER.sb fun a F => ?_; refine dn F (dt hb171) ER.sb fun a F => ?_; refine dq F (fun wq hS => r_pick_t F rfl (dt hb171) rfl) ER.sb fun a F => ?_; refine dm F ER.sb fun a F => ?_; refine dn F rfl ER.sb fun a F => ?_; refine dn F rfl ER.sb fun a F => ?_; refine dn F rfl ER.sb fun a F => ?_; refine dn F rfl ER.sb fun a F => ?_; refine dq F (fun wq hS => r_pick_t F rfl rfl rfl) ER.sb fun a F => ?_; refine dm F ER.sb fun a F => ?_; refine dn F rfl ER.sb fun a F => ?_; refine dn F rfl ER.sb fun a F => ?_; refine dn F rfl ER.sb fun a F => ?_; refine dq F (fun wq hS => r_pick_t F rfl rfl rfl) ER.sb fun a F => ?_; refine dm F ER.sb fun a F => ?_; refine dn F rfl ER.sb fun a F => ?_; refine dn F rfl ER.sb fun a F => ?_
    as_aux_lemma =>
    refine dn F rfl ER.sb fun a F => ?_; refine dn F rfl ER.sb fun a F => ?_; refine dn F rfl ER.sb fun a F => ?_; refine dn F rfl ER.sb fun a F => ?_; refine dn F rfl ER.sb fun a F => ?_; refine dq F (fun wq hS => r_pick_t F rfl rfl rfl) ER.sb fun a F => ?_; refine dm F ER.sb fun a F => ?_; refine dn F rfl ER.sb fun a F => ?_; refine dn F rfl ER.sb fun a F => ?_; refine dn F rfl ER.sb fun a F => ?_; refine dn F rfl ER.sb fun a F => ?_; refine dq F (fun wq hS => r_pick_t F rfl rfl rfl) ER.sb fun a F => ?_; refine d_nil ?_; exact J178 c160 w169 a true (F.sub ⟨rfl, rfl, rfl, rfl, rfl, trivial⟩) E B hat13 h68 h16 h128 h154 H
   replace H := im hb171 H; refine dy F (dz hb171) (fun wq hS => r_fieldAddr F rfl ff_62_0) ER.sb fun a F => ?_; refine dy F (dz hb171) (fun wq hS => r_load F rfl ag_29 (AT.cell (AT.sb zh68 hS nq) rfl)) ER.sb fun a F => ?_; refine dy F (dz hb171) (fun wq hS => r_lensl F Tryz.underlying29 rfl) ER.sb fun a F => ?_; refine dy F (dz hb171) (fun wq hS => r_gtr F rfl rfl) ER.sb fun a F => ?_; refine dq F (fun wq hS => r_pick_f F rfl (dz hb171) rfl) ER.sb fun a F => ?_; refine dm F ER.sb fun a F => ?_
   by_cases hb172 : 64 < (((rd ob9.R i130).Key).length : Int)
   ·replace H := ip hb172 H
    as_aux_lemma =>
    refine dn F (dt hb172) ER.sb fun a F => ?_; refine dn F (dt hb172) ER.sb fun a F => ?_; refine dn F (dt hb172) ER.sb fun a F => ?_; refine dn F (dt hb172) ER.sb fun a F => ?_; refine dq F (fun wq hS => r_pick_t F rfl (dt hb172) rfl) ER.sb fun a F => ?_; refine dm F ER.sb fun a F => ?_; refine dn F rfl ER.sb fun a F => ?_; refine dn F rfl ER.sb fun a F => ?_; refine dn F rfl ER.sb fun a F => ?_; refine dq F (fun wq hS => r_pick_t F rfl rfl rfl) ER.sb fun a F => ?_; refine dm F ER.sb fun a F => ?_; refine dn F rfl ER.sb fun a F => ?_; refine dn F rfl ER.sb fun a F => ?_; refine dn F rfl ER.sb fun a F => ?_; refine dn F rfl ER.sb fun a F => ?_; refine dn F rfl ER.sb fun a F => ?_; refine dn F rfl ER.sb fun a F => ?_; refine dn F rfl ER.sb fun a F => ?_; refine dq F (fun wq hS => r_pick_t F rfl rfl rfl) ER.sb fun a F => ?_; refine dm F ER.sb fun a F => ?_; refine dn F rfl ER.sb fun a F => ?_; refine dn F rfl ER.sb fun a F => ?_
    as_aux_lemma =>
    refine dn F rfl ER.sb fun a F => ?_; refine dn F rfl ER.sb fun a F => ?_; refine dq F (fun wq hS => r_pick_t F rfl rfl rfl) ER.sb fun a F => ?_; refine d_nil ?_; exact J178 c160 w169 a true (F.sub ⟨rfl, rfl, rfl, rfl, rfl, trivial⟩) E B hat13 h68 h16 h128 h154 H
   replace H := im hb172 H; refine dy F (dz hb172) (fun wq hS => r_fieldAddr F rfl ff_62_1) ER.sb fun a F => ?_; refine dy F (dz hb172) (fun wq hS => r_load F rfl ag_29 (AT.cell (AT.sb zh68 hS nq) rfl)) ER.sb fun a F => ?_; refine dy F (dz hb172) (fun wq hS => r_lensl F Tryz.underlying29 rfl) ER.sb fun a F => ?_; refine dy F (dz hb172) (fun wq hS => r_gtr F rfl rfl) ER.sb fun a F => ?_; refine dq F (fun wq hS => r_pick_f F rfl (dz hb172) rfl) ER.sb fun a F => ?_; refine dm F ER.sb fun a F => ?_
   by_cases hb173 : 256 < (((rd ob9.R i130).Value).length : Int)
   ·replace H := ip hb173 H; refine dn F (dt hb173) ER.sb fun a F => ?_; refine dn F (dt hb173) ER.sb fun a F => ?_; refine dn F (dt hb173) ER.sb fun a F => ?_; refine dq F (fun wq hS => r_pick_t F rfl (dt hb173) rfl) ER.sb fun a F => ?_; refine dm F ER.sb fun a F => ?_; refine dn F rfl ER.sb fun a F => ?_; refine dn F rfl ER.sb fun a F => ?_; refine dn F rfl ER.sb fun a F => ?_; refine dn F rfl ER.sb fun a F => ?_
    as_aux_lemma =>
    refine dn F rfl ER.sb fun a F => ?_; refine dn F rfl ER.sb fun a F => ?_; refine dn F rfl ER.sb fun a F => ?_; refine dq F (fun wq hS => r_pick_t F rfl rfl rfl) ER.sb fun a F => ?_; refine dm F ER.sb fun a F => ?_; refine dn F rfl ER.sb fun a F => ?_; refine dn F rfl ER.sb fun a F => ?_; refine dn F rfl ER.sb fun a F => ?_; refine dn F rfl ER.sb fun a F => ?_; refine dq F (fun wq hS => r_pick_t F rfl rfl rfl) ER.sb fun a F => ?_; refine d_nil ?_; exact J178 c160 w169 a true (F.sub ⟨rfl, rfl, rfl, rfl, rfl, trivial⟩) E B hat13 h68 h16 h128 h154 H
   replace H := im hb173 H; refine dy F (dz hb173) (fun wq hS => r_fieldAddr F rfl ff_62_2) ER.sb fun a F => ?_; refine dy F (dz hb173) (fun wq hS => r_load F rfl ag_3 (AT.cell (AT.sb zh68 hS nq) rfl)) ER.sb fun a F => ?_; refine dy F (dz hb173) (fun wq hS => r_lss F rfl rfl) ER.sb fun a F => ?_; refine dq F (fun wq hS => r_pick_f F rfl (dz hb173) rfl) ER.sb fun a F => ?_; refine dm F ER.sb fun a F => ?_
   by_cases hb174 : ((rd ob9.R i130).Rev) < 1
   ·replace H := ip hb174 H; refine dn F (dt hb174) ER.sb fun a F => ?_; refine dn F (dt hb174) ER.sb fun a F => ?_; refine dn F (dt hb174) ER.sb fun a F => ?_
    as_aux_lemma =>
    refine dn F (dt hb174) ER.sb fun a F => ?_; refine dn F (dt hb174) ER.sb fun a F => ?_; refine dn F (dt hb174) ER.sb fun a F => ?_; refine dn F (dt hb174) ER.sb fun a F => ?_; refine dq F (fun wq hS => r_pick_t F rfl (dt hb174) rfl) ER.sb fun a F => ?_; refine dm F ER.sb fun a F => ?_; refine dn F rfl ER.sb fun a F => ?_; refine dn F rfl ER.sb fun a F => ?_; refine dn F rfl ER.sb fun a F => ?_; refine dn F rfl ER.sb fun a F => ?_; refine dq F (fun wq hS => r_pick_t F rfl rfl rfl) ER.sb fun a F => ?_; refine d_nil ?_; exact J178 c160 w169 a true (F.sub ⟨rfl, rfl, rfl, rfl, rfl, trivial⟩) E B hat13 h68 h16 h128 h154 H
   replace H := im hb174 H; refine dy F (dz hb174) (fun wq hS => r_fieldAddr F rfl ff_62_2) ER.sb fun a F => ?_; refine dy F (dz hb174) (fun wq hS => r_load F rfl ag_3 (AT.cell (AT.sb zh68 hS nq) rfl)) ER.sb fun a F => ?_; refine dy F (dz hb174) (fun wq hS => r_move F rfl) ER.sb fun a F => ?_; refine dy F (dz hb174) (fun wq hS => r_nil F rfl) ER.sb fun a F => ?_; refine dy F (dz hb174) (fun wq hS => r_fieldAddr F rfl ff_53_1) ER.sb fun a F => ?_; refine dy F (dz hb174) (fun wq hS => r_load F rfl ag_3 (AT.cell (AT.sb zhat13 hS nq) rfl)) ER.sb fun a F => ?_; refine dy F (dz hb174) (fun wq hS => r_gtr F rfl rfl) ER.sb fun a F => ?_; refine dq F (fun wq hS => r_pick_f F rfl (dz hb174) rfl) ER.sb fun a F => ?_
   as_aux_lemma =>
   refine dm F ER.sb fun a F => ?_
   by_cases hb175 : ob9.Rev1 < ((rd ob9.R i130).Rev)
   ·replace H := ip hb175 H; refine dn F (dt hb175) ER.sb fun a F => ?_; refine dn F (dt hb175) ER.sb fun a F => ?_; refine dn F (dt hb175) ER.sb fun a F => ?_; refine dn F (dt hb175) ER.sb fun a F => ?_; refine dq F (fun wq hS => r_pick_t F rfl (dt hb175) rfl) ER.sb fun a F => ?_; refine d_nil ?_; exact J178 c160 w169 a true (F.sub ⟨rfl, rfl, rfl, rfl, rfl, trivial⟩) E B hat13 h68 h16 h128 h154 H
   replace H := im hb175 H; refine dy F (dz hb175) (fun wq hS => r_move F rfl) ER.sb fun a F => ?_; refine dy F (dz hb175) (fun wq hS => r_fieldAddr F rfl ff_62_2) ER.sb fun a F => ?_; refine dy F (dz hb175) (fun wq hS => r_load F rfl ag_3 (AT.cell (AT.sb zh68 hS nq) rfl)) ER.sb fun a F => ?_; replace H := ifN H; obtain ⟨g176, H⟩ := H; refine dy F (dz hb175) (fun wq hS => r_lookupm (emb := Value.bool) (z := false) F Tryz.underlying3 Tryz.underlying118 (fun w => by kernel_rfl) rfl rfl (MU118.ev zh128 hS nq nq) g176) ER.sb fun a F => ?_; refine dq F (fun wq hS => r_pick_f F rfl (dz hb175) rfl) ER.sb fun a F => ?_; refine d_nil ?_; exact J178 c160 w169 a ((o129.f ((rd ob9.R i130).Rev)).getD false) (F.sub ⟨rfl, rfl, rfl, rfl, rfl, trivial⟩) E B hat13 h68 h16 h128 h154 H
  replace H := im hb143 H; refine wcf (fb F (dz hb143)) ?_; refine wp_exit ?_
  as_aux_lemma =>
  refine thenE ?_; refine thenE ?_; refine inbE ?_; have hx_ := HD135 _ (si H).symm; have H := HR139; rw [← hx_] at H; exact J221 c131 w132 a  (F.sub trivial) E B  H
 refine reg ?_; refine qm F fun a F => ?_; obtain ⟨ob9, e10, H⟩ := bind_some H; have z11 := h3; rw [e10] at z11; obtain ⟨ad12, A14, C15, rfl, hat13, h16⟩ := TB3.some z11; refine qi F fun a F => ?_; refine qf F ff_53_1 fun a F => ?_; refine ql F ag_3 hat13 fun a F => ?_; refine qv F (r_lss F rfl rfl) fun a F => ?_; refine qm F fun a F => ?_
 by_cases hb18 : ob9.Rev1 < 0
 ·replace H := ip hb18 H; refine qn F (dt hb18) fun a F => qn F (dt hb18) fun a F => qn F (dt hb18) fun a F => qn F (dt hb18) fun a F => qn F (dt hb18) fun a F => ?_; refine qv F (r_pick_t F rfl (dt hb18) rfl) fun a F => ?_; refine nil ?_; exact J20 c0 w0 a ad12 A14 ob9 C15 true (F.sub ⟨rfl, rfl, trivial⟩) E B hat13 h16 H
 as_aux_lemma =>
 replace H := im hb18 H; refine qy F (dz hb18) ?_; refine qm F fun a F => ?_; refine qy F (dz hb18) ?_; refine qi F fun a F => ?_; refine qy F (dz hb18) ?_; refine qf F ff_53_1 fun a F => ?_; refine qy F (dz hb18) ?_; refine ql F ag_3 hat13 fun a F => ?_; refine qy F (dz hb18) ?_; refine qv F (r_gtr F rfl rfl) fun a F => ?_; refine qv F (r_pick_f F rfl (dz hb18) rfl) fun a F => ?_; refine nil ?_; exact J20 c0 w0 a ad12 A14 ob9 C15 (decide (1099511627776 < ob9.Rev1)) (F.sub ⟨rfl, rfl, trivial⟩) E B hat13 h16 H
theorem haulageref13_Read.calls (k : Nat) {m : Nat} {c0 : Nat → Nat} {w0 : World} {j5 : Nat} {A2 : Option Addr} {C3 : Nat} {a1 : List Int} (hm0 : 0 < m) (B0 : CB m c0 w0) (h4 : SL false (Kint .u8) j5 0 c0 w0 A2 C3 a1) (bj5 : j5 < m) (jr364 : Nat) (bjr364 : jr364 < m) (jr365 : Nat) (bjr365 : jr365 < m) (r : (Option Tb3) × Int) (H : haulageref13_Read.f k a1 = some r) : Calls Tryz.prog 14 #[.slice A2 a1.length C3] w0 (fun e w_ => ∃ (c_ : Nat → Nat) (P0_ : Option Addr), e = .returned (.tuple #[.pointer P0_, .int .i64 r.2]) ∧ Ev (fun x => False) c0 w0 c_ w_ ∧ CB m c_ w_ ∧ TB3 jr364 jr365 c_ w_ P0_ r.1) := by
 unfold haulageref13_Read.f at H; have B := B0.mono (show m ≤ m + 6 by omega); have E : Ev (fun x => False ∨ m ≤ x) c0 w0 c0 w0 := Ev.refl; refine enter (N := 67) (l := [.slice A2 a1.length C3]) Tryz.func14 rfl rfl (nb rfl) fun a F => ?_; refine sr fun K6 hK6 => qa F fun a F => qa F fun a F => nil (hK6 _ _ ?_); refine sr fun K7 hK7 => qm F fun a F => ?_; obtain ⟨t8, q9, H⟩ := bind_some H; refine qc F Tryz.func46 (haulageref01_Read.calls k (m := m + 6) (pl hm0) B h4 (Nat.lt_add_right _ bj5) (m + 1) lm (m + 2) lm _ q9) ?_; rintro e w11 ⟨c10, p14, rfl, E12, B, h15⟩; refine rt fun a F => ?_; replace h4 := h4.ev E12; replace E := E.n E12; refine qa F fun a F => nil (hK7 _ _ ?_); refine sr fun K17 hK17 => qm F fun a F => ?_; obtain ⟨t18, q19, H⟩ := bind_some H; refine qc F Tryz.func47 (haulageref01_Reader_Num.calls k (m := m + 6) (pl hm0) B h15 ⟨(pl hm0), lm⟩ ⟨(pl hm0), lm, mm⟩ _ q19) ?_; rintro e w21 ⟨c20, rfl, E22, B, h24⟩; refine rt fun a F => ?_; replace h4 := h4.ev E22 (nor (ne_pm bj5) (ne_pm bj5)) (nor ne_zm ne_zm); replace E := E.trans E22 lc2; refine qv F (r_convi F Tryz.underlying3 rfl rfl) fun a F => ?_; refine qv F (r_build (v := .agg #[.slice none 0 0, .int .i64 (IntKind.i64.wrap t18.1)]) F [(1, .int .i64 (IntKind.i64.wrap t18.1))] (by exact ⟨rfl, rfl, trivial⟩) (fun w => by kernel_rfl)) fun a F => ?_; refine q_eff F rfl rfl (by decide) (e_box F (v := .agg #[.slice none 0 0, .int .i64 (IntKind.i64.wrap t18.1)]) rfl c20 (m + 3)) ?_; rintro v w27 a ⟨c26, qa28, rfl, E29, h30, B31⟩ F; replace B := B31 _ B lm; replace h4 := h4.ev E29; replace h24 := h24.ev E29; replace E := E.n E29; replace h30 : AT _ _ _ _ _ [.slice none 0 0, .int .i64 (IntKind.i64.wrap t18.1)] := h30; refine qa F fun a F => nil (hK17 _ _ ?_); replace F : Fr a 67 [(0, .slice A2 a1.length C3), (4, .pointer p14), (5, .pointer (some qa28))] := F.sub ⟨rfl, rfl, rfl, trivial⟩; refine sr fun K33 hK33 => qm F fun a F => ?_; obtain ⟨t34, q35, H⟩ := bind_some H; refine qc F Tryz.func47 (haulageref01_Reader_Num.calls k (m := m + 6) (pl hm0) B h24 ⟨(pl hm0), lm⟩ ⟨(pl hm0), lm, mm⟩ _ q35) ?_; rintro e w37 ⟨c36, rfl, E38, B, h40⟩; refine rt fun a F => ?_; replace h4 := h4.ev E38 (nor (ne_pm bj5) (ne_pm bj5)) (nor ne_zm ne_zm); replace h30 := h30.ev E38 (nor mm mm); replace E := E.trans E38 lc2; refine qa F fun a F => nil (hK33 _ _ ?_); refine sq fun K42 hK42 => ?_; refine sr fun K43 hK43 => qa F fun a F => nil (hK43 _ _ ?_); refine wp_block ?_; obtain ⟨x182, HL, HR181⟩ := bind_some H; have J297 : ∀ (c298 : Nat → Nat) (w299 : World) (a : Act) (o292 : Option Rd1) (l294 : List api_Row) (A295 : Option Addr) (C296 : Nat), Fr a 67 [(0, .slice A2 a1.length C3), (4, .pointer p14), (5, .pointer (some qa28))] → Ev (fun x => False ∨ m ≤ x) c0 w0 c298 w299 → CB (m + 6) c298 w299 → AT true (m + 3) c298 w299 qa28 [.slice A295 l294.length C296, .int .i64 (IntKind.i64.wrap t18.1)] → SL false (Kint .u8) j5 0 c298 w299 A2 C3 a1 → RD1 (m + 1) (m + 2) c298 w299 p14 o292 → SL true K_api_Row (m + 5) 0 c298 w299 A295 C296 l294 → haulageref13_Read.j4 k a1 t18 o292 l294 = some r → K42 a w299 := by
  intro c298 w299 a o292 l294 A295 C296 F E B h30 h4 h291 h293 H; unfold haulageref13_Read.j4 at H; refine hK42 _ _ ?_; refine sq fun K300 hK300 => ?_; refine sq fun K301 hK301 => ?_; have J357 : ∀ (c358 : Nat → Nat) (w359 : World) (a : Act) (b356 : Bool), Fr a 67 [(5, .pointer (some qa28)), (65, .bool b356)] → Ev (fun x => False ∨ m ≤ x) c0 w0 c358 w359 → CB (m + 6) c358 w359 → AT true (m + 3) c358 w359 qa28 [.slice A295 l294.length C296, .int .i64 (IntKind.i64.wrap t18.1)] → SL true K_api_Row (m + 5) 0 c358 w359 A295 C296 l294 → haulageref13_Read.j5 t18 l294 b356 = some r → K301 a w359 := by
   intro c358 w359 a b356 F E B h30 h293 H; unfold haulageref13_Read.j5 at H; refine hK301 _ _ ?_
   by_cases hb360 : b356 = true
   ·replace H := ip hb360 H; refine wct (fb F hb360) ?_; refine sr fun K361 hK361 => qa F fun a F => qa F fun a F => nil (hK361 _ _ ?_); refine wp_ret ?_; refine thenR ?_; obtain rfl := si H; refine out2 F rfl rfl rfl ?_; exact ⟨cf (fun x_ => if x_ = m + 3 then jr364 else if x_ = m + 5 then jr365 else if x_ < m then x_ else 0) c358, none, rfl, E.lv B0, cfb, TB3.nil⟩
   replace H := im hb360 H; refine wcf (fb F (bfalse hb360)) (wp_skip (hK300 _ _ ?_)); refine sr fun K362 hK362 => qm F fun a F => qa F fun a F => qa F fun a F => nil (hK362 _ _ ?_); refine wp_ret ?_; have h363 : TB3 (m + 3) (m + 5) c358 w359 (some qa28) (some (Tb3.mk l294 (IntKind.i64.wrap t18.1))) := TB3.mk h30 h293; obtain rfl := si H; refine out2 F rfl rfl rfl ?_; exact ⟨cf (fun x_ => if x_ = m + 3 then jr364 else if x_ = m + 5 then jr365 else if x_ < m then x_ else 0) c358, (some qa28), rfl, E.lv B0, cfb, TB3.rc h363 cfk cfk cfk⟩
  refine regD (SB No c298 w299) 16 (.q 0 (.e 1 (.q 2 (.q 3 (.q 4 (.e 5 (.q 6 (.q 7 (.q 8 (.q 9 (.q 12 (.q 13 (.e 10 (.e 11 (.q 14 (.q 15 .nil)))))))))))))))) Tryz_hm (by decide +kernel) ?_; intro w332 w1_ w2_ w3_ w4_; have E333 : Ev No c298 w299 c298 w332 := Ev.same w1_ w2_ w3_ w4_; replace B := B.same w1_; have zh4 := h4; have ER : Ev No c298 w299 c298 w332 := Ev.same w1_ w2_ w3_ w4_; replace h30 := h30.ev E333; replace h291 := h291.ev E333; replace h293 := h293.ev E333; replace E := E.n E333; refine dm F ER.sb fun a F => ?_; refine d_e ?_; obtain ⟨t304, q305, H⟩ := bind_some H; refine oc F Tryz.func49 (haulageref01_Reader_Done.calls (m := m + 6) (pl hm0) B h291 lm ⟨lm, mm⟩ _ q305) ?_; rintro e w335 ⟨c334, rfl, E336, B⟩; refine rt fun a F => ?_; replace ER := ER.trans E336 nx; replace h30 := h30.ev E336; replace h293 := h293.ev E336; replace E := E.n E336; refine ⟨fun _ => ER.sb, ?_⟩; refine dq F (fun wq hS => r_neq F rfl rfl) ER.sb fun a F => ?_; refine dm F ER.sb fun a F => ?_
  by_cases hb339 : t304 = 0
  ·replace H := ip hb339 H; refine dy F (congrArg not (dt hb339)) (fun wq hS => r_move F rfl) ER.sb fun a F => ?_; refine d_e ?_; have h340 : TB3 (m + 3) (m + 5) c334 w335 (some qa28) (some (Tb3.mk l294 (IntKind.i64.wrap t18.1))) := TB3.mk h30 h293; obtain ⟨t313, q314, H⟩ := bind_some H; refine o_call F rfl (wanted_yes F rfl rfl (by decide) rfl (congrArg not (dt hb339))) rfl (by decide) (r_call F Tryz.func50 rfl (by kernel_rfl) rfl) (haulageref13_Sound.calls k (m := m + 6) (pl hm0) B h340 lm ⟨lm, mm⟩ _ q314) ?_; rintro e w342 ⟨c341, rfl, E343, B⟩; refine rt fun a F => ?_; replace ER := ER.trans E343 nx; replace h30 := h30.ev E343; replace h293 := h293.ev E343; replace E := E.n E343; refine ⟨fun _ => ER.sb, ?_⟩; refine dy F (congrArg not (dt hb339)) (fun wq hS => r_not F rfl) ER.sb fun a F => ?_; refine dq F (fun wq hS => r_pick_f F rfl (congrArg not (dt hb339)) rfl) ER.sb fun a F => ?_; refine dm F ER.sb fun a F => ?_
   by_cases hb346 : t313 = true
   ·replace H := ip hb346 H; refine dy F (congrArg not hb346) (fun wq hS => r_move F rfl) ER.sb fun a F => ?_; refine dy F (congrArg not hb346) (fun wq hS => r_move F rfl) ER.sb fun a F => ?_; refine dy F (congrArg not hb346) (fun wq hS => r_bytesStr F Tryz.underlying29 Tryz.underlying5 Tryz.underlying9 rfl (SL.sb zh4 hS nq nq)) ER.sb fun a F => ?_; refine d_e ?_; have h347 : TB3 (m + 3) (m + 5) c341 w342 (some qa28) (some (Tb3.mk l294 (IntKind.i64.wrap t18.1))) := TB3.mk h30 h293; obtain ⟨t322, q323, H⟩ := bind_some H; refine o_call F rfl (wanted_yes F rfl rfl (by decide) rfl (congrArg not hb346)) rfl (by decide) (r_call F Tryz.func28 rfl (by kernel_rfl) rfl) (haulageref13_Table_Bytes.calls k (m := m + 6) (pl hm0) B h347 lm ⟨lm, mm⟩ _ q323) ?_; rintro e w349 ⟨c348, A352, C353, rfl, E350, B, h354⟩; refine rt fun a F => ?_; replace ER := ER.trans E350 nx; replace h30 := h30.ev E350; replace h293 := h293.ev E350; replace E := E.n E350; refine ⟨fun _ => ER.sb, ?_⟩; refine d_e ?_; refine o_valG F rfl (wanted_yes F rfl rfl (by decide) rfl (congrArg not hb346)) rfl (by decide) (r_bytesStr F Tryz.underlying29 Tryz.underlying5 Tryz.underlying9 rfl h354) fun a F => ?_; refine ⟨fun _ => ER.sb, ?_⟩; refine dy F (congrArg not hb346) (fun wq hS => r_sneq F rfl rfl) ER.sb fun a F => ?_; refine dq F (fun wq hS => r_pick_f F rfl (congrArg not hb346) rfl) ER.sb fun a F => ?_; refine d_nil ?_; exact J357 c348 w349 a (!((bs t322).toList == (bs a1).toList)) (F.sub ⟨rfl, rfl, trivial⟩) E B h30 h293 H
   replace H := im hb346 H; refine dn F (congrArg not (bfalse hb346)) ER.sb fun a F => ?_; refine dn F (congrArg not (bfalse hb346)) ER.sb fun a F => ?_; refine dn F (congrArg not (bfalse hb346)) ER.sb fun a F => ?_; refine d_e ?_; refine o_no F rfl rfl rfl (by decide) rfl (congrArg not (bfalse hb346)) rfl (by decide) fun a F => ?_; refine ⟨fun _ => ER.sb, ?_⟩; refine d_e ?_; refine o_no F rfl rfl rfl (by decide) rfl (congrArg not (bfalse hb346)) rfl (by decide) fun a F => ?_; refine ⟨fun _ => ER.sb, ?_⟩; refine dn F (congrArg not (bfalse hb346)) ER.sb fun a F => ?_; refine dq F (fun wq hS => r_pick_t F rfl (congrArg not (bfalse hb346)) rfl) ER.sb fun a F => ?_; refine d_nil ?_; exact J357 c341 w342 a true (F.sub ⟨rfl, rfl, trivial⟩) E B h30 h293 H
  replace H := im hb339 H; refine dn F (congrArg not (dz hb339)) ER.sb fun a F => ?_; refine d_e ?_; refine o_no F rfl rfl rfl (by decide) rfl (congrArg not (dz hb339)) rfl (by decide) fun a F => ?_; refine ⟨fun _ => ER.sb, ?_⟩; refine dn F (congrArg not (dz hb339)) ER.sb fun a F => ?_; refine dq F (fun wq hS => r_pick_t F rfl (congrArg not (dz hb339)) rfl) ER.sb fun a F => ?_; refine dm F ER.sb fun a F => ?_; refine dn F rfl ER.sb fun a F => ?_; refine dn F rfl ER.sb fun a F => ?_; refine dn F rfl ER.sb fun a F => ?_; refine d_e ?_; refine o_no F rfl rfl rfl (by decide) rfl rfl rfl (by decide) fun a F => ?_; refine ⟨fun _ => ER.sb, ?_⟩; refine d_e ?_; refine o_no F rfl rfl rfl (by decide) rfl rfl rfl (by decide) fun a F => ?_; refine ⟨fun _ => ER.sb, ?_⟩; refine dn F rfl ER.sb fun a F => ?_; refine dq F (fun wq hS => r_pick_t F rfl rfl rfl) ER.sb fun a F => ?_; refine d_nil ?_; exact J357 c334 w335 a true (F.sub ⟨rfl, rfl, trivial⟩) E B h30 h293 H
 refine loop_fuel (I := fun n a w => ∃ (o167 : Option Rd1) (i168 : Int) (l172 : List api_Row) (A169 : Option Addr) (C170 : Nat) (c : Nat → Nat), Fr a 67 [(0, .slice A2 a1.length C3), (4, .pointer p14), (5, .pointer (some qa28)), (6, .int .u64 t34.1), (7, .int .u64 i168)] ∧ Ev (fun x => False ∨ m ≤ x) c0 w0 c w ∧ CB (m + 6) c w ∧ AT true (m + 3) c w qa28 [.slice A169 l172.length C170, .int .i64 (IntKind.i64.wrap t18.1)] ∧ SL false (Kint .u8) j5 0 c w A2 C3 a1 ∧ RD1 (m + 1) (m + 2) c w p14 o167 ∧ SL true K_api_Row (m + 5) 0 c w A169 C170 l172 ∧ loop (fun (s_ : (Option Rd1) × Int × (List api_Row)) => haulageref13_Read.b3 k t34 s_.1 s_.2.1 s_.2.2) n (o167, i168, l172) = some x182) (k := k) ⟨t34.2, 0, [], none, 0, c36, F.sub ⟨rfl, rfl, rfl, rfl, rfl, trivial⟩, E, B, h30, h4, h40, SL.nil, HL⟩ ?_; clear HL H E F B; intro n179 X175 hX175 a w174 ⟨o167, i168, l172, A169, C170, c173, F, E, B, h30, h4, h166, h171, HL⟩; obtain ⟨n180, ctl178, rfl, HB, HN176, HD177⟩ := loop_some HL; have H : haulageref13_Read.b3 k t34 o167 i168 l172 = some ctl178 := HB; clear HB HL; unfold haulageref13_Read.b3 at H; refine sq fun K183 hK183 => ?_; refine sq fun K184 hK184 => ?_; have J199 : ∀ (c200 : Nat → Nat) (w201 : World) (a : Act) (b198 : Bool), Fr a 67 [(0, .slice A2 a1.length C3), (4, .pointer p14), (5, .pointer (some qa28)), (6, .int .u64 t34.1), (7, .int .u64 i168), (27, .bool b198)] → Ev (fun x => False ∨ m ≤ x) c0 w0 c200 w201 → CB (m + 6) c200 w201 → AT true (m + 3) c200 w201 qa28 [.slice A169 l172.length C170, .int .i64 (IntKind.i64.wrap t18.1)] → SL false (Kint .u8) j5 0 c200 w201 A2 C3 a1 → RD1 (m + 1) (m + 2) c200 w201 p14 o167 → SL true K_api_Row (m + 5) 0 c200 w201 A169 C170 l172 → haulageref13_Read.j2 k o167 i168 l172 b198 = some ctl178 → K184 a w201 := by
  intro c200 w201 a b198 F E B h30 h4 h166 h171 H; unfold haulageref13_Read.j2 at H; refine hK184 _ _ ?_
  by_cases hb202 : b198 = true
  ·replace H := ip hb202 H; refine wct (fb F hb202) (wp_skip (hK183 _ _ ?_)); refine sq fun K203 hK203 => ?_; refine wp_block ?_; refine sr fun K204 hK204 => ?_; refine q_eff F rfl rfl (by decide) (e_alloc F zv_62 c200 (m + 4)) ?_; rintro v w206 a ⟨c205, qa79, rfl, E207, h81, B208⟩ F; replace B := B208 _ B lm; replace h30 := h30.ev E207; replace h4 := h4.ev E207; replace h166 := h166.ev E207; replace h171 := h171.ev E207; replace E := E.n E207; replace h81 : AT _ _ _ _ _ [.slice none 0 0, .slice none 0 0, .int .i64 0] := h81; refine nil (hK204 _ _ ?_); refine sr fun K209 hK209 => qm F fun a F => ?_; obtain ⟨t85, q86, H⟩ := bind_some H; refine qc F Tryz.func48 (haulageref01_Reader_Text.calls k (m := m + 6) (pl hm0) B h166 ⟨(pl hm0), lm⟩ ⟨(pl hm0), lm, mm⟩ _ q86) ?_; rintro e w211 ⟨c210, A214, C215, rfl, E212, B, h216, h217⟩; refine rt fun a F => ?_; replace h30 := h30.ev E212 (nor mm mm); replace h4 := h4.ev E212 (nor (ne_pm bj5) (ne_pm bj5)) (nor ne_zm ne_zm); replace h171 := h171.ev E212 (nor mm mm) (nor ne_zm ne_zm); replace h81 := h81.ev E212 (nor mm mm); replace E := E.trans E212 lc2; refine qf F ff_62_0 fun a F => ?_; refine q_eff0 F rfl rfl (e_store F rfl rfl sz_29 h81 (nb rfl) rfl) ?_; rintro w219 a ⟨E220, h81, Z221⟩ F; replace B := B.size Z221; replace h30 := h30.ev E220; replace h4 := h4.ev E220 (ne_pm bj5) ne_zm; replace h171 := h171.ev E220; replace h216 := h216.ev E220; replace h217 := h217.ev E220; replace E := E.trans E220 lc1; replace h81 : AT _ _ _ _ _ [.slice A214 t85.1.length C215, .slice none 0 0, .int .i64 0] := h81; refine nil (hK209 _ _ ?_); refine sr fun K222 hK222 => qm F fun a F => ?_; obtain ⟨t100, q101, H⟩ := bind_some H; refine qc F Tryz.func48 (haulageref01_Reader_Text.calls k (m := m + 6) (pl hm0) B h217 ⟨(pl hm0), lm⟩ ⟨(pl hm0), lm, mm⟩ _ q101) ?_; rintro e w224 ⟨c223, A227, C228, rfl, E225, B, h229, h230⟩; refine rt fun a F => ?_; replace h30 := h30.ev E225 (nor mm mm); replace h4 := h4.ev E225 (nor (ne_pm bj5) (ne_pm bj5)) (nor ne_zm ne_zm); replace h171 := h171.ev E225 (nor mm mm) (nor ne_zm ne_zm); replace h81 := h81.ev E225 (nor mm mm); replace h216 := h216.ev E225 (nor ne_zm ne_zm) (nor ne_zm ne_zm); replace E := E.trans E225 lc2; refine qf F ff_62_1 fun a F => ?_; refine q_eff0 F rfl rfl (e_store F rfl rfl sz_29 h81 (nb rfl) rfl) ?_; rintro w232 a ⟨E233, h81, Z234⟩ F; replace B := B.size Z234; replace h30 := h30.ev E233; replace h4 := h4.ev E233 (ne_pm bj5) ne_zm; replace h171 := h171.ev E233; replace h216 := h216.ev E233; replace h229 := h229.ev E233; replace h230 := h230.ev E233; replace E := E.trans E233 lc1; replace h81 : AT _ _ _ _ _ [.slice A214 t85.1.length C215, .slice A227 t100.1.length C228, .int .i64 0] := h81; refine nil (hK222 _ _ ?_); refine sr fun K235 hK235 => qm F fun a F => ?_; obtain ⟨t115, q116, H⟩ := bind_some H; refine qc F Tryz.func47 (haulageref01_Reader_Num.calls k (m := m + 6) (pl hm0) B h230 ⟨(pl hm0), lm⟩ ⟨(pl hm0), lm, mm⟩ _ q116) ?_; rintro e w237 ⟨c236, rfl, E238, B, h240⟩; refine rt fun a F => ?_
   replace h30 := h30.ev E238 (nor mm mm); replace h4 := h4.ev E238 (nor (ne_pm bj5) (ne_pm bj5)) (nor ne_zm ne_zm); replace h171 := h171.ev E238 (nor mm mm) (nor ne_zm ne_zm); replace h81 := h81.ev E238 (nor mm mm); replace h216 := h216.ev E238 (nor ne_zm ne_zm) (nor ne_zm ne_zm); replace h229 := h229.ev E238 (nor ne_zm ne_zm) (nor ne_zm ne_zm); replace E := E.trans E238 lc2; refine qv F (r_convi F Tryz.underlying3 rfl rfl) fun a F => ?_; refine qf F ff_62_2 fun a F => ?_; refine q_eff0 F rfl rfl (e_store F rfl rfl sz_3 h81 (nb rfl) rfl) ?_; rintro w242 a ⟨E243, h81, Z244⟩ F; replace B := B.size Z244; replace h30 := h30.ev E243; replace h4 := h4.ev E243 (ne_pm bj5) ne_zm; replace h171 := h171.ev E243; replace h216 := h216.ev E243; replace h229 := h229.ev E243; replace h240 := h240.ev E243; replace E := E.trans E243 lc1; replace h81 : AT _ _ _ _ _ [.slice A214 t85.1.length C215, .slice A227 t100.1.length C228, .int .i64 (IntKind.i64.wrap t115.1)] := h81; refine nil (hK235 _ _ ?_); replace F : Fr a 67 [(0, .slice A2 a1.length C3), (4, .pointer p14), (5, .pointer (some qa28)), (6, .int .u64 t34.1), (7, .int .u64 i168), (8, .pointer (some qa79))] := F.sub ⟨rfl, rfl, rfl, rfl, rfl, rfl, trivial⟩; refine regD (SB (fun x => x = m + 5 ∨ x = m + 3) c236 w242) 11 (.q 0 (.q 1 (.q 2 (.q 3 (.q 5 (.f 4 (.e 6 (.e 7 (.q 8 (.q 9 (.e 10 .nil))))) 6 (.e 4 (.e 7 (.q 8 (.q 9 (.e 10 .nil))))))))))) Tryz_hm (by decide +kernel) ?_; intro w247 w1_ w2_ w3_ w4_; have E248 : Ev No c236 w242 c236 w247 := Ev.same w1_ w2_ w3_ w4_; replace B := B.same w1_; have zh81 := h81; have ER : Ev (fun x => x = m + 5 ∨ x = m + 3) c236 w242 c236 w247 := Ev.same w1_ w2_ w3_ w4_; replace h30 := h30.ev E248; replace h4 := h4.ev E248; replace h171 := h171.ev E248; replace h216 := h216.ev E248; replace h229 := h229.ev E248; replace h240 := h240.ev E248; replace E := E.n E248; refine dm F ER.sb fun a F => ?_; refine dm F ER.sb fun a F => ?_; refine di F ER.sb fun a F => ?_; refine df F ff_53_0 ER.sb fun a F => ?_; refine dq F (fun wq hS => r_loads (cs := [.slice A214 t85.1.length C215, .slice A227 t100.1.length C228, .int .i64 (IntKind.i64.wrap t115.1)]) F rfl ag_62 sz_62 (AT.sb zh81 hS (nor mm mm))) ER.sb fun a F => ?_; refine d_f ?_ ?_
   ·refine o_val F rfl rfl rfl (by decide) (r_load F rfl ag_51 (AT.cell h30 rfl)) fun a F => ?_; refine ⟨fun _ => ER.sb, ?_⟩; refine d_e ?_; refine o_eff F rfl rfl rfl (by decide) (e_buildSlice (n := 1) (e := 62) (c := c236) (k := K_api_Row) (i := 0) F [(0, .agg #[.slice A214 t85.1.length C215, .slice A227 t100.1.length C228, .int .i64 (IntKind.i64.wrap t115.1)])] [.slice A214 t85.1.length C215, .slice A227 t100.1.length C228, .int .i64 (IntKind.i64.wrap t115.1)] ([api_Row.mk t85.1 t100.1 (IntKind.i64.wrap t115.1)] : List api_Row) (by exact ⟨rfl, rfl, trivial⟩) (fun w => by kernel_rfl) rfl (by decide) rfl ⟨⟨A214, C215, A227, C228, rfl, (SL.fl h216 (fun q => q)), (SL.fl h229 (fun q => q))⟩, trivial⟩ (fun q => q) 0) ?_; rintro v w250 a ⟨c249, A251, C252, rfl, E253, h254, B255⟩ F; replace B := B255 _ B (pl hm0); replace ER := ER.trans E253 nx; replace h30 := h30.ev E253; replace h4 := h4.ev E253; replace h171 := h171.ev E253; replace h240 := h240.ev E253; replace E := E.n E253; refine ⟨fun _ => ER.sb, ?_⟩; refine d_e ?_; replace H := ifN H; obtain ⟨g137, H⟩ := H; refine o_eff F rfl rfl rfl (by decide) (e_append (k := K_api_Row) (xs := l172) (ys := [api_Row.mk t85.1 t100.1 (IntKind.i64.wrap t115.1)]) (c := c249) (j := (m + 5)) (i := 0) F et_51 rfl rfl h171 h254 g137 (len_ok g137) ne_zm) ?_; rintro v w257 a ⟨c256, A258, C259, rfl, E260, h261, B262⟩ F; replace B := B262 _ B lm; replace ER := ER.trans E260 (fun x q => by replace q : x = m + 5 := q; show x = m + 5 ∨ x = m + 3; omega); replace h30 := h30.ev E260; replace h4 := h4.ev E260 (ne_pm bj5) ne_zm; replace h240 := h240.ev E260; replace E := E.trans E260 lc1; refine ⟨fun _ => ER.sb, ?_⟩; refine di F ER.sb fun a F => ?_; refine df F ff_53_0 ER.sb fun a F => ?_; refine d_e ?_; refine o_eff0 F rfl rfl rfl (e_store F rfl rfl sz_51 h30 (nb rfl) rfl) ?_; rintro w263 a ⟨E264, h30, Z265⟩ F; replace B := B.size Z265; replace ER := ER.trans E264 (fun x q => by replace q : x = m + 3 := q; show x = m + 5 ∨ x = m + 3; omega); replace h4 := h4.ev E264 (ne_pm bj5) ne_zm; replace h240 := h240.ev E264; replace h261 := h261.ev E264; replace E := E.trans E264 lc1; replace h30 : AT _ _ _ _ _ [.slice A258 (l172 ++ [api_Row.mk t85.1 t100.1 (IntKind.i64.wrap t115.1)]).length C259, .int .i64 (IntKind.i64.wrap t18.1)] := h30; refine ⟨fun _ => ER.sb, ?_⟩; refine d_nil ?_; refine hK203 _ _ ?_; replace F : Fr a 67 [(0, .slice A2 a1.length C3), (4, .pointer p14), (5, .pointer (some qa28)), (6, .int .u64 t34.1), (7, .int .u64 i168)] := F.sub ⟨rfl, rfl, rfl, rfl, rfl, trivial⟩; refine reg ?_; refine qm F fun a F => ?_; refine qv F (r_add F rfl rfl) fun a F => ?_; refine qa F fun a F => nil ?_; replace H := HN176 _ (si H).symm; exact hX175 _ _ _ (Nat.lt_succ_self _) ⟨t115.2, (IntKind.u64.wrap (i168 + 1)), (l172 ++ [api_Row.mk t85.1 t100.1 (IntKind.i64.wrap t115.1)]), A258, C259, c256, F.sub ⟨rfl, rfl, rfl, rfl, rfl, trivial⟩, E, B, h30, h4, h240, h261, H⟩
   refine o_eff F rfl rfl rfl (by decide) (e_buildSlice (n := 1) (e := 62) (c := c236) (k := K_api_Row) (i := 0) F [(0, .agg #[.slice A214 t85.1.length C215, .slice A227 t100.1.length C228, .int .i64 (IntKind.i64.wrap t115.1)])] [.slice A214 t85.1.length C215, .slice A227 t100.1.length C228, .int .i64 (IntKind.i64.wrap t115.1)] ([api_Row.mk t85.1 t100.1 (IntKind.i64.wrap t115.1)] : List api_Row) (by exact ⟨rfl, rfl, trivial⟩) (fun w => by kernel_rfl) rfl (by decide) rfl ⟨⟨A214, C215, A227, C228, rfl, (SL.fl h216 (fun q => q)), (SL.fl h229 (fun q => q))⟩, trivial⟩ (fun q => q) 0) ?_; rintro v w267 a ⟨c266, A268, C269, rfl, E270, h271, B272⟩ F; replace B := B272 _ B (pl hm0); replace ER := ER.trans E270 nx; replace h30 := h30.ev E270; replace h4 := h4.ev E270; replace h171 := h171.ev E270; replace h240 := h240.ev E270; replace E := E.n E270; refine ⟨fun _ => ER.sb, ?_⟩; refine d_e ?_; refine o_val F rfl rfl rfl (by decide) (r_load F rfl ag_51 (AT.cell h30 rfl)) fun a F => ?_; refine ⟨fun _ => ER.sb, ?_⟩; refine d_e ?_; replace H := ifN H; obtain ⟨g137, H⟩ := H; refine o_eff F rfl rfl rfl (by decide) (e_append (k := K_api_Row) (xs := l172) (ys := [api_Row.mk t85.1 t100.1 (IntKind.i64.wrap t115.1)]) (c := c266) (j := (m + 5)) (i := 0) F et_51 rfl rfl h171 h271 g137 (len_ok g137) ne_zm) ?_; rintro v w274 a ⟨c273, A275, C276, rfl, E277, h278, B279⟩ F; replace B := B279 _ B lm; replace ER := ER.trans E277 (fun x q => by replace q : x = m + 5 := q; show x = m + 5 ∨ x = m + 3; omega); replace h30 := h30.ev E277; replace h4 := h4.ev E277 (ne_pm bj5) ne_zm; replace h240 := h240.ev E277; replace E := E.trans E277 lc1; refine ⟨fun _ => ER.sb, ?_⟩; refine di F ER.sb fun a F => ?_; refine df F ff_53_0 ER.sb fun a F => ?_; refine d_e ?_; refine o_eff0 F rfl rfl rfl (e_store F rfl rfl sz_51 h30 (nb rfl) rfl) ?_; rintro w280 a ⟨E281, h30, Z282⟩ F; replace B := B.size Z282; replace ER := ER.trans E281 (fun x q => by replace q : x = m + 3 := q; show x = m + 5 ∨ x = m + 3; omega); replace h4 := h4.ev E281 (ne_pm bj5) ne_zm; replace h240 := h240.ev E281; replace h278 := h278.ev E281; replace E := E.trans E281 lc1; replace h30 : AT _ _ _ _ _ [.slice A275 (l172 ++ [api_Row.mk t85.1 t100.1 (IntKind.i64.wrap t115.1)]).length C276, .int .i64 (IntKind.i64.wrap t18.1)] := h30; refine ⟨fun _ => ER.sb, ?_⟩; refine d_nil ?_; refine hK203 _ _ ?_; replace F : Fr a 67 [(0, .slice A2 a1.length C3), (4, .pointer p14), (5, .pointer (some qa28)), (6, .int .u64 t34.1), (7, .int .u64 i168)] := F.sub ⟨rfl, rfl, rfl, rfl, rfl, trivial⟩; refine reg ?_; refine qm F fun a F => ?_; refine qv F (r_add F rfl rfl) fun a F => ?_; refine qa F fun a F => nil ?_; replace H := HN176 _ (si H).symm; exact hX175 _ _ _ (Nat.lt_succ_self _) ⟨t115.2, (IntKind.u64.wrap (i168 + 1)), (l172 ++ [api_Row.mk t85.1 t100.1 (IntKind.i64.wrap t115.1)]), A275, C276, c273, F.sub ⟨rfl, rfl, rfl, rfl, rfl, trivial⟩, E, B, h30, h4, h240, h278, H⟩
  replace H := im hb202 H; refine wcf (fb F (bfalse hb202)) ?_; refine wp_exit ?_; refine thenE ?_; refine thenE ?_; refine inbE ?_; have hx_ := HD177 _ (si H).symm; have H := HR181; rw [← hx_] at H; exact J297 c200 w201 a o167 l172 A169 C170 (F.sub ⟨rfl, rfl, rfl, trivial⟩) E B h30 h4 h166 h171 H
 refine reg ?_; refine qm F fun a F => qm F fun a F => ?_; refine qv F (r_lss F rfl rfl) fun a F => ?_; refine qm F fun a F => ?_
 by_cases hb185 : i168 < t34.1
 ·replace H := ip hb185 H; refine qy F (dt hb185) ?_; refine qm F fun a F => ?_; obtain ⟨ob186, e187, H⟩ := bind_some H; have z188 := h166; rw [e187] at z188; obtain ⟨ad189, A191, C192, A194, C195, rfl, hat190, h193, h196⟩ := RD1.some z188; refine qy F (dt hb185) ?_; refine qi F fun a F => ?_; refine qy F (dt hb185) ?_; refine qf F ff_86_3 fun a F => ?_; refine qy F (dt hb185) ?_; refine ql F ag_40 hat190 fun a F => ?_; refine qy F (dt hb185) ?_; refine qv F (r_eql F rfl rfl) fun a F => ?_; refine qv F (r_pick_t F rfl (dt hb185) rfl) fun a F => ?_; refine nil ?_; exact J199 c173 w174 a (decide (ob186.Fault = 0)) (F.sub ⟨rfl, rfl, rfl, rfl, rfl, rfl, trivial⟩) E B h30 h4 h166 h171 H
 replace H := im hb185 H; refine qn F (dz hb185) fun a F => qn F (dz hb185) fun a F => qn F (dz hb185) fun a F => qn F (dz hb185) fun a F => qn F (dz hb185) fun a F => ?_; refine qv F (r_pick_f F rfl (dz hb185) rfl) fun a F => ?_; refine nil ?_; exact J199 c173 w174 a false (F.sub ⟨rfl, rfl, rfl, rfl, rfl, rfl, trivial⟩) E B h30 h4 h166 h171 H
end Go.Proofs.YtcolmmjcdlmcoaaGreat.G
namespace Go.Proofs.YtcolmmjcdlmcoaaGreat.G
open Go Go.RowKit
set_option linter.unusedVariables false
set_option linter.unusedSimpArgs false
section
variable {P : Program} {ops : Array Oper} {Q : Exit → Act → World → Prop} {a : Act} {N : Nat} {L : List (Nat × Value)} {D : List Deferred} {w w' : World} {v : Value} {rest : List Oper} {o : Oper} {d : Nat}
theorem preg {id : Nat} {l : List Oper} (h : wpList P l.toArray Q l a w) : (Code.region id l.toArray false).wp P Q a w := wp_region_lit h
theorem pnil (h : Q .normal a w) : wpList P ops Q [] a w := h
theorem p_upon (hg : o.guard = none) {r : Result Next} (hr : (execOp a.eval o).run P w = r) (h : o.upon P a (wpList P ops Q rest) Q r) : wpList P ops Q (o :: rest) a w := by
 unfold wpList; rw [if_pos (by simp [Region.wanted, hg])]
 left; show o.upon P a _ Q _; rw [hr]; exact h
theorem p_val (F : Fr a N L D) (hg : o.guard = none) (hd : o.dst = some d) (hN : d < N) (hr : (execOp a.eval o).run P w = .ok (.value v) w')
  (k : ∀ a', Fr a' N ((d, v) :: L) D → wpList P ops Q rest a' w') : wpList P ops Q (o :: rest) a w :=
 p_upon hg hr (by show wpList P ops Q rest (a.put o.dst v) w'; rw [hd]; exact k _ (F.put v hN))
theorem p_skip (F : Fr a N L D) (hg : o.guard = none) (hd : o.dst = none) (hr : (execOp a.eval o).run P w = .ok .skip w')
  (k : ∀ a', Fr a' N L D → wpList P ops Q rest a' w') : wpList P ops Q (o :: rest) a w :=
 p_upon hg hr (by show wpList P ops Q rest (a.put o.dst undef) w'; rw [hd]; exact k _ F)
theorem p_eff0 {R0 : World → Prop} (F : Fr a N L D) (hg : o.guard = none) (hd : o.dst = none) (h : ∃ w', (execOp a.eval o).run P w = .ok .skip w' ∧ R0 w')
  (k : ∀ w' a', R0 w' → Fr a' N L D → wpList P ops Q rest a' w') : wpList P ops Q (o :: rest) a w := by
 obtain ⟨w', hr, hR⟩ := h
 exact p_skip F hg hd hr fun a' F' => k w' a' hR F'
theorem p_call (F : Fr a N L D) (hg : o.guard = none) (hd : o.dst = some d) (hN : d < N) {f : FuncId} {args : Array Value} {R : Ending → World → Prop} (hr : (execOp a.eval o).run P w = .ok (.enter f args) w) (hc : Calls P f args w R)
  (k : ∀ e w', R e w' → (∃ v, e = .returned v ∧ ∀ a', Fr a' N ((d, v) :: L) D → wpList P ops Q rest a' w') ∨ (∃ ch, e = .panicked ch ∧ ∀ a', Fr a' N L D → Q (.panic ch) a' w')) : wpList P ops Q (o :: rest) a w :=
 p_upon hg hr (hc.mono fun e w' hR => by
  rcases k e w' hR with ⟨v, rfl, hk⟩ | ⟨ch, rfl, hk⟩
  ·show wpList P ops Q rest (a.put o.dst v) w'; rw [hd]; exact hk _ (F.put v hN)
  ·exact hk _ F)
theorem p_halt (F : Fr a N L D) (hg : o.guard = none) (hr : (execOp a.eval o).run P w = .halt (.panic v) w') (k : ∀ a', Fr a' N L D → Q (.panic [{ v, recovered := false }]) a' w') : wpList P ops Q (o :: rest) a w :=
 p_upon hg hr (k _ F)
theorem thenP {K : Act → World → Prop} {ch : List PanicEntry} (h : Q (.panic ch) a w) : Exit.then K Q (.panic ch) a w := h
theorem inbP {id : Nat} {ch : List PanicEntry} (h : Q (.panic ch) a w) : Exit.inBlock id Q (.panic ch) a w := h
theorem outP {fn : Func} {R : Ending → World → Prop} {ch : List PanicEntry} (F : Fr a N L) (h : R (.panicked ch) w) : bodyPost P fn R (.panic ch) a w := ⟨F.dfr, h⟩
end
def Still (w w' : World) : Prop := w'.heap = w.heap ∧ w'.os = w.os ∧ w'.tape = w.tape ∧ w'.output = w.output
theorem Still.ev {M : Nat → Prop} {w w' : World} (h : Still w w') (c : Nat → Nat) : Ev M c w c w' := Ev.same h.1 h.2.1 h.2.2.1 h.2.2.2
theorem bounds_still {α : Type} {P : Program} (k : IntKind) (x y : Int) (code : BoundsCode) (w : World) : ∃ t u w', (boundsPanic k x y code : Sem α).run P w = .halt (.panic (.iface t u)) w' ∧ Still w w' := by
 unfold boundsPanic
 split
 ·simp only [runtimePanic, goPanic, go_sem]
  exact ⟨_, _, _, rfl, rfl, rfl, rfl, rfl⟩
 ·simp only [runtimePanic, goPanic, go_sem]
  exact ⟨_, _, _, rfl, rfl, rfl, rfl, rfl⟩
section
variable {P : Program} {a : Act} {N : Nat} {L : List (Nat × Value)} {D : List Deferred} {w w' : World} {x : Operand} {d : Option Tmp} {t e ty : TypeId} {pos : String} {af : Array Edge} {gd : Option (Nat × Bool)} {A : Option Addr} {cap n0 : Nat} {h : Halt}
theorem r_sliceH (F : Fr a N L D) {lo hi mx : Option Operand} {vl vh vm : Option Value} (hx : ev L x = some (.slice A n0 cap)) (h1 : lo.map (ev L) = vl.map some) (h2 : hi.map (ev L) = vh.map some) (h3 : mx.map (ev L) = vm.map some)
  (hr : (Instr.sliceAt t (.slice A n0 cap) vl vh vm).run P w = .halt h w') :
  (execOp a.eval { dst := d, op := .slice t x lo hi mx, type := ty, pos := pos, after := af, guard := gd }).run P w = .halt h w' := by
 have e1 : lo.map a.eval = vl := by
  cases lo <;> cases vl <;> simp at h1 ⊢; rw [F.ev h1]
 have e2 : hi.map a.eval = vh := by
  cases hi <;> cases vh <;> simp at h2 ⊢; rw [F.ev h2]
 have e3 : mx.map a.eval = vm := by
  cases mx <;> cases vm <;> simp at h3 ⊢; rw [F.ev h3]
 simp [execOp, F.ev hx, e1, e2, e3, hr]
theorem pan_nn {n : Int} (hu : P.underlying t = some (.slice e)) (g : ¬ (0 ≤ n ∧ n ≤ (cap : Int))) (w : World) :
  ∃ t1 u w', (Instr.sliceAt t (.slice A n0 cap) none (some (.int .i64 n)) (some (.int .i64 n))).run P w = .halt (.panic (.iface t1 u)) w' ∧ Still w w' := by
 obtain ⟨t1, u, w', h1, h2⟩ := bounds_still (α := Nat) (P := P) .i64 n cap .slice3Acap w
 refine ⟨t1, u, w', ?_, h2⟩
 simp [Instr.sliceAt, run_underlying hu, Instr.slice, Instr.sliceBounds, Instr.sliceBound, asIntOf, g, h1]
theorem ok_nn {n : Int} {sz : Nat} (hu : P.underlying t = some (.slice e)) (hs : ∀ w, (sizeOf e).run P w = .ok sz w) (g : 0 ≤ n ∧ n ≤ (cap : Int)) :
  ∃ v, ∀ w, (Instr.sliceAt t (.slice A n0 cap) none (some (.int .i64 n)) (some (.int .i64 n))).run P w = .ok v w := by
 obtain ⟨k, rfl⟩ := Int.eq_ofNat_of_zero_le g.1
 have g2 : k ≤ cap := by omega
 exact ⟨_, run_cut hu hs none (some (.int .i64 (k : Int))) (some (.int .i64 (k : Int))) (l := 0) (r := k) (m := k) (fun w => by simp [Instr.sliceBounds, Instr.sliceBound, asIntOf, g2])⟩
theorem pan_l {n : Int} (hu : P.underlying t = some (.slice e)) (g : ¬ (0 ≤ n ∧ n ≤ (n0 : Int))) (w : World) :
  ∃ t1 u w', (Instr.sliceAt t (.slice A n0 cap) (some (.int .i64 n)) none none).run P w = .halt (.panic (.iface t1 u)) w' ∧ Still w w' := by
 obtain ⟨t1, u, w', h1, h2⟩ := bounds_still (α := Nat) (P := P) .i64 n n0 .sliceB w
 refine ⟨t1, u, w', ?_, h2⟩
 simp [Instr.sliceAt, run_underlying hu, Instr.slice, Instr.sliceBounds, Instr.sliceBound, asIntOf, g, h1]
theorem cut_nn {α : Type} {k : K α} {own : Bool} {j i : Nat} {c : Nat → Nat} {xs : List α} {n : Int} (hu : P.underlying t = some (.slice e)) (hs : ∀ w, (sizeOf e).run P w = .ok k.sz w) (hx : SL own k j i c w A cap xs) (g : 0 ≤ n ∧ n ≤ (xs.length : Int)) :
  ∃ A' cap', (∀ w, (Instr.sliceAt t (.slice A xs.length cap) none (some (.int .i64 n)) (some (.int .i64 n))).run P w = .ok (.slice A' (xs.take n.toNat).length cap') w) ∧ SL own k j i c w A' cap' (xs.take n.toNat) := by
 have hc : xs.length ≤ cap := by obtain ⟨cs, h2, _⟩ := hx; exact h2
 obtain ⟨q, rfl⟩ := Int.eq_ofNat_of_zero_le g.1
 have g1 : q ≤ xs.length := by omega
 have hcut := hx.cut 0 q q (by omega) (by omega) (by omega) (Nat.le_refl _)
 rw [List.drop_zero] at hcut
 refine ⟨_, _, fun w => ?_, by simpa using hcut⟩
 have g2 : q ≤ cap := by omega
 rw [run_cut hu hs none (some (.int .i64 (q : Int))) (some (.int .i64 (q : Int))) (l := 0) (r := q) (m := q) (fun w => by simp [Instr.sliceBounds, Instr.sliceBound, asIntOf, g2]) w]
 simp [Nat.min_eq_left g1]
end
def RX {α : Type} (m j : Nat) (c0 : Nat → Nat) (w0 : World) (p : Option Addr) (ou : List (List Int)) (res : (List Int × Int) ⊕ (α × List Int × Int)) (ret : α → (Nat → Nat) → World → Value → Prop) (e : Ending) (w_ : World) : Prop :=
 ∃ c_, Ev (fun x => x = j) c0 w0 c_ w_ ∧ CB m c_ w_ ∧ match res with
  | .inl (l, f) => (∃ t u, e = .panicked [{ v := .iface t u, recovered := false }]) ∧ RD j c_ w_ p (some ⟨l, ou, f⟩)
  | .inr (x, l, f) => (∃ v, e = .returned v ∧ ret x c_ w_ v) ∧ RD j c_ w_ p (some ⟨l, ou, f⟩)
def retS (x : List Int) (c : Nat → Nat) (w : World) (v : Value) : Prop := ∃ A C, v = .slice A x.length C ∧ SL false (Kint .u8) 0 0 c w A C x
def rnext (l : List Int) (f n : Int) : (List Int × Int) ⊕ (List Int × List Int × Int) := if 0 ≤ n ∧ n ≤ (l.length : Int) then .inr (l.take n.toNat, l.drop n.toNat, f) else .inl (l, f)
set_option maxHeartbeats 1000000 in
theorem next_calls {m : Nat} {c0 : Nat → Nat} {w0 : World} {j : Nat} {p : Option Addr} {r : Rdr} {n : Int} (B0 : CB m c0 w0) (h : RD j c0 w0 p (some r)) (hj : 0 < j) :
  Calls Tryz.prog 87 #[.pointer p, .int .i64 n] w0 (RX m j c0 w0 p r.outer (rnext r.left r.fault n) retS) := by
 obtain ⟨ad, A1, C1, A2, C2, rfl, hat, hl, ho⟩ := RD.some h
 refine enter (N := 23) (l := [.pointer (some ad), .int .i64 n]) Tryz.func87 rfl rfl (nb rfl) fun a F => ?_
 refine sr fun K1 hK1 => ?_
 refine G.qa F fun a F => ?_
 refine nil (hK1 _ _ ?_)
 refine wp_seq_k fun K2 hK2 => ?_
 refine preg ?_
 refine p_val F rfl rfl (by decide) (r_move F rfl) fun a F => ?_
 refine p_val F rfl rfl (by decide) (r_nil F rfl) fun a F => ?_
 refine p_val F rfl rfl (by decide) (r_fieldAddr F rfl ff_122_0) fun a F => ?_
 refine p_val F rfl rfl (by decide) (r_load F rfl ag_29 (AT.cell hat rfl)) fun a F => ?_
 refine p_val F rfl rfl (by decide) (r_move F rfl) fun a F => ?_
 refine p_val F rfl rfl (by decide) (r_move F rfl) fun a F => ?_
 by_cases g : 0 ≤ n ∧ n ≤ (r.left.length : Int)
 ·obtain ⟨A3, C3, hr3, h3⟩ := cut_nn (n := n) Tryz.underlying29 sz_5 hl g
  refine p_val F rfl rfl (by decide) (r_slice (vl := none) (vh := some (.int .i64 n)) (vm := some (.int .i64 n)) F rfl rfl rfl rfl hr3) fun a F => ?_
  refine p_val F rfl rfl (by decide) (r_assign F rfl) fun a F => ?_
  refine pnil ?_
  refine hK2 _ _ ?_
  refine sr fun K3 hK3 => ?_
  refine G.qm F fun a F => ?_
  refine G.qm F fun a F => ?_
  refine G.qv F (r_nil F rfl) fun a F => ?_
  refine G.qv F (r_fieldAddr F rfl ff_122_0) fun a F => ?_
  refine G.qv F (r_load F rfl ag_29 (AT.cell hat rfl)) fun a F => ?_
  refine G.qm F fun a F => ?_
  obtain ⟨A4, C4, hr4, h4⟩ := cut_l (kl := .i64) (l := n) Tryz.underlying29 sz_5 hl g
  refine G.qv F (r_slice (vl := some (.int .i64 n)) (vh := none) (vm := none) F rfl rfl rfl rfl hr4) fun a F => ?_
  refine G.qv F (r_nil F rfl) fun a F => ?_
  refine G.qv F (r_fieldAddr F rfl ff_122_0) fun a F => ?_
  refine q_eff0 F rfl rfl (e_store F rfl rfl sz_29 hat (by simp) rfl) ?_
  rintro w1 a ⟨E1, hat1, hz⟩ F
  refine nil (hK3 _ _ ?_)
  refine sr fun K4 hK4 => ?_
  refine G.qm F fun a F => ?_
  refine G.qa F fun a F => ?_
  refine nil (hK4 _ _ ?_)
  refine wp_ret ?_
  refine out1 F rfl rfl ?_
  have n0 : ¬ ((0 : Nat) = j) := by omega
  refine ⟨c0, E1, B0.size hz, ?_⟩
  unfold rnext
  rw [if_pos g]
  exact ⟨⟨_, rfl, A3, C3, rfl, h3.ev E1 n0 n0⟩, RD.mk hat1 (h4.ev E1 n0 n0) (ho.ev E1 n0 n0)⟩
 ·have fin : ∀ (w' : World) (t : TypeId) (u : Value), Still w0 w' → RX m j c0 w0 (some ad) r.outer (rnext r.left r.fault n) retS (.panicked [{ v := .iface t u, recovered := false }]) w' := by
   intro w' t u hS
   refine ⟨c0, hS.ev c0, B0.same hS.1, ?_⟩
   unfold rnext
   rw [if_neg g]
   exact ⟨⟨t, u, rfl⟩, h.ev (hS.ev (M := No) c0) (fun q => q) (fun q => q)⟩
  by_cases g2 : 0 ≤ n ∧ n ≤ (C1 : Int)
  ·obtain ⟨v, hv⟩ := ok_nn (P := Tryz.prog) (A := A1) (n0 := r.left.length) Tryz.underlying29 sz_5 g2
   refine p_val F rfl rfl (by decide) (r_slice (xs := r.left) (vl := none) (vh := some (.int .i64 n)) (vm := some (.int .i64 n)) F rfl rfl rfl rfl hv) fun a F => ?_
   refine p_val F rfl rfl (by decide) (r_assign F rfl) fun a F => ?_
   refine pnil ?_
   refine hK2 _ _ ?_
   refine wp_seq_k fun K3 hK3 => ?_
   refine preg ?_
   refine p_val F rfl rfl (by decide) (r_move F rfl) fun a F => ?_
   refine p_val F rfl rfl (by decide) (r_move F rfl) fun a F => ?_
   refine p_val F rfl rfl (by decide) (r_nil F rfl) fun a F => ?_
   refine p_val F rfl rfl (by decide) (r_fieldAddr F rfl ff_122_0) fun a F => ?_
   refine p_val F rfl rfl (by decide) (r_load F rfl ag_29 (AT.cell hat rfl)) fun a F => ?_
   refine p_val F rfl rfl (by decide) (r_move F rfl) fun a F => ?_
   obtain ⟨t1, u, w', hr, hS⟩ := pan_l (P := Tryz.prog) (A := A1) (cap := C1) (n0 := r.left.length) (n := n) Tryz.underlying29 g w0
   refine p_halt F rfl (r_sliceH (vl := some (.int .i64 n)) (vh := none) (vm := none) F rfl rfl rfl rfl hr) fun a F => ?_
   repeat (refine thenP ?_)
   exact outP F (fin w' t1 u hS)
  ·obtain ⟨t1, u, w', hr, hS⟩ := pan_nn (P := Tryz.prog) (A := A1) (n0 := r.left.length) (n := n) Tryz.underlying29 g2 w0
   refine p_halt F rfl (r_sliceH (vl := none) (vh := some (.int .i64 n)) (vm := some (.int .i64 n)) F rfl rfl rfl rfl hr) fun a F => ?_
   repeat (refine thenP ?_)
   exact outP F (fin w' t1 u hS)
theorem sl_one {c : Nat → Nat} {w : World} {A : Option Addr} {C : Nat} {x : Int} (h : SL false (Kint .u8) 0 0 c w A C [x]) : ∃ q, A = some q ∧ w.cell? (q.add 0) = some (.int .u8 x) := by
 obtain ⟨q, cs, hA, hat, hr⟩ := h.at 0 (by omega) (by simp)
 refine ⟨q, hA, ?_⟩
 have hr' : cs = [.int .u8 x] := hr
 subst hr'
 have := hat.cell (n := 0) rfl
 simpa [Addr.add] using this
def retI (k : IntKind) (x : Int) (c : Nat → Nat) (w : World) (v : Value) : Prop := v = .int k x
set_option maxHeartbeats 2000000 in
theorem num_calls {m : Nat} {c0 : Nat → Nat} {w0 : World} {j : Nat} {p : Option Addr} {r : Rdr} (B0 : CB m c0 w0) (h : RD j c0 w0 p (some r)) (hj : 0 < j) :
  Calls Tryz.prog 82 #[.pointer p] w0 (RX m j c0 w0 p r.outer (rnum r.fault r.left 0 0) (retI .u64)) := by
 refine enter (N := 41) (l := [.pointer p]) Tryz.func82 rfl rfl (nb rfl) fun a F => ?_
 refine sr fun K1 hK1 => ?_
 refine G.qa F fun a F => ?_
 refine nil (hK1 _ _ ?_)
 refine sr fun K2 hK2 => ?_
 refine G.qa F fun a F => ?_
 refine nil (hK2 _ _ ?_)
 refine sr fun K3 hK3 => ?_
 refine G.qa F fun a F => ?_
 refine nil (hK3 _ _ ?_)
 refine wp_block ?_
 refine loop_fuel (I := fun q a w => ∃ (xs : List Int) (i : Nat) (n : Int) (c : Nat → Nat), q = xs.length ∧ i ≤ 9 ∧ Fr a 41 [(0, .pointer p), (3, .int .u64 n), (4, .int .i64 i)] ∧ Ev (fun x => x = j) c0 w0 c w ∧ CB m c w ∧ RD j c w p (some ⟨xs, r.outer, r.fault⟩) ∧ rnum r.fault xs i n = rnum r.fault r.left 0 0) (k := r.left.length)
  ⟨r.left, 0, 0, c0, rfl, by omega, F.sub ⟨rfl, rfl, rfl, trivial⟩, Ev.refl, B0, h, rfl⟩ ?_
 clear F
 intro q X hX a w ⟨xs, i, n, c, hq, hi, F, E, B, hR, hres⟩
 subst hq
 refine wp_seq_k fun K4 hK4 => ?_
 refine wp_block ?_
 refine wp_seq_k fun K5 hK5 => ?_
 refine preg ?_
 refine p_val F rfl rfl (by decide) (r_move F rfl) fun a F => ?_
 refine p_call F rfl rfl (by decide) (r_call (vs := [.pointer p, .int .i64 1]) F Tryz.func87 rfl rfl rfl) (next_calls B hR hj) ?_
 rintro e w1 ⟨c1, E1, B1, hx⟩
 cases xs with
 | nil =>
  right
  have e0 : rnext ([] : List Int) r.fault 1 = .inl ([], r.fault) := rfl
  rw [show (⟨[], r.outer, r.fault⟩ : Rdr).left = [] from rfl, show (⟨[], r.outer, r.fault⟩ : Rdr).fault = r.fault from rfl, e0] at hx
  obtain ⟨⟨t, u, rfl⟩, hR1⟩ := hx
  refine ⟨_, rfl, fun a F => ?_⟩
  repeat (first | refine thenP ?_ | refine inbP ?_)
  refine outP (F.sub (L' := []) trivial) ?_
  refine ⟨c1, E.trans E1 (fun _ q => q), B1, ?_⟩
  rw [← hres]
  exact ⟨⟨t, u, rfl⟩, hR1⟩
 | cons x xs =>
  left
  have e0 : rnext (x :: xs) r.fault 1 = .inr ([x], xs, r.fault) := by
   unfold rnext; rw [if_pos (by simp; omega)]; rfl
  rw [show (⟨x :: xs, r.outer, r.fault⟩ : Rdr).left = x :: xs from rfl, show (⟨x :: xs, r.outer, r.fault⟩ : Rdr).fault = r.fault from rfl, e0] at hx
  obtain ⟨⟨v, rfl, A, C, rfl, hs⟩, hR1⟩ := hx
  obtain ⟨qa, rfl, hcell⟩ := sl_one hs
  refine ⟨_, rfl, fun a F => ?_⟩
  have E := E.trans E1 (fun _ q => q)
  refine p_val F rfl rfl (by decide) (r_indexAddr F Tryz.underlying29 sz_5 rfl rfl (by omega) (by simp)) fun a F => ?_
  refine p_val F rfl rfl (by decide) (r_load F rfl ag_5 hcell) fun a F => ?_
  refine p_val F rfl rfl (by decide) (r_assign F rfl) fun a F => ?_
  refine pnil ?_
  refine hK5 _ _ ?_
  have hi9 : ((i : Int) = 9) = (i = 9) := by simp; omega
  have hi0 : (0 < (i : Int)) = (0 < i) := by simp
  refine wp_seq_k fun K6 hK6 => ?_
  refine wp_seq_k fun K7 hK7 => ?_
  have bad : ∀ a, Fr a 41 [(0, .pointer p), (25, .bool true)] → ((i = 9 ∧ 1 < x) ∨ (0 < i ∧ x = 0)) → K7 a w1 := by
   intro a F hc
   refine hK7 _ _ ?_
   refine wp_cond_true (F.ev rfl) ?_
   obtain ⟨ad, A1, C1, A2, C2, rfl, hat, hl, ho⟩ := RD.some hR1
   refine sr fun K8 hK8 => ?_
   refine G.qm F fun a F => ?_
   refine G.qv F (r_nil F rfl) fun a F => ?_
   refine G.qv F (r_fieldAddr F rfl ff_122_2) fun a F => ?_
   refine q_eff0 F rfl rfl (e_store F rfl rfl sz_40 hat (by simp) rfl) ?_
   rintro w2 a ⟨E2, hat2, hz⟩ F
   refine nil (hK8 _ _ ?_)
   refine sr fun K9 hK9 => ?_
   refine G.qa F fun a F => ?_
   refine nil (hK9 _ _ ?_)
   refine wp_ret ?_
   repeat (first | refine thenR ?_ | refine inbR ?_)
   refine out1 F rfl rfl ?_
   have n0 : ¬ ((0 : Nat) = j) := by omega
   refine ⟨c1, E.trans E2 (fun _ q => q), B1.size hz, ?_⟩
   rw [← hres]
   unfold rnum
   rw [if_pos hc]
   exact ⟨⟨_, rfl, rfl⟩, RD.mk (t := ⟨xs, r.outer, 11⟩) hat2 (hl.ev E2 n0 n0) (ho.ev E2 n0 n0)⟩
  have good : ∀ a, Fr a 41 [(0, .pointer p), (3, .int .u64 n), (4, .int .i64 i), (5, .int .u8 x), (25, .bool false)] → ¬ ((i = 9 ∧ 1 < x) ∨ (0 < i ∧ x = 0)) → K7 a w1 := by
   intro a F hc
   refine hK7 _ _ ?_
   refine wp_cond_false (F.ev rfl) ?_
   refine wp_skip ?_
   refine hK6 _ _ ?_
   refine sr fun K8 hK8 => ?_
   refine G.qm F fun a F => ?_
   refine G.qm F fun a F => ?_
   refine G.qv F (r_and F rfl rfl) fun a F => ?_
   refine G.qv F (r_convi F Tryz.underlying82 (by kernel_rfl) rfl) fun a F => ?_
   refine G.qm F fun a F => ?_
   refine G.qv F (r_mul F rfl rfl) fun a F => ?_
   refine G.qv F (r_convi F Tryz.underlying136 (by kernel_rfl) rfl) fun a F => ?_
   have hw : IntKind.u64.wrap (IntKind.i64.wrap (7 * (i : Int))) = 7 * (i : Int) := by
    simp only [IntKind.wrap, IntKind.bits, IntKind.signed]; simp; omega
   rw [hw] at F
   refine G.qv F (r_shl F rfl rfl (by omega)) fun a F => ?_
   refine G.qv F (r_or F rfl rfl) fun a F => ?_
   refine G.qa F fun a F => ?_
   refine nil (hK8 _ _ ?_)
   refine sr fun K9 hK9 => ?_
   refine G.qm F fun a F => ?_
   refine G.qv F (r_lss F rfl rfl) fun a F => ?_
   refine nil (hK9 _ _ ?_)
   by_cases hb : x < 128
   ·refine wp_cond_true ((F.ev rfl).trans (congrArg Value.bool (decide_eq_true hb))) ?_
    refine sr fun K10 hK10 => ?_
    refine G.qm F fun a F => ?_
    refine G.qa F fun a F => ?_
    refine nil (hK10 _ _ ?_)
    refine wp_ret ?_
    repeat (first | refine thenR ?_ | refine inbR ?_)
    refine out1 F rfl rfl ?_
    refine ⟨c1, E, B1, ?_⟩
    rw [← hres]
    unfold rnum
    rw [if_neg hc, if_pos hb]
    exact ⟨⟨_, rfl, rfl⟩, hR1⟩
   ·refine wp_cond_false ((F.ev rfl).trans (congrArg Value.bool (decide_eq_false hb))) ?_
    refine wp_skip ?_
    repeat (first | refine inbN ?_ | refine hK4 _ _ ?_)
    refine reg ?_
    refine G.qm F fun a F => ?_
    refine G.qv F (r_add F rfl rfl) fun a F => ?_
    refine G.qa F fun a F => ?_
    refine nil ?_
    have hw1 : IntKind.i64.wrap ((i : Int) + 1) = ((i + 1 : Nat) : Int) := by
     simp only [IntKind.wrap_i64]; omega
    rw [hw1] at F
    refine hX xs.length _ _ (by simp) ⟨xs, i + 1, _, c1, rfl, ?_, F.sub ⟨rfl, rfl, rfl, trivial⟩, E, B1, hR1, ?_⟩
    ·have : i ≠ 9 := fun e => hb (by have : ¬ (1 < x) := fun q => hc (Or.inl ⟨e, q⟩); omega)
     omega
    ·rw [← hres]
     conv => rhs; unfold rnum
     rw [if_neg hc, if_neg hb]
  refine reg ?_
  refine G.qm F fun a F => ?_
  refine G.qv F (r_eql F rfl rfl) fun a F => ?_
  refine G.qm F fun a F => ?_
  by_cases b9 : i = 9
  ·have b9' : (i : Int) = 9 := by omega
   refine q_yes F rfl (by decide) rfl (decide_eq_true b9') ?_
   refine G.qm F fun a F => ?_
   refine q_yes F rfl (by decide) rfl (decide_eq_true b9') ?_
   refine G.qv F (r_gtr F rfl rfl) fun a F => ?_
   refine G.qv F (r_pick_t F rfl (decide_eq_true b9') rfl) fun a F => ?_
   refine G.qm F fun a F => ?_
   by_cases b1 : 1 < x
   ·refine q_no F rfl (by decide) rfl (decide_eq_true b1) (by decide) fun a F => ?_
    refine q_no F rfl (by decide) rfl (decide_eq_true b1) (by decide) fun a F => ?_
    refine q_no F rfl (by decide) rfl (decide_eq_true b1) (by decide) fun a F => ?_
    refine q_nu F rfl (by decide) rfl (by decide) fun a F => ?_
    refine q_nu F rfl (by decide) rfl (by decide) fun a F => ?_
    refine q_no F rfl (by decide) rfl (decide_eq_true b1) (by decide) fun a F => ?_
    refine G.qv F (r_pick_t F rfl (decide_eq_true b1) rfl) fun a F => ?_
    refine nil ?_
    exact bad a (F.sub ⟨rfl, rfl, trivial⟩) (Or.inl ⟨b9, b1⟩)
   ·refine q_yes F rfl (by decide) rfl (decide_eq_false b1) ?_
    refine G.qm F fun a F => ?_
    refine q_yes F rfl (by decide) rfl (decide_eq_false b1) ?_
    refine G.qv F (r_gtr F rfl rfl) fun a F => ?_
    refine q_yes F rfl (by decide) rfl (decide_eq_false b1) ?_
    refine G.qm F fun a F => ?_
    have b0 : 0 < (i : Int) := by omega
    refine q_yes F rfl (by decide) rfl (decide_eq_true b0) ?_
    refine G.qm F fun a F => ?_
    refine q_yes F rfl (by decide) rfl (decide_eq_true b0) ?_
    refine G.qv F (r_eql F rfl rfl) fun a F => ?_
    refine q_yes F rfl (by decide) rfl (decide_eq_false b1) ?_
    refine G.qv F (r_pick_t F rfl (decide_eq_true b0) rfl) fun a F => ?_
    refine G.qv F (r_pick_f F rfl (decide_eq_false b1) rfl) fun a F => ?_
    refine nil ?_
    by_cases bz : x = 0
    ·rw [decide_eq_true bz] at F
     exact bad a (F.sub ⟨rfl, rfl, trivial⟩) (Or.inr ⟨by omega, bz⟩)
    ·rw [decide_eq_false bz] at F
     exact good a (F.sub ⟨rfl, rfl, rfl, rfl, rfl, trivial⟩) (by rintro (⟨_, q⟩ | ⟨_, q⟩); exact b1 q; exact bz q)
  ·have b9' : ¬ (i : Int) = 9 := by omega
   refine q_no F rfl (by decide) rfl (decide_eq_false b9') (by decide) fun a F => ?_
   refine q_no F rfl (by decide) rfl (decide_eq_false b9') (by decide) fun a F => ?_
   refine G.qv F (r_pick_f F rfl (decide_eq_false b9') rfl) fun a F => ?_
   refine G.qm F fun a F => ?_
   refine q_yes F rfl (by decide) rfl rfl ?_
   refine G.qm F fun a F => ?_
   refine q_yes F rfl (by decide) rfl rfl ?_
   refine G.qv F (r_gtr F rfl rfl) fun a F => ?_
   refine q_yes F rfl (by decide) rfl rfl ?_
   refine G.qm F fun a F => ?_
   by_cases b0 : 0 < (i : Int)
   ·refine q_yes F rfl (by decide) rfl (decide_eq_true b0) ?_
    refine G.qm F fun a F => ?_
    refine q_yes F rfl (by decide) rfl (decide_eq_true b0) ?_
    refine G.qv F (r_eql F rfl rfl) fun a F => ?_
    refine q_yes F rfl (by decide) rfl rfl ?_
    refine G.qv F (r_pick_t F rfl (decide_eq_true b0) rfl) fun a F => ?_
    refine G.qv F (r_pick_f F rfl rfl rfl) fun a F => ?_
    refine nil ?_
    by_cases bz : x = 0
    ·rw [decide_eq_true bz] at F
     exact bad a (F.sub ⟨rfl, rfl, trivial⟩) (Or.inr ⟨by omega, bz⟩)
    ·rw [decide_eq_false bz] at F
     exact good a (F.sub ⟨rfl, rfl, rfl, rfl, rfl, trivial⟩) (by rintro (⟨q, _⟩ | ⟨_, q⟩); exact b9 q; exact bz q)
   ·refine q_no F rfl (by decide) rfl (decide_eq_false b0) (by decide) fun a F => ?_
    refine q_no F rfl (by decide) rfl (decide_eq_false b0) (by decide) fun a F => ?_
    refine q_yes F rfl (by decide) rfl rfl ?_
    refine G.qv F (r_pick_f F rfl (decide_eq_false b0) rfl) fun a F => ?_
    refine G.qv F (r_pick_f F rfl rfl rfl) fun a F => ?_
    refine nil ?_
    exact good a (F.sub ⟨rfl, rfl, rfl, rfl, rfl, trivial⟩) (by rintro (⟨q, _⟩ | ⟨q, _⟩); exact b9 q; omega)
set_option maxHeartbeats 2000000 in
theorem size_calls {m : Nat} {c0 : Nat → Nat} {w0 : World} {j : Nat} {p : Option Addr} {r : Rdr} {most : Int} (B0 : CB m c0 w0) (h : RD j c0 w0 p (some r)) (hj : 0 < j) :
  Calls Tryz.prog 85 #[.pointer p, .int .u64 most] w0 (RX m j c0 w0 p r.outer (rsize r.left r.fault most) (retI .i64)) := by
 refine enter (N := 39) (l := [.pointer p, .int .u64 most]) Tryz.func85 rfl rfl (nb rfl) fun a F => ?_
 refine sr fun K1 hK1 => ?_
 refine G.qa F fun a F => ?_
 refine nil (hK1 _ _ ?_)
 refine wp_seq_k fun K2 hK2 => ?_
 refine preg ?_
 refine p_val F rfl rfl (by decide) (r_move F rfl) fun a F => ?_
 refine p_call F rfl rfl (by decide) (r_call (vs := [.pointer p]) F Tryz.func82 rfl rfl rfl) (num_calls B0 h hj) ?_
 rintro e w1 ⟨c1, E, B, hx⟩
 generalize hn : rnum r.fault r.left 0 0 = res at hx
 match res with
 | .inl (l, f) =>
  right
  obtain ⟨⟨t, u, rfl⟩, hR1⟩ := hx
  refine ⟨_, rfl, fun a F => ?_⟩
  repeat (first | refine thenP ?_ | refine inbP ?_)
  refine outP (F.sub (L' := []) trivial) ?_
  refine ⟨c1, E, B, ?_⟩
  rw [show rsize r.left r.fault most = .inl (l, f) from by unfold rsize; rw [hn]]
  exact ⟨⟨t, u, rfl⟩, hR1⟩
 | .inr (n, l, f) =>
  left
  obtain ⟨⟨v, rfl, hv⟩, hR1⟩ := hx
  have hv : v = .int .u64 n := hv
  subst hv
  refine ⟨_, rfl, fun a F => ?_⟩
  refine p_val F rfl rfl (by decide) (r_assign F rfl) fun a F => ?_
  refine pnil ?_
  refine hK2 _ _ ?_
  have hlm : l.length ≤ maxLen := by
   obtain ⟨ad, A1, C1, A2, C2, rfl, hat, hl, ho⟩ := RD.some hR1
   exact hl.lenB
  obtain ⟨ad, A1, C1, A2, C2, rfl, hat, hl, ho⟩ := RD.some hR1
  have n0 : ¬ ((0 : Nat) = j) := by omega
  refine wp_seq_k fun K3 hK3 => ?_
  refine sr fun K4 hK4 => ?_
  refine G.qm F fun a F => ?_
  refine G.qv F (r_nil F rfl) fun a F => ?_
  refine G.qv F (r_fieldAddr F rfl ff_122_2) fun a F => ?_
  refine G.qv F (r_load F rfl ag_40 (AT.cell hat rfl)) fun a F => ?_
  refine G.qv F (r_eql F rfl rfl) fun a F => ?_
  refine G.qm F fun a F => ?_
  have out : ∀ (a : Act) (w2 : World) (l : List Int) (f : Int), Fr a 39 [(4, .int .i64 0)] → f ≠ 0 → RX m j c0 w0 (some ad) r.outer (.inr (0, l, f)) (retI .i64) (.returned (.int .i64 0)) w2 → True := fun _ _ _ _ _ _ _ => trivial
  by_cases hf : f = 0
  ·subst hf
   refine q_yes F rfl (by decide) rfl (decide_eq_true rfl) ?_
   refine G.qm F fun a F => ?_
   refine q_yes F rfl (by decide) rfl (decide_eq_true rfl) ?_
   refine G.qm F fun a F => ?_
   refine q_yes F rfl (by decide) rfl (decide_eq_true rfl) ?_
   refine G.qv F (r_gtr F rfl rfl) fun a F => ?_
   refine G.qv F (r_pick_t F rfl (decide_eq_true rfl) rfl) fun a F => ?_
   refine nil (hK4 _ _ ?_)
   by_cases hm : most < n
   ·refine wp_cond_true ((F.ev rfl).trans (congrArg Value.bool (decide_eq_true hm))) ?_
    refine reg ?_
    refine G.qm F fun a F => ?_
    refine G.qv F (r_nil F rfl) fun a F => ?_
    refine G.qv F (r_fieldAddr F rfl ff_122_2) fun a F => ?_
    refine q_eff0 F rfl rfl (e_store F rfl rfl sz_40 hat (by simp) rfl) ?_
    rintro w2 a ⟨E2, hat2, hz⟩ F
    refine nil (hK3 _ _ ?_)
    refine wp_seq_k fun K5 hK5 => ?_
    refine sr fun K6 hK6 => ?_
    refine G.qm F fun a F => ?_
    refine G.qv F (r_nil F rfl) fun a F => ?_
    refine G.qv F (r_fieldAddr F rfl ff_122_2) fun a F => ?_
    refine G.qv F (r_load F rfl ag_40 (AT.cell hat2 rfl)) fun a F => ?_
    refine G.qv F (r_neq F rfl rfl) fun a F => ?_
    refine nil (hK6 _ _ ?_)
    refine wp_cond_true (F.ev rfl) ?_
    refine sr fun K7 hK7 => ?_
    refine G.qa F fun a F => ?_
    refine nil (hK7 _ _ ?_)
    refine wp_ret ?_
    repeat (first | refine thenR ?_ | refine inbR ?_)
    refine out1 F rfl rfl ?_
    refine ⟨c1, E.trans E2 (fun _ q => q), B.size hz, ?_⟩
    rw [show rsize r.left r.fault most = .inr (0, l, 11) from by unfold rsize; rw [hn]; simp [hm]]
    exact ⟨⟨_, rfl, rfl⟩, RD.mk (t := ⟨l, r.outer, 11⟩) hat2 (hl.ev E2 n0 n0) (ho.ev E2 n0 n0)⟩
   ·refine wp_cond_false ((F.ev rfl).trans (congrArg Value.bool (decide_eq_false hm))) ?_
    refine wp_skip ?_
    refine hK3 _ _ ?_
    refine wp_seq_k fun K5 hK5 => ?_
    refine sr fun K6 hK6 => ?_
    refine G.qm F fun a F => ?_
    refine G.qv F (r_nil F rfl) fun a F => ?_
    refine G.qv F (r_fieldAddr F rfl ff_122_2) fun a F => ?_
    refine G.qv F (r_load F rfl ag_40 (AT.cell hat rfl)) fun a F => ?_
    refine G.qv F (r_neq F rfl rfl) fun a F => ?_
    refine nil (hK6 _ _ ?_)
    refine wp_cond_false (F.ev rfl) ?_
    refine wp_skip ?_
    refine hK5 _ _ ?_
    refine wp_seq_k fun K7 hK7 => ?_
    refine sr fun K8 hK8 => ?_
    refine G.qm F fun a F => ?_
    refine G.qm F fun a F => ?_
    refine G.qv F (r_nil F rfl) fun a F => ?_
    refine G.qv F (r_fieldAddr F rfl ff_122_0) fun a F => ?_
    refine G.qv F (r_load F rfl ag_29 (AT.cell hat rfl)) fun a F => ?_
    refine G.qv F (r_lensl F Tryz.underlying29 rfl) fun a F => ?_
    refine G.qv F (r_convi F Tryz.underlying82 (by kernel_rfl) rfl) fun a F => ?_
    have hw : IntKind.u64.wrap (l.length : Int) = (l.length : Int) := by
     unfold maxLen at hlm
     simp only [IntKind.wrap, IntKind.bits, IntKind.signed]; simp; omega
    rw [show ((⟨l, r.outer, 0⟩ : Rdr).left.length : Int) = (l.length : Int) from rfl, hw] at F
    refine G.qv F (r_gtr F rfl rfl) fun a F => ?_
    refine nil (hK8 _ _ ?_)
    by_cases hg : (l.length : Int) < n
    ·refine wp_cond_true ((F.ev rfl).trans (congrArg Value.bool (decide_eq_true hg))) ?_
     refine sr fun K9 hK9 => ?_
     refine G.qm F fun a F => ?_
     refine G.qv F (r_nil F rfl) fun a F => ?_
     refine G.qv F (r_fieldAddr F rfl ff_122_2) fun a F => ?_
     refine q_eff0 F rfl rfl (e_store F rfl rfl sz_40 hat (by simp) rfl) ?_
     rintro w2 a ⟨E2, hat2, hz⟩ F
     refine nil (hK9 _ _ ?_)
     refine sr fun K10 hK10 => ?_
     refine G.qa F fun a F => ?_
     refine nil (hK10 _ _ ?_)
     refine wp_ret ?_
     repeat (first | refine thenR ?_ | refine inbR ?_)
     refine out1 F rfl rfl ?_
     refine ⟨c1, E.trans E2 (fun _ q => q), B.size hz, ?_⟩
     rw [show rsize r.left r.fault most = .inr (0, l, 10) from by unfold rsize; rw [hn]; simp [hm, hg]]
     exact ⟨⟨_, rfl, rfl⟩, RD.mk (t := ⟨l, r.outer, 10⟩) hat2 (hl.ev E2 n0 n0) (ho.ev E2 n0 n0)⟩
    ·refine wp_cond_false ((F.ev rfl).trans (congrArg Value.bool (decide_eq_false hg))) ?_
     refine wp_skip ?_
     refine hK7 _ _ ?_
     refine sr fun K9 hK9 => ?_
     refine G.qm F fun a F => ?_
     refine G.qv F (r_convi F Tryz.underlying3 (by kernel_rfl) rfl) fun a F => ?_
     refine G.qa F fun a F => ?_
     refine nil (hK9 _ _ ?_)
     refine wp_ret ?_
     repeat (first | refine thenR ?_ | refine inbR ?_)
     refine out1 F rfl rfl ?_
     refine ⟨c1, E, B, ?_⟩
     rw [show rsize r.left r.fault most = .inr (IntKind.i64.wrap n, l, 0) from by unfold rsize; rw [hn]; simp [hm, hg]]
     exact ⟨⟨_, rfl, rfl⟩, RD.mk (t := ⟨l, r.outer, 0⟩) hat hl ho⟩
  ·refine q_no F rfl (by decide) rfl (decide_eq_false hf) (by decide) fun a F => ?_
   refine q_no F rfl (by decide) rfl (decide_eq_false hf) (by decide) fun a F => ?_
   refine q_no F rfl (by decide) rfl (decide_eq_false hf) (by decide) fun a F => ?_
   refine G.qv F (r_pick_f F rfl (decide_eq_false hf) rfl) fun a F => ?_
   refine nil (hK4 _ _ ?_)
   refine wp_cond_false (F.ev rfl) ?_
   refine wp_skip ?_
   refine hK3 _ _ ?_
   refine wp_seq_k fun K5 hK5 => ?_
   refine sr fun K6 hK6 => ?_
   refine G.qm F fun a F => ?_
   refine G.qv F (r_nil F rfl) fun a F => ?_
   refine G.qv F (r_fieldAddr F rfl ff_122_2) fun a F => ?_
   refine G.qv F (r_load F rfl ag_40 (AT.cell hat rfl)) fun a F => ?_
   refine G.qv F (r_neq F rfl rfl) fun a F => ?_
   refine nil (hK6 _ _ ?_)
   refine wp_cond_true ((F.ev rfl).trans (congrArg Value.bool (congrArg not (decide_eq_false hf)))) ?_
   refine sr fun K7 hK7 => ?_
   refine G.qa F fun a F => ?_
   refine nil (hK7 _ _ ?_)
   refine wp_ret ?_
   repeat (first | refine thenR ?_ | refine inbR ?_)
   refine out1 F rfl rfl ?_
   refine ⟨c1, E, B, ?_⟩
   rw [show rsize r.left r.fault most = .inr (0, l, f) from by unfold rsize; rw [hn]; simp [hf]]
   exact ⟨⟨_, rfl, rfl⟩, RD.mk (t := ⟨l, r.outer, f⟩) hat hl ho⟩
end Go.Proofs.YtcolmmjcdlmcoaaGreat.G
namespace Go.Proofs.YtcolmmjcdlmcoaaGreat.G
open Go Go.RowKit
set_option linter.unusedVariables false
set_option linter.unusedSimpArgs false
set_option maxRecDepth 100000
set_option maxHeartbeats 40000000
theorem parcel_copied.calls {m : Nat} {c0 : Nat → Nat} {w0 : World} {A2 : Option Addr} {C3 : Nat} {a1 : List Int} (hm0 : 0 < m) (B0 : CB m c0 w0) (h4 : SL false (Kint .u8) 0 0 c0 w0 A2 C3 a1) (jr27 : Nat) (bjr27 : jr27 < m) (r : (List Int)) (H : parcel_copied.f a1 = some r) : Calls Tryz.prog 86 #[.slice A2 a1.length C3] w0 (fun e w_ => ∃ (c_ : Nat → Nat) (A0_ : Option Addr) (C0_ : Nat), e = .returned (.slice A0_ r.length C0_) ∧ Ev (fun x => False) c0 w0 c_ w_ ∧ CB m c_ w_ ∧ SL true (Kint .u8) jr27 0 c_ w_ A0_ C0_ r) := by
 unfold parcel_copied.f at H; have B := B0.mono (show m ≤ m + 2 by omega); have E : Ev (fun x => False ∨ m ≤ x) c0 w0 c0 w0 := Ev.refl; refine enter (N := 11) (l := [.slice A2 a1.length C3]) Tryz.func86 rfl rfl (nb rfl) fun a F => ?_; refine sr fun K5 hK5 => qa F fun a F => nil (hK5 _ _ ?_); refine sq fun K6 hK6 => ?_; refine sr fun K7 hK7 => qm F fun a F => ?_; refine qv F (r_lensl F Tryz.underlying29 rfl) fun a F => ?_; refine qv F (r_eql F rfl rfl) fun a F => ?_; refine nil (hK7 _ _ ?_)
 by_cases hb8 : (a1.length : Int) = 0
 ·replace H := ip hb8 H; refine wct (fb F (dt hb8)) ?_; refine sr fun K9 hK9 => qa F fun a F => nil (hK9 _ _ ?_); refine wp_ret ?_; refine thenR ?_; obtain rfl := si H; refine out1 F rfl rfl ?_; exact ⟨cf (fun x_ => if x_ = m + 1 then jr27 else if x_ < m then x_ else 0) c0, none, 0, rfl, E.lv B0, cfb, SL.nil⟩
 replace H := im hb8 H; refine wcf (fb F (dz hb8)) (wp_skip (hK6 _ _ ?_)); refine sr fun K10 hK10 => qm F fun a F => ?_; refine qv F (r_lensl F Tryz.underlying29 rfl) fun a F => ?_; replace H := ifN H; obtain ⟨g11, H⟩ := H; refine q_eff F rfl rfl (by decide) (e_make (k := (Kint .u8)) (x0 := 0) F et_29 rfl rfl (fun _ _ _ => rfl) (by decide) g11 c0 (m + 1) 0) ?_; rintro v w13 a ⟨c12, A14, C15, rfl, E16, h17, B18⟩ F; replace B := B18 _ B lm; replace h4 := h4.ev E16; replace E := E.n E16; refine qm F fun a F => ?_; replace H := ifN H; obtain ⟨g19, H⟩ := H; refine q_eff F rfl rfl (by decide) (e_append (k := (Kint .u8)) (xs := (List.replicate (0 : Int).toNat (0 : Int))) (ys := a1) (c := c12) (j := (m + 1)) (i := 0) F et_29 rfl rfl h17 h4 g19 (len_ok g19) ne_zm) ?_; rintro v w21 a ⟨c20, A22, C23, rfl, E24, h25, B26⟩ F; replace B := B26 _ B lm; replace E := E.trans E24 lc1; refine qa F fun a F => nil (hK10 _ _ ?_); replace F : Fr a 11 [(2, .slice A22 ((List.replicate (0 : Int).toNat (0 : Int)) ++ a1).length C23)] := F.sub ⟨rfl, trivial⟩; refine wp_ret ?_; obtain rfl := si H; refine out1 F rfl rfl ?_; exact ⟨cf (fun x_ => if x_ = m + 1 then jr27 else if x_ < m then x_ else 0) c20, A22, C23, rfl, E.lv B0, cfb, SL.rc h25 cfk cfk⟩
end Go.Proofs.YtcolmmjcdlmcoaaGreat.G
namespace Go.Proofs.YtcolmmjcdlmcoaaGreat.G
open Go Go.RowKit
set_option linter.unusedVariables false
set_option linter.unusedSimpArgs false
theorem lag_rd : ∀ w, (isAgg 90).run Tryz.prog w = .ok false w := fun _ => by kernel_rfl
theorem lag_int : ∀ w, (isAgg 3).run Tryz.prog w = .ok false w := fun _ => by kernel_rfl
theorem lag_u64 : ∀ w, (isAgg 82).run Tryz.prog w = .ok false w := fun _ => by kernel_rfl
theorem lag_bytes : ∀ w, (isAgg 29).run Tryz.prog w = .ok false w := fun _ => by kernel_rfl
theorem lsz_u64 : ∀ w, (sizeOf 82).run Tryz.prog w = .ok 1 w := fun _ => by kernel_rfl
theorem lsz_bytes : ∀ w, (sizeOf 29).run Tryz.prog w = .ok 1 w := fun _ => by kernel_rfl
theorem lzv_u64 : ∀ w, (zeroValue 82).run Tryz.prog w = .ok (.int .u64 0) w := fun _ => by kernel_rfl
theorem lzv_bytes : ∀ w, (zeroValue 29).run Tryz.prog w = .ok (.slice none 0 0) w := fun _ => by kernel_rfl
theorem copied_eq {x : List Int} (h : x.length ≤ 140737488355328) : parcel_copied.f x = some x := by
 unfold parcel_copied.f
 by_cases c : x = []
 ·subst c; rfl
 ·have hp : x.length ≠ 0 := fun q => c (List.length_eq_zero_iff.1 q)
  rw [if_neg (by omega), if_pos (by omega), if_pos (by simp; omega)]
  simp
def retT (jr : Nat) (x : List Int) (c : Nat → Nat) (w : World) (v : Value) : Prop := ∃ A C, v = .slice A x.length C ∧ SL true (Kint .u8) jr 0 c w A C x
set_option maxHeartbeats 2000000 in
theorem text1_calls {m : Nat} {c0 : Nat → Nat} {w0 : World} {j jb jc : Nat} {p : Option Addr} {q1 q2 : Addr} {r : Rdr} {most : Int} (B0 : CB m c0 w0) (h : RD j c0 w0 p (some r)) (hj : 0 < j) (h1 : AT true jb c0 w0 q1 [.pointer p]) (h2 : AT true jc c0 w0 q2 [.int .i64 most])
  (hjb : jb ≠ j) (hjc : jc ≠ j) (jr : Nat) (hjr : jr < m) (hjr' : jr ≠ j) (x : (List Int × Int) ⊕ (List Int × List Int × Int)) (H : rtext r.left r.fault most = some x) :
  Calls Tryz.prog 84 #[.pointer (some q1), .pointer (some q2)] w0 (RX m j c0 w0 p r.outer x (retT jr)) := by
 refine enter (N := 13) (l := [.pointer (some q1), .pointer (some q2)]) Tryz.func84 rfl rfl (nb rfl) fun a F => ?_
 have n0 : ¬ ((0 : Nat) = j) := by omega
 refine sr fun K1 hK1 => ?_
 refine G.qa F fun a F => ?_
 refine nil (hK1 _ _ ?_)
 refine wp_seq_k fun K2 hK2 => ?_
 refine preg ?_
 refine p_val F rfl rfl (by decide) (r_load F rfl lag_rd (AT.cell0 h1 rfl)) fun a F => ?_
 refine p_val F rfl rfl (by decide) (r_load F rfl lag_int (AT.cell0 h2 rfl)) fun a F => ?_
 refine p_val F rfl rfl (by decide) (r_max F rfl rfl) fun a F => ?_
 refine p_val F rfl rfl (by decide) (r_convi F Tryz.underlying82 (by kernel_rfl) rfl) fun a F => ?_
 refine p_call F rfl rfl (by decide) (r_call (vs := [.pointer p, .int .u64 (IntKind.u64.wrap (max most 0))]) F Tryz.func85 rfl rfl rfl) (size_calls B0 h hj) ?_
 rintro e w1 ⟨c1, E1, B1, hx⟩
 unfold rtext at H
 generalize rsize r.left r.fault (IntKind.u64.wrap (max most 0)) = res at hx H
 match res with
 | .inl (l, f) =>
  right
  obtain ⟨⟨t, u, rfl⟩, hR1⟩ := hx
  have H := Option.some.inj H
  subst H
  refine ⟨_, rfl, fun a F => ?_⟩
  repeat (first | refine thenP ?_ | refine inbP ?_)
  refine outP (F.sub (L' := []) trivial) ?_
  exact ⟨c1, E1, B1, ⟨t, u, rfl⟩, hR1⟩
 | .inr (n, l, f) =>
  left
  obtain ⟨⟨v, rfl, hv⟩, hR1⟩ := hx
  have hv : v = .int .i64 n := hv
  subst hv
  obtain ⟨⟨g0, g1, g2⟩, H⟩ := ifN H
  have H := Option.some.inj H
  subst H
  refine ⟨_, rfl, fun a F => ?_⟩
  refine p_val F rfl rfl (by decide) (r_assign F rfl) fun a F => ?_
  refine pnil ?_
  refine hK2 _ _ ?_
  refine wp_seq_k fun K3 hK3 => ?_
  refine preg ?_
  refine p_val F rfl rfl (by decide) (r_load F rfl lag_rd (AT.cell0 (h1.ev E1 hjb) rfl)) fun a F => ?_
  refine p_val F rfl rfl (by decide) (r_move F rfl) fun a F => ?_
  refine p_call F rfl rfl (by decide) (r_call (vs := [.pointer p, .int .i64 n]) F Tryz.func87 rfl rfl rfl) (next_calls B1 hR1 hj) ?_
  rintro e w2 ⟨c2, E2, B2, hx⟩
  have e0 : rnext l f n = .inr (l.take n.toNat, l.drop n.toNat, f) := by unfold rnext; rw [if_pos ⟨g0, g1⟩]
  rw [show (⟨l, r.outer, f⟩ : Rdr).left = l from rfl, show (⟨l, r.outer, f⟩ : Rdr).fault = f from rfl, e0] at hx
  obtain ⟨⟨v, rfl, A3, C3, rfl, hs⟩, hR2⟩ := hx
  left
  refine ⟨_, rfl, fun a F => ?_⟩
  have hlen : (l.take n.toNat).length ≤ 140737488355328 := by rw [List.length_take]; omega
  refine p_call F rfl rfl (by decide) (r_call (vs := [.slice A3 (l.take n.toNat).length C3]) F Tryz.func86 rfl rfl rfl) (parcel_copied.calls (Nat.lt_of_le_of_lt (Nat.zero_le _) hjr) B2 hs jr hjr _ (copied_eq hlen)) ?_
  rintro e w3 ⟨c3, A4, C4, rfl, E3, B3, hs3⟩
  left
  refine ⟨_, rfl, fun a F => ?_⟩
  refine p_val F rfl rfl (by decide) (r_assign F rfl) fun a F => ?_
  refine pnil ?_
  refine hK3 _ _ ?_
  refine wp_ret ?_
  repeat (first | refine thenR ?_ | refine inbR ?_)
  refine out1 F rfl rfl ?_
  have E3' : Ev (fun x => x = j) c2 w2 c3 w3 := E3.mono (fun _ q => q.elim)
  exact ⟨c3, (E1.trans E2 (fun _ q => q)).trans E3' (fun _ q => q), B3, ⟨_, rfl, A4, C4, rfl, hs3⟩, hR2.ev E3 (fun q => q) (fun q => q)⟩
section
variable {P : Program} {ops : Array Oper} {Q : Exit → Act → List Frame → World → Prop} {a : Act} {N : Nat} {L : List (Nat × Value)} {D : List Deferred} {w w' : World} {v : Value} {rest : List Nat} {o : Oper} {d : Nat} {cs cs' : List Frame} {i : Nat}
theorem enterS {f : FuncId} {fn : Func} {c : Code} {l : List Value} {u : FrameMode} {R : Ending → FrameMode → World → Prop} (hf : P.funcs[f]? = some fn) (hb : fn.body = some c) (hn : fn.ntmps = N) (hl : l.length ≤ N)
  (h : ∀ c₀ cs, c₀.mode = u → ∀ a, Fr a N (enum 0 l) → c.wpS P (bodyPostS P fn c₀ cs R) a (c₀ :: cs) w) : CallsD P f l.toArray u w R := by
 refine callsD_of_wpS hf hb fun c₀ cs hu => ?_
 refine h c₀ cs hu _ ?_
 rw [show l.toArray.size = l.length by simp, hn]
 exact Fr.enter l (N - l.length) (by omega)
theorem enterD {f : FuncId} {fn : Func} {c : Code} {l : List Value} {R : Ending → World → Prop} (hf : P.funcs[f]? = some fn) (hb : fn.body = some c) (hn : fn.ntmps = N) (hl : l.length ≤ N)
  (h : ∀ a, Fr a N (enum 0 l) → c.wp P (bodyPostD P fn R) a w) : Calls P f l.toArray w R := by
 refine calls_of_wp_defers hf hb ?_
 refine h _ ?_
 rw [show l.toArray.size = l.length by simp, hn]
 exact Fr.enter l (N - l.length) (by omega)
theorem s_rec_yes (F : Fr a N L D) (ho : ops[i]? = some o) (hg : o.guard = none) (hd : o.dst = some d) (hN : d < N) (hr : (execOp a.eval o).run P w = .ok .recover w) (hrec : recoverD cs = some (v, cs'))
  (k : ∀ a', Fr a' N ((d, v) :: L) D → wpOpsS P ops Q rest a' cs' w) : wpOpsS P ops Q (i :: rest) a cs w := by
 unfold wpOpsS
 simp only [ho]
 rw [if_pos (by simp [Region.wanted, hg]), hr]
 simp only [hrec]
 rw [hd]; exact k _ (F.put v hN)
theorem s_rec_no (F : Fr a N L D) (ho : ops[i]? = some o) (hg : o.guard = none) (hd : o.dst = some d) (hN : d < N) (hr : (execOp a.eval o).run P w = .ok .recover w) (hrec : recoverD cs = none)
  (k : ∀ a', Fr a' N ((d, .nilIface) :: L) D → wpOpsS P ops Q rest a' cs w) : wpOpsS P ops Q (i :: rest) a cs w := by
 unfold wpOpsS
 simp only [ho]
 rw [if_pos (by simp [Region.wanted, hg]), hr]
 simp only [hrec]
 rw [hd]; exact k _ (F.put .nilIface hN)
theorem s_val (F : Fr a N L D) (ho : ops[i]? = some o) (hg : o.guard = none) (hd : o.dst = some d) (hN : d < N) (hr : (execOp a.eval o).run P w = .ok (.value v) w')
  (k : ∀ a', Fr a' N ((d, v) :: L) D → wpOpsS P ops Q rest a' cs w') : wpOpsS P ops Q (i :: rest) a cs w := by
 unfold wpOpsS
 simp only [ho]
 rw [if_pos (by simp [Region.wanted, hg]), hr]
 show wpOpsS P ops Q rest (a.put o.dst v) cs w'
 rw [hd]; exact k _ (F.put v hN)
end
section
variable {P : Program} {a : Act} {N : Nat} {L : List (Nat × Value)} {D : List Deferred} {w w' : World} {v : Value} {x y : Operand} {d : Option Tmp} {t ty : TypeId} {pos : String} {af : Array Edge} {gd : Option (Nat × Bool)}
theorem r_recover (a : Act) {ats : Array TypeId} : (execOp a.eval { dst := d, op := .call { callee := .builtin .recover, args := #[], argTypes := ats }, type := ty, pos := pos, after := af, guard := gd }).run P w = .ok .recover w := by
 simp [execOp, resolve, invoke, builtin]
theorem r_ifneq_t (F : Fr a N L D) {t1 yt : TypeId} {u : Value} (hu : P.underlying t = some (.interface (P.methodsAt t))) (hx : ev L x = some (.iface t1 u)) : (execOp a.eval { dst := d, op := .binOp .neq t x (.const .nilIface) yt, type := ty, pos := pos, after := af, guard := gd }).run P w = .ok (.value (.bool true)) w := by
 have h := run_equal_held_nil (P := P) w t t1 u hu
 have e : a.eval (.const .nilIface) = .nilIface := rfl
 simp [execOp, F.ev hx, e, binOp, eqGuard, h]
theorem r_ifneq_f (F : Fr a N L D) {yt : TypeId} (hu : P.underlying t = some (.interface (P.methodsAt t))) (hx : ev L x = some .nilIface) : (execOp a.eval { dst := d, op := .binOp .neq t x (.const .nilIface) yt, type := ty, pos := pos, after := af, guard := gd }).run P w = .ok (.value (.bool false)) w := by
 have h := run_equal_nil_nil (P := P) w t hu
 have e : a.eval (.const .nilIface) = .nilIface := rfl
 simp [execOp, F.ev hx, e, binOp, eqGuard, h]
theorem r_callv (F : Fr a N L D) {f : FuncId} {fn : Func} {fst cp : Array Value} {ats : Array TypeId} (hf : P.funcs[f]? = some fn) (hb : fn.body.isNone = false) (hn : (fn.name == "runtime.NumGoroutine") = false) (hx : ev L x = some (.func (.func f) fst cp)) :
  (execOp a.eval { dst := d, op := .call { callee := .value x, args := #[], argTypes := ats }, type := ty, pos := pos, after := af, guard := gd }).run P w = .ok (.enter f (fst ++ cp)) w := by
 have hn' : ¬ fn.name = "runtime.NumGoroutine" := by simpa using hn
 have hb' : ¬ fn.body = none := by intro q; rw [q] at hb; cases hb
 simp [execOp, resolve, Deferred.ofValue, F.ev hx, invoke, callFunc, hf, hb', hn']
theorem r_defer (F : Fr a N L D) {f : FuncId} {fst cp : Array Value} {ats : Array TypeId} (hx : ev L x = some (.func (.func f) fst cp)) :
  (execOp a.eval { dst := d, op := .defer { callee := .value x, args := #[], argTypes := ats }, type := ty, pos := pos, after := af, guard := gd }).run P w = .ok (.defer { target := .fn (.func f) cp, args := fst }) w := by
 simp [execOp, resolve, Deferred.ofValue, F.ev hx]
theorem p_defer {ops : Array Oper} {Q : Exit → Act → World → Prop} {rest : List Oper} {o : Oper} {df : Deferred} (F : Fr a N L D) (hg : o.guard = none) (hd : o.dst = none) (hr : (execOp a.eval o).run P w = .ok (.defer df) w)
  (k : ∀ a', Fr a' N L (df :: D) → wpList P ops Q rest a' w) : wpList P ops Q (o :: rest) a w :=
 p_upon hg hr (by
  show wpList P ops Q rest ({ a with defers := df :: a.defers }.put o.dst undef) w
  rw [hd]; exact k _ ⟨by show df :: a.defers = df :: D; rw [F.dfr], F.size, F.get⟩)
theorem resR1 {fn : Func} {r1 : ResultVar} {v1 : Value} (F : Fr a N L D) (hr : fn.results = #[r1]) (h1 : RV P L w r1 v1) : (results fn a.tmps).run P w = .ok v1 w := by
 have e1 := h1.run F
 show Sem.run P (results fn a.tmps) w = _
 unfold results; rw [hr]
 change Sem.run P ((do let vs ← #[r1].mapM (rvS a.tmps); pure (if h : vs.size = 1 then vs[0] else .tuple vs)) : Sem Value) w = _
 simp [e1]
theorem leaves1 {fn : Func} {r1 : ResultVar} {v1 : Value} {R : Ending → World → Prop} (F : Fr a N L D) (hr : fn.results = #[r1]) (h1 : RV P L w r1 v1) (h : R (.returned v1) w) : Leaves P fn a.tmps R [] .returning w := ⟨v1, resR1 F hr h1, h⟩
theorem invoke_fn {f : FuncId} {fn : Func} {cp args : Array Value} (hf : P.funcs[f]? = some fn) (hb : fn.body.isNone = false) (hn : (fn.name == "runtime.NumGoroutine") = false) : (invoke (.fn (.func f) cp) args).run P w = .ok (.enter f (args ++ cp)) w := by
 have hn' : ¬ fn.name = "runtime.NumGoroutine" := by simpa using hn
 have hb' : ¬ fn.body = none := by intro q; rw [q] at hb; cases hb
 simp [invoke, callFunc, hf, hb', hn']
end
def Rcv (j jv : Nat) (c : Nat → Nat) (w : World) (p : Option Addr) (qv : Addr) (rd : Rdr) (x : Value) (w' : World) : Prop :=
 Ev (fun x => x = j ∨ x = jv) c w c w' ∧ w'.heap.size = w.heap.size ∧ RD j c w' p (some rd) ∧ AT true jv c w' qv [x]
set_option maxHeartbeats 2000000 in
theorem catchP_u64 {c : Nat → Nat} {w : World} {j jb jz jv : Nat} {ad q1 qz qv : Addr} {r : Rdr} {z v0 : Value} (hj : 0 < j) (h : RD j c w (some ad) (some r)) (h1 : AT true jb c w q1 [.pointer (some ad)]) (hz : AT true jz c w qz [z]) (hv : AT true jv c w qv [v0])
  (n1 : jb ≠ j) (n2 : jz ≠ j) (n3 : jv ≠ j) (n4 : 0 < jv) (hone : z.oneCell' = true) (t : TypeId) (u : Value) (older : List PanicEntry) :
  CallsD Tryz.prog 101 #[.pointer (some q1), .pointer (some qz), .pointer (some qv)] (.panicking ({ v := .iface t u, recovered := false } :: older)) w fun e u' w' =>
   e = .returned (.tuple #[]) ∧ u' = .panicking ({ v := .iface t u, recovered := true } :: older) ∧ Rcv j jv c w (some ad) qv ⟨r.left, r.outer, 10⟩ z w' := by
 refine enterS (N := 16) (l := [.pointer (some q1), .pointer (some qz), .pointer (some qv)]) Tryz.func101 rfl rfl (nb rfl) fun c₀ cs hu a F => ?_
 refine wpS_seq ?_
 refine wpS_seq ?_
 refine wpS_region ?_
 refine s_rec_yes F rfl rfl rfl (by decide) (r_recover a) (v := .iface t u) (cs' := { c₀ with mode := .panicking ({ v := .iface t u, recovered := true } :: older) } :: cs) (by simp [recoverD, hu]) fun a F => ?_
 refine s_val F rfl rfl rfl (by decide) (r_assign F rfl) fun a F => ?_
 show Code.wpS _ _ _ _ _ _
 refine wpS_of_wp ?_
 obtain ⟨ad', A1, C1, A2, C2, e0, hat, hl, ho⟩ := RD.some h
 cases e0
 have m0 : ¬ ((0 : Nat) = j) := by omega
 refine sr fun K2 hK2 => ?_
 refine G.qm F fun a F => ?_
 refine G.qv F (r_ifneq_t F (by kernel_rfl) rfl) fun a F => ?_
 refine nil (hK2 _ _ ?_)
 refine wp_cond_true (F.ev rfl) ?_
 refine reg ?_
 refine G.qv F (r_load F rfl lag_rd (AT.cell0 h1 rfl)) fun a F => ?_
 refine G.qv F (r_nil F rfl) fun a F => ?_
 refine G.qv F (r_fieldAddr F rfl ff_122_2) fun a F => ?_
 refine q_eff0 F rfl rfl (e_store F rfl rfl sz_40 hat (by simp) rfl) ?_
 rintro w2 a ⟨E2, hat2, hz2⟩ F
 refine nil ?_
 show Code.wpS _ _ _ _ _ _
 refine wpS_of_wp ?_
 refine sr fun K3 hK3 => ?_
 refine G.qv F (r_load F rfl lag_rd (AT.cell0 (h1.ev E2 n1) rfl)) fun a F => ?_
 refine G.qv F (r_nil F rfl) fun a F => ?_
 refine G.qv F (r_fieldAddr F rfl ff_122_2) fun a F => ?_
 refine G.qv F (r_load F rfl ag_40 (AT.cell hat2 rfl)) fun a F => ?_
 refine G.qv F (r_neq F rfl rfl) fun a F => ?_
 refine nil (hK3 _ _ ?_)
 refine wp_cond_true (F.ev rfl) ?_
 refine reg ?_
 refine G.qv F (r_load F rfl lag_u64 (AT.cell0 (hz.ev E2 n2) rfl)) fun a F => ?_
 refine q_eff0 F rfl rfl (e_store0 F rfl rfl lsz_u64 (hv.ev E2 n3) (by simp) hone) ?_
 rintro w3 a ⟨E3, hat3, hz3⟩ F
 refine nil ?_
 have n5 : ¬ (j = jv) := fun q => n3 q.symm
 have m1 : ¬ ((0 : Nat) = jv) := by omega
 refine ⟨F.dfr, _, rfl, .tuple #[], results_none rfl _ _ _, rfl, rfl, ?_⟩
 exact ⟨(E2.mono (fun _ q => Or.inl q)).trans (E3.mono (M' := fun x => x = j ∨ x = jv) (fun _ q => Or.inr q)) (fun _ q => q), by rw [hz3, hz2], RD.mk (t := ⟨r.left, r.outer, 10⟩) (hat2.ev E3 n5) ((hl.ev E2 m0 m0).ev E3 m1 m1) ((ho.ev E2 m0 m0).ev E3 m1 m1), hat3⟩
set_option maxHeartbeats 2000000 in
theorem catchR_u64 {c : Nat → Nat} {w : World} {j jb jz jv : Nat} {ad q1 qz qv : Addr} {r : Rdr} {z v0 : Value} (hj : 0 < j) (h : RD j c w (some ad) (some r)) (h1 : AT true jb c w q1 [.pointer (some ad)]) (hz : AT true jz c w qz [z]) (hv : AT true jv c w qv [v0])
  (n1 : jb ≠ j) (n2 : jz ≠ j) (n3 : jv ≠ j) (n4 : 0 < jv) (hone : z.oneCell' = true) :
  CallsD Tryz.prog 101 #[.pointer (some q1), .pointer (some qz), .pointer (some qv)] .returning w fun e u' w' =>
   e = .returned (.tuple #[]) ∧ u' = .returning ∧ Rcv j jv c w (some ad) qv r (if r.fault = 0 then v0 else z) w' := by
 refine enterS (N := 16) (l := [.pointer (some q1), .pointer (some qz), .pointer (some qv)]) Tryz.func101 rfl rfl (nb rfl) fun c₀ cs hu a F => ?_
 refine wpS_seq ?_
 refine wpS_seq ?_
 refine wpS_region ?_
 refine s_rec_no F rfl rfl rfl (by decide) (r_recover a) (by simp [recoverD, hu]) fun a F => ?_
 refine s_val F rfl rfl rfl (by decide) (r_assign F rfl) fun a F => ?_
 show Code.wpS _ _ _ _ _ _
 refine wpS_of_wp ?_
 obtain ⟨ad', A1, C1, A2, C2, e0, hat, hl, ho⟩ := RD.some h
 cases e0
 have m1 : ¬ ((0 : Nat) = jv) := by omega
 have n5 : ¬ (j = jv) := fun q => n3 q.symm
 have hc0 : ({ c₀ with mode := .returning } : Frame) = c₀ := by cases c₀; simp_all
 refine sr fun K2 hK2 => ?_
 refine G.qm F fun a F => ?_
 refine G.qv F (r_ifneq_f F (by kernel_rfl) rfl) fun a F => ?_
 refine nil (hK2 _ _ ?_)
 refine wp_cond_false (F.ev rfl) ?_
 refine wp_skip ?_
 show Code.wpS _ _ _ _ _ _
 refine wpS_of_wp ?_
 refine sr fun K3 hK3 => ?_
 refine G.qv F (r_load F rfl lag_rd (AT.cell0 h1 rfl)) fun a F => ?_
 refine G.qv F (r_nil F rfl) fun a F => ?_
 refine G.qv F (r_fieldAddr F rfl ff_122_2) fun a F => ?_
 refine G.qv F (r_load F rfl ag_40 (AT.cell hat rfl)) fun a F => ?_
 refine G.qv F (r_neq F rfl rfl) fun a F => ?_
 refine nil (hK3 _ _ ?_)
 by_cases hf : r.fault = 0
 ·refine wp_cond_false ((F.ev rfl).trans (congrArg Value.bool (congrArg not (decide_eq_true hf)))) ?_
  refine wp_skip ?_
  refine ⟨F.dfr, .returning, by rw [hc0], .tuple #[], results_none rfl _ _ _, rfl, rfl, ?_⟩
  rw [if_pos hf]
  exact ⟨Ev.refl, rfl, h, hv⟩
 ·refine wp_cond_true ((F.ev rfl).trans (congrArg Value.bool (congrArg not (decide_eq_false hf)))) ?_
  refine reg ?_
  refine G.qv F (r_load F rfl lag_u64 (AT.cell0 hz rfl)) fun a F => ?_
  refine q_eff0 F rfl rfl (e_store0 F rfl rfl lsz_u64 hv (by simp) hone) ?_
  rintro w3 a ⟨E3, hat3, hz3⟩ F
  refine nil ?_
  refine ⟨F.dfr, .returning, by rw [hc0], .tuple #[], results_none rfl _ _ _, rfl, rfl, ?_⟩
  rw [if_neg hf]
  exact ⟨E3.mono (fun _ q => Or.inr q), hz3, h.ev E3 n5 m1, hat3⟩
set_option maxHeartbeats 2000000 in
theorem catchP_bytes {c : Nat → Nat} {w : World} {j jb jz jv : Nat} {ad q1 qz qv : Addr} {r : Rdr} {z v0 : Value} (hj : 0 < j) (h : RD j c w (some ad) (some r)) (h1 : AT true jb c w q1 [.pointer (some ad)]) (hz : AT true jz c w qz [z]) (hv : AT true jv c w qv [v0])
  (n1 : jb ≠ j) (n2 : jz ≠ j) (n3 : jv ≠ j) (n4 : 0 < jv) (hone : z.oneCell' = true) (t : TypeId) (u : Value) (older : List PanicEntry) :
  CallsD Tryz.prog 102 #[.pointer (some q1), .pointer (some qz), .pointer (some qv)] (.panicking ({ v := .iface t u, recovered := false } :: older)) w fun e u' w' =>
   e = .returned (.tuple #[]) ∧ u' = .panicking ({ v := .iface t u, recovered := true } :: older) ∧ Rcv j jv c w (some ad) qv ⟨r.left, r.outer, 10⟩ z w' := by
 refine enterS (N := 16) (l := [.pointer (some q1), .pointer (some qz), .pointer (some qv)]) Tryz.func102 rfl rfl (nb rfl) fun c₀ cs hu a F => ?_
 refine wpS_seq ?_
 refine wpS_seq ?_
 refine wpS_region ?_
 refine s_rec_yes F rfl rfl rfl (by decide) (r_recover a) (v := .iface t u) (cs' := { c₀ with mode := .panicking ({ v := .iface t u, recovered := true } :: older) } :: cs) (by simp [recoverD, hu]) fun a F => ?_
 refine s_val F rfl rfl rfl (by decide) (r_assign F rfl) fun a F => ?_
 show Code.wpS _ _ _ _ _ _
 refine wpS_of_wp ?_
 obtain ⟨ad', A1, C1, A2, C2, e0, hat, hl, ho⟩ := RD.some h
 cases e0
 have m0 : ¬ ((0 : Nat) = j) := by omega
 refine sr fun K2 hK2 => ?_
 refine G.qm F fun a F => ?_
 refine G.qv F (r_ifneq_t F (by kernel_rfl) rfl) fun a F => ?_
 refine nil (hK2 _ _ ?_)
 refine wp_cond_true (F.ev rfl) ?_
 refine reg ?_
 refine G.qv F (r_load F rfl lag_rd (AT.cell0 h1 rfl)) fun a F => ?_
 refine G.qv F (r_nil F rfl) fun a F => ?_
 refine G.qv F (r_fieldAddr F rfl ff_122_2) fun a F => ?_
 refine q_eff0 F rfl rfl (e_store F rfl rfl sz_40 hat (by simp) rfl) ?_
 rintro w2 a ⟨E2, hat2, hz2⟩ F
 refine nil ?_
 show Code.wpS _ _ _ _ _ _
 refine wpS_of_wp ?_
 refine sr fun K3 hK3 => ?_
 refine G.qv F (r_load F rfl lag_rd (AT.cell0 (h1.ev E2 n1) rfl)) fun a F => ?_
 refine G.qv F (r_nil F rfl) fun a F => ?_
 refine G.qv F (r_fieldAddr F rfl ff_122_2) fun a F => ?_
 refine G.qv F (r_load F rfl ag_40 (AT.cell hat2 rfl)) fun a F => ?_
 refine G.qv F (r_neq F rfl rfl) fun a F => ?_
 refine nil (hK3 _ _ ?_)
 refine wp_cond_true (F.ev rfl) ?_
 refine reg ?_
 refine G.qv F (r_load F rfl lag_bytes (AT.cell0 (hz.ev E2 n2) rfl)) fun a F => ?_
 refine q_eff0 F rfl rfl (e_store0 F rfl rfl lsz_bytes (hv.ev E2 n3) (by simp) hone) ?_
 rintro w3 a ⟨E3, hat3, hz3⟩ F
 refine nil ?_
 have n5 : ¬ (j = jv) := fun q => n3 q.symm
 have m1 : ¬ ((0 : Nat) = jv) := by omega
 refine ⟨F.dfr, _, rfl, .tuple #[], results_none rfl _ _ _, rfl, rfl, ?_⟩
 exact ⟨(E2.mono (fun _ q => Or.inl q)).trans (E3.mono (M' := fun x => x = j ∨ x = jv) (fun _ q => Or.inr q)) (fun _ q => q), by rw [hz3, hz2], RD.mk (t := ⟨r.left, r.outer, 10⟩) (hat2.ev E3 n5) ((hl.ev E2 m0 m0).ev E3 m1 m1) ((ho.ev E2 m0 m0).ev E3 m1 m1), hat3⟩
set_option maxHeartbeats 2000000 in
theorem catchR_bytes {c : Nat → Nat} {w : World} {j jb jz jv : Nat} {ad q1 qz qv : Addr} {r : Rdr} {z v0 : Value} (hj : 0 < j) (h : RD j c w (some ad) (some r)) (h1 : AT true jb c w q1 [.pointer (some ad)]) (hz : AT true jz c w qz [z]) (hv : AT true jv c w qv [v0])
  (n1 : jb ≠ j) (n2 : jz ≠ j) (n3 : jv ≠ j) (n4 : 0 < jv) (hone : z.oneCell' = true) :
  CallsD Tryz.prog 102 #[.pointer (some q1), .pointer (some qz), .pointer (some qv)] .returning w fun e u' w' =>
   e = .returned (.tuple #[]) ∧ u' = .returning ∧ Rcv j jv c w (some ad) qv r (if r.fault = 0 then v0 else z) w' := by
 refine enterS (N := 16) (l := [.pointer (some q1), .pointer (some qz), .pointer (some qv)]) Tryz.func102 rfl rfl (nb rfl) fun c₀ cs hu a F => ?_
 refine wpS_seq ?_
 refine wpS_seq ?_
 refine wpS_region ?_
 refine s_rec_no F rfl rfl rfl (by decide) (r_recover a) (by simp [recoverD, hu]) fun a F => ?_
 refine s_val F rfl rfl rfl (by decide) (r_assign F rfl) fun a F => ?_
 show Code.wpS _ _ _ _ _ _
 refine wpS_of_wp ?_
 obtain ⟨ad', A1, C1, A2, C2, e0, hat, hl, ho⟩ := RD.some h
 cases e0
 have m1 : ¬ ((0 : Nat) = jv) := by omega
 have n5 : ¬ (j = jv) := fun q => n3 q.symm
 have hc0 : ({ c₀ with mode := .returning } : Frame) = c₀ := by cases c₀; simp_all
 refine sr fun K2 hK2 => ?_
 refine G.qm F fun a F => ?_
 refine G.qv F (r_ifneq_f F (by kernel_rfl) rfl) fun a F => ?_
 refine nil (hK2 _ _ ?_)
 refine wp_cond_false (F.ev rfl) ?_
 refine wp_skip ?_
 show Code.wpS _ _ _ _ _ _
 refine wpS_of_wp ?_
 refine sr fun K3 hK3 => ?_
 refine G.qv F (r_load F rfl lag_rd (AT.cell0 h1 rfl)) fun a F => ?_
 refine G.qv F (r_nil F rfl) fun a F => ?_
 refine G.qv F (r_fieldAddr F rfl ff_122_2) fun a F => ?_
 refine G.qv F (r_load F rfl ag_40 (AT.cell hat rfl)) fun a F => ?_
 refine G.qv F (r_neq F rfl rfl) fun a F => ?_
 refine nil (hK3 _ _ ?_)
 by_cases hf : r.fault = 0
 ·refine wp_cond_false ((F.ev rfl).trans (congrArg Value.bool (congrArg not (decide_eq_true hf)))) ?_
  refine wp_skip ?_
  refine ⟨F.dfr, .returning, by rw [hc0], .tuple #[], results_none rfl _ _ _, rfl, rfl, ?_⟩
  rw [if_pos hf]
  exact ⟨Ev.refl, rfl, h, hv⟩
 ·refine wp_cond_true ((F.ev rfl).trans (congrArg Value.bool (congrArg not (decide_eq_false hf)))) ?_
  refine reg ?_
  refine G.qv F (r_load F rfl lag_bytes (AT.cell0 hz rfl)) fun a F => ?_
  refine q_eff0 F rfl rfl (e_store0 F rfl rfl lsz_bytes hv (by simp) hone) ?_
  rintro w3 a ⟨E3, hat3, hz3⟩ F
  refine nil ?_
  refine ⟨F.dfr, .returning, by rw [hc0], .tuple #[], results_none rfl _ _ _, rfl, rfl, ?_⟩
  rw [if_neg hf]
  exact ⟨E3.mono (fun _ q => Or.inr q), hz3, h.ev E3 n5 m1, hat3⟩
def takeF {α : Type} (z : α) (a1 : Option Rdr) (X : Rdr → (List Int × Int) ⊕ (α × List Int × Int)) : α × Option Rdr := match a1 with
 | none => (z, none)
 | some r => if r.fault = 0 then rtake z r (X r) else (z, some r)
set_option maxRecDepth 100000 in
set_option maxHeartbeats 4000000 in
theorem take_calls_u64 {m : Nat} {c0 : Nat → Nat} {w0 : World} {j : Nat} {p : Option Addr} {a1 : Option Rdr} {f : FuncId} {fn : Func} {fst cp : Array Value} {X : Rdr → (List Int × Int) ⊕ (Int × List Int × Int)} (B0 : CB m c0 w0) (h : RD j c0 w0 p a1) (hj : 0 < j ∧ j < m)
  (hf : Tryz.prog.funcs[f]? = some fn) (hfb : fn.body.isNone = false) (hfn : (fn.name == "runtime.NumGoroutine") = false)
  (hcl : ∀ r, a1 = some r → r.fault = 0 → ∀ c1 w1, Ev No c0 w0 c1 w1 → CB (m + 3) c1 w1 → RD j c1 w1 p (some r) → Calls Tryz.prog f (fst ++ cp) w1 (RX (m + 4) j c1 w1 p r.outer (X r) (retI .u64))) :
  Calls Tryz.prog 81 #[.pointer p, .func (.func f) fst cp] w0 (fun e w_ => ∃ c_, Ev (fun x => x = j) c0 w0 c_ w_ ∧ CB (m + 4) c_ w_ ∧ (∃ v, e = .returned v ∧ (retI .u64) (takeF 0 a1 X).1 c_ w_ v) ∧ RD j c_ w_ p (takeF 0 a1 X).2) := by
 refine enterD (N := 19) (l := [.pointer p, .func (.func f) fst cp]) Tryz.func81 rfl rfl (nb rfl) fun a F => ?_
 refine sr fun K1 hK1 => ?_
 refine q_eff F rfl rfl (by decide) (e_box F rfl c0 m) ?_
 rintro v w1 a ⟨c1, qb, rfl, E1, hb1, M1⟩ F
 have hb1 : AT true m c1 w1 qb [.pointer p] := hb1
 have B1 : CB (m + 4) c1 w1 := M1 _ (B0.mono (by omega)) (by omega)
 refine q_eff F rfl rfl (by decide) (e_alloc F lzv_u64 c1 (m + 1)) ?_
 rintro v w2 a ⟨c2, qv, rfl, E2, hv2, M2⟩ F
 have hv2 : AT true (m + 1) c2 w2 qv [.int .u64 0] := hv2
 have B2 : CB (m + 4) c2 w2 := M2 _ B1 (by omega)
 refine nil (hK1 _ _ ?_)
 refine sr fun K2 hK2 => ?_
 refine q_eff F rfl rfl (by decide) (e_alloc F lzv_u64 c2 (m + 2)) ?_
 rintro v w3 a ⟨c3, qz, rfl, E3, hz3, M3⟩ F
 have hz3 : AT true (m + 2) c3 w3 qz [.int .u64 0] := hz3
 have B3 : CB (m + 3) c3 w3 := M3 _ (M2 _ (M1 _ (B0.mono (by omega)) (by omega)) (by omega)) (by omega)
 have no : ∀ x, ¬ No x := fun x q => q
 have hb3 : AT true m c3 w3 qb [.pointer p] := (hb1.ev E2 (no _)).ev E3 (no _)
 have hv3 : AT true (m + 1) c3 w3 qv [.int .u64 0] := hv2.ev E3 (no _)
 have E : Ev No c0 w0 c3 w3 := (E1.trans E2 (fun _ q => q)).trans E3 (fun _ q => q)
 have hR : RD j c3 w3 p a1 := h.ev E (no _) (no _)
 clear E1 E2 E3 hb1 hv2 B1 B2 M1 M2 M3
 have EX : Ev (fun x => x = j ∨ m ≤ x) c0 w0 c3 w3 := E.mono (fun _ q => q.elim)
 refine nil (hK2 _ _ ?_)
 refine wp_seq_k fun K3 hK3 => ?_
 refine wp_seq_k fun K4 hK4 => ?_
 have early : ∀ a, Fr a 19 [(4, .pointer (some qv)), (5, .pointer (some qz)), (14, .bool true)] → takeF 0 a1 X = (0, a1) → K4 a w3 := by
  intro a F ht
  refine hK4 _ _ ?_
  refine wp_cond_true (F.ev rfl) ?_
  refine sr fun K5 hK5 => ?_
  refine G.qv F (r_load F rfl lag_u64 (AT.cell0 hz3 rfl)) fun a F => ?_
  refine q_eff0 F rfl rfl (e_store0 F rfl rfl lsz_u64 hv3 (by simp) rfl) ?_
  rintro w4 a ⟨E4, hv4, hs4⟩ F
  refine nil (hK5 _ _ ?_)
  refine wp_ret ?_
  repeat (first | refine thenR ?_ | refine inbR ?_)
  show Leaves _ _ _ _ _ _ _
  rw [F.dfr]
  refine leaves1 F rfl ⟨qv, rfl, lv_one lag_u64 (AT.cell0 hv4 rfl)⟩ ?_
  refine ⟨c3, (EX.trans (E4.mono (M' := fun x => x = j ∨ m ≤ x) (fun x q => Or.inr (by omega))) (fun _ q => q)).leave B0 id (fun _ _ => rfl), (B3.size hs4).mono (by omega), ⟨_, rfl, ?_⟩, ?_⟩
  ·rw [ht]; exact rfl
  ·rw [ht]; exact hR.ev E4 (by omega) (by omega)
 refine reg ?_
 refine G.qv F (r_load F rfl lag_rd (AT.cell0 hb3 rfl)) fun a F => ?_
 refine G.qv F (r_peqlA F Tryz.underlying90 rfl rfl (RD.isNone hR)) fun a F => ?_
 refine G.qm F fun a F => ?_
 cases a1 with
 | none =>
  refine q_no F rfl (by decide) rfl rfl (by decide) fun a F => ?_
  refine q_no F rfl (by decide) rfl rfl (by decide) fun a F => ?_
  refine q_no F rfl (by decide) rfl rfl (by decide) fun a F => ?_
  refine q_no F rfl (by decide) rfl rfl (by decide) fun a F => ?_
  refine q_no F rfl (by decide) rfl rfl (by decide) fun a F => ?_
  refine G.qv F (r_pick_t F rfl rfl rfl) fun a F => ?_
  refine nil ?_
  exact early a (F.sub ⟨rfl, rfl, rfl, trivial⟩) rfl
 | some r =>
  obtain ⟨ad, A1, C1, A2, C2, rfl, hat, hl, ho⟩ := RD.some hR
  refine q_yes F rfl (by decide) rfl rfl ?_
  refine G.qv F (r_load F rfl lag_rd (AT.cell0 hb3 rfl)) fun a F => ?_
  refine q_yes F rfl (by decide) rfl rfl ?_
  refine G.qv F (r_nil F rfl) fun a F => ?_
  refine q_yes F rfl (by decide) rfl rfl ?_
  refine G.qv F (r_fieldAddr F rfl ff_122_2) fun a F => ?_
  refine q_yes F rfl (by decide) rfl rfl ?_
  refine G.qv F (r_load F rfl ag_40 (AT.cell hat rfl)) fun a F => ?_
  refine q_yes F rfl (by decide) rfl rfl ?_
  refine G.qv F (r_neq F rfl rfl) fun a F => ?_
  refine G.qv F (r_pick_f F rfl rfl rfl) fun a F => ?_
  refine nil ?_
  by_cases hft : r.fault = 0
  ·rw [decide_eq_true hft] at F
   refine hK4 _ _ ?_
   refine wp_cond_false (F.ev rfl) ?_
   refine wp_skip ?_
   refine hK3 _ _ ?_
   have htk : takeF 0 (some r) X = rtake 0 r (X r) := by unfold takeF; simp only [if_pos hft]
   rw [htk]
   refine wp_seq_k fun K5 hK5 => ?_
   refine preg ?_
   refine p_val F rfl rfl (by decide) (r_makeFunc (vs := [.pointer (some qb), .pointer (some qz), .pointer (some qv)]) F rfl) fun a F => ?_
   refine p_defer F rfl rfl (r_defer F rfl) fun a F => ?_
   refine pnil ?_
   refine hK5 _ _ ?_
   refine wp_seq_k fun K6 hK6 => ?_
   refine preg ?_
   refine p_val F rfl rfl (by decide) (r_move F rfl) fun a F => ?_
   refine p_call F rfl rfl (by decide) (r_callv F hf hfb hfn rfl) (hcl r rfl hft c3 w3 E B3 hR) ?_
   rintro e w4 ⟨c4, E4, B4, hx⟩
   have hb4 := hb3.ev E4 (show ¬ m = j by omega)
   have hv4 := hv3.ev E4 (show ¬ m + 1 = j by omega)
   have hz4 := hz3.ev E4 (show ¬ m + 2 = j by omega)
   generalize hXr : X r = res at hx
   match res with
   | .inl (l, ft) =>
    right
    obtain ⟨⟨t, u, rfl⟩, hR4⟩ := hx
    refine ⟨_, rfl, fun a F => ?_⟩
    repeat (first | refine thenP ?_ | refine inbP ?_)
    show Leaves _ _ _ _ _ _ _
    rw [F.dfr]
    refine leaves_cons (f := 101) (args := #[.pointer (some qb), .pointer (some qz), .pointer (some qv)]) (by simp) (invoke_fn (args := #[]) Tryz.func101 rfl rfl) ?_
    refine (catchP_u64 (jb := m) (jz := m + 2) (jv := m + 1) hj.1 hR4 hb4 hz4 hv4 (by omega) (by omega) (by omega) (by omega) rfl t u []).mono ?_
    rintro e u' w6 ⟨rfl, rfl, E6, hs6, hR6, hv6⟩
    show Leaves _ _ _ _ _ .returning _
    refine leaves1 F rfl ⟨qv, rfl, lv_one lag_u64 (AT.cell0 hv6 rfl)⟩ ?_
    refine ⟨c4, ((EX.trans (E4.mono (M' := fun x => x = j ∨ m ≤ x) (fun x q => Or.inl q)) (fun _ q => q)).trans (E6.mono (M' := fun x => x = j ∨ m ≤ x) (fun x q => q.elim (fun q => Or.inl q) (fun q => Or.inr (by omega)))) (fun _ q => q)).leave B0 id (fun _ _ => rfl), B4.size hs6, ⟨_, rfl, ?_⟩, hR6⟩
    exact rfl
   | .inr (x, l, ft) =>
    left
    obtain ⟨⟨v, rfl, hv⟩, hR4⟩ := hx
    have hone : v.oneCell' = true := by cases (show v = .int .u64 x from hv); rfl
    refine ⟨v, rfl, fun a F => ?_⟩
    refine p_eff0 F rfl rfl (e_store0 F rfl rfl lsz_u64 hv4 (by simp) hone) ?_
    rintro w5 a ⟨E5, hv5, hs5⟩ F
    have hv5 : AT true (m + 1) c4 w5 qv [v] := hv5
    refine pnil ?_
    refine hK6 _ _ ?_
    refine wp_ret ?_
    repeat (first | refine thenR ?_ | refine inbR ?_)
    show Leaves _ _ _ _ _ _ _
    rw [F.dfr]
    refine leaves_cons (f := 101) (args := #[.pointer (some qb), .pointer (some qz), .pointer (some qv)]) (by simp) (invoke_fn (args := #[]) Tryz.func101 rfl rfl) ?_
    refine (catchR_u64 (jb := m) (jz := m + 2) (jv := m + 1) hj.1 (hR4.ev E5 (by omega) (by omega)) (hb4.ev E5 (by omega)) (hz4.ev E5 (by omega)) hv5 (by omega) (by omega) (by omega) (by omega) rfl).mono ?_
    rintro e u' w6 ⟨rfl, rfl, E6, hs6, hR6, hv6⟩
    show Leaves _ _ _ _ _ .returning _
    refine leaves1 F rfl ⟨qv, rfl, lv_one lag_u64 (AT.cell0 hv6 rfl)⟩ ?_
    rw [hXr]
    have ET : Ev (fun x => x = j) c0 w0 c4 w6 := (((EX.trans (E4.mono (M' := fun x => x = j ∨ m ≤ x) (fun x q => Or.inl q)) (fun _ q => q)).trans (E5.mono (M' := fun x => x = j ∨ m ≤ x) (fun x q => Or.inr (by omega))) (fun _ q => q)).trans (E6.mono (M' := fun x => x = j ∨ m ≤ x) (fun x q => q.elim (fun q => Or.inl q) (fun q => Or.inr (by omega)))) (fun _ q => q)).leave B0 id (fun _ _ => rfl)
    by_cases hq : ft = 0
    ·rw [if_pos (show (⟨l, r.outer, ft⟩ : Rdr).fault = 0 from hq)]
     refine ⟨c4, ET, (B4.size hs5).size hs6, ⟨_, rfl, ?_⟩, ?_⟩
     ·show (retI .u64) (rtake 0 r (.inr (x, l, ft))).1 c4 w6 v
      unfold rtake; simp only [if_pos hq]
      exact hv
     ·unfold rtake; simp only [if_pos hq]; exact hR6
    ·rw [if_neg (show ¬ (⟨l, r.outer, ft⟩ : Rdr).fault = 0 from hq)]
     refine ⟨c4, ET, (B4.size hs5).size hs6, ⟨_, rfl, ?_⟩, ?_⟩
     ·show (retI .u64) (rtake 0 r (.inr (x, l, ft))).1 c4 w6 _
      unfold rtake; simp only [if_neg hq]
      exact rfl
     ·unfold rtake; simp only [if_neg hq]; exact hR6
  ·rw [decide_eq_false hft] at F
   exact early a (F.sub ⟨rfl, rfl, rfl, trivial⟩) (by unfold takeF; simp only [if_neg hft])
set_option maxRecDepth 100000 in
set_option maxHeartbeats 4000000 in
theorem take_calls_bytes {m : Nat} {c0 : Nat → Nat} {w0 : World} {j : Nat} {p : Option Addr} {a1 : Option Rdr} {f : FuncId} {fn : Func} {fst cp : Array Value} {X : Rdr → (List Int × Int) ⊕ (List Int × List Int × Int)} (B0 : CB m c0 w0) (h : RD j c0 w0 p a1) (hj : 0 < j ∧ j < m)
  (hf : Tryz.prog.funcs[f]? = some fn) (hfb : fn.body.isNone = false) (hfn : (fn.name == "runtime.NumGoroutine") = false)
  (hcl : ∀ r, a1 = some r → r.fault = 0 → ∀ c1 w1, Ev No c0 w0 c1 w1 → CB (m + 3) c1 w1 → RD j c1 w1 p (some r) → Calls Tryz.prog f (fst ++ cp) w1 (RX (m + 4) j c1 w1 p r.outer (X r) (retT (m + 3)))) :
  Calls Tryz.prog 83 #[.pointer p, .func (.func f) fst cp] w0 (fun e w_ => ∃ c_, Ev (fun x => x = j) c0 w0 c_ w_ ∧ CB (m + 4) c_ w_ ∧ (∃ v, e = .returned v ∧ (retT (m + 3)) (takeF ([] : List Int) a1 X).1 c_ w_ v) ∧ RD j c_ w_ p (takeF ([] : List Int) a1 X).2) := by
 refine enterD (N := 19) (l := [.pointer p, .func (.func f) fst cp]) Tryz.func83 rfl rfl (nb rfl) fun a F => ?_
 refine sr fun K1 hK1 => ?_
 refine q_eff F rfl rfl (by decide) (e_box F rfl c0 m) ?_
 rintro v w1 a ⟨c1, qb, rfl, E1, hb1, M1⟩ F
 have hb1 : AT true m c1 w1 qb [.pointer p] := hb1
 have B1 : CB (m + 4) c1 w1 := M1 _ (B0.mono (by omega)) (by omega)
 refine q_eff F rfl rfl (by decide) (e_alloc F lzv_bytes c1 (m + 1)) ?_
 rintro v w2 a ⟨c2, qv, rfl, E2, hv2, M2⟩ F
 have hv2 : AT true (m + 1) c2 w2 qv [.slice none 0 0] := hv2
 have B2 : CB (m + 4) c2 w2 := M2 _ B1 (by omega)
 refine nil (hK1 _ _ ?_)
 refine sr fun K2 hK2 => ?_
 refine q_eff F rfl rfl (by decide) (e_alloc F lzv_bytes c2 (m + 2)) ?_
 rintro v w3 a ⟨c3, qz, rfl, E3, hz3, M3⟩ F
 have hz3 : AT true (m + 2) c3 w3 qz [.slice none 0 0] := hz3
 have B3 : CB (m + 3) c3 w3 := M3 _ (M2 _ (M1 _ (B0.mono (by omega)) (by omega)) (by omega)) (by omega)
 have no : ∀ x, ¬ No x := fun x q => q
 have hb3 : AT true m c3 w3 qb [.pointer p] := (hb1.ev E2 (no _)).ev E3 (no _)
 have hv3 : AT true (m + 1) c3 w3 qv [.slice none 0 0] := hv2.ev E3 (no _)
 have E : Ev No c0 w0 c3 w3 := (E1.trans E2 (fun _ q => q)).trans E3 (fun _ q => q)
 have hR : RD j c3 w3 p a1 := h.ev E (no _) (no _)
 clear E1 E2 E3 hb1 hv2 B1 B2 M1 M2 M3
 have EX : Ev (fun x => x = j ∨ m ≤ x) c0 w0 c3 w3 := E.mono (fun _ q => q.elim)
 refine nil (hK2 _ _ ?_)
 refine wp_seq_k fun K3 hK3 => ?_
 refine wp_seq_k fun K4 hK4 => ?_
 have early : ∀ a, Fr a 19 [(4, .pointer (some qv)), (5, .pointer (some qz)), (14, .bool true)] → takeF ([] : List Int) a1 X = (([] : List Int), a1) → K4 a w3 := by
  intro a F ht
  refine hK4 _ _ ?_
  refine wp_cond_true (F.ev rfl) ?_
  refine sr fun K5 hK5 => ?_
  refine G.qv F (r_load F rfl lag_bytes (AT.cell0 hz3 rfl)) fun a F => ?_
  refine q_eff0 F rfl rfl (e_store0 F rfl rfl lsz_bytes hv3 (by simp) rfl) ?_
  rintro w4 a ⟨E4, hv4, hs4⟩ F
  refine nil (hK5 _ _ ?_)
  refine wp_ret ?_
  repeat (first | refine thenR ?_ | refine inbR ?_)
  show Leaves _ _ _ _ _ _ _
  rw [F.dfr]
  refine leaves1 F rfl ⟨qv, rfl, lv_one lag_bytes (AT.cell0 hv4 rfl)⟩ ?_
  refine ⟨c3, (EX.trans (E4.mono (M' := fun x => x = j ∨ m ≤ x) (fun x q => Or.inr (by omega))) (fun _ q => q)).leave B0 id (fun _ _ => rfl), (B3.size hs4).mono (by omega), ⟨_, rfl, ?_⟩, ?_⟩
  ·rw [ht]; exact ⟨none, 0, rfl, SL.nil⟩
  ·rw [ht]; exact hR.ev E4 (by omega) (by omega)
 refine reg ?_
 refine G.qv F (r_load F rfl lag_rd (AT.cell0 hb3 rfl)) fun a F => ?_
 refine G.qv F (r_peqlA F Tryz.underlying90 rfl rfl (RD.isNone hR)) fun a F => ?_
 refine G.qm F fun a F => ?_
 cases a1 with
 | none =>
  refine q_no F rfl (by decide) rfl rfl (by decide) fun a F => ?_
  refine q_no F rfl (by decide) rfl rfl (by decide) fun a F => ?_
  refine q_no F rfl (by decide) rfl rfl (by decide) fun a F => ?_
  refine q_no F rfl (by decide) rfl rfl (by decide) fun a F => ?_
  refine q_no F rfl (by decide) rfl rfl (by decide) fun a F => ?_
  refine G.qv F (r_pick_t F rfl rfl rfl) fun a F => ?_
  refine nil ?_
  exact early a (F.sub ⟨rfl, rfl, rfl, trivial⟩) rfl
 | some r =>
  obtain ⟨ad, A1, C1, A2, C2, rfl, hat, hl, ho⟩ := RD.some hR
  refine q_yes F rfl (by decide) rfl rfl ?_
  refine G.qv F (r_load F rfl lag_rd (AT.cell0 hb3 rfl)) fun a F => ?_
  refine q_yes F rfl (by decide) rfl rfl ?_
  refine G.qv F (r_nil F rfl) fun a F => ?_
  refine q_yes F rfl (by decide) rfl rfl ?_
  refine G.qv F (r_fieldAddr F rfl ff_122_2) fun a F => ?_
  refine q_yes F rfl (by decide) rfl rfl ?_
  refine G.qv F (r_load F rfl ag_40 (AT.cell hat rfl)) fun a F => ?_
  refine q_yes F rfl (by decide) rfl rfl ?_
  refine G.qv F (r_neq F rfl rfl) fun a F => ?_
  refine G.qv F (r_pick_f F rfl rfl rfl) fun a F => ?_
  refine nil ?_
  by_cases hft : r.fault = 0
  ·rw [decide_eq_true hft] at F
   refine hK4 _ _ ?_
   refine wp_cond_false (F.ev rfl) ?_
   refine wp_skip ?_
   refine hK3 _ _ ?_
   have htk : takeF ([] : List Int) (some r) X = rtake ([] : List Int) r (X r) := by unfold takeF; simp only [if_pos hft]
   rw [htk]
   refine wp_seq_k fun K5 hK5 => ?_
   refine preg ?_
   refine p_val F rfl rfl (by decide) (r_makeFunc (vs := [.pointer (some qb), .pointer (some qz), .pointer (some qv)]) F rfl) fun a F => ?_
   refine p_defer F rfl rfl (r_defer F rfl) fun a F => ?_
   refine pnil ?_
   refine hK5 _ _ ?_
   refine wp_seq_k fun K6 hK6 => ?_
   refine preg ?_
   refine p_val F rfl rfl (by decide) (r_move F rfl) fun a F => ?_
   refine p_call F rfl rfl (by decide) (r_callv F hf hfb hfn rfl) (hcl r rfl hft c3 w3 E B3 hR) ?_
   rintro e w4 ⟨c4, E4, B4, hx⟩
   have hb4 := hb3.ev E4 (show ¬ m = j by omega)
   have hv4 := hv3.ev E4 (show ¬ m + 1 = j by omega)
   have hz4 := hz3.ev E4 (show ¬ m + 2 = j by omega)
   generalize hXr : X r = res at hx
   match res with
   | .inl (l, ft) =>
    right
    obtain ⟨⟨t, u, rfl⟩, hR4⟩ := hx
    refine ⟨_, rfl, fun a F => ?_⟩
    repeat (first | refine thenP ?_ | refine inbP ?_)
    show Leaves _ _ _ _ _ _ _
    rw [F.dfr]
    refine leaves_cons (f := 102) (args := #[.pointer (some qb), .pointer (some qz), .pointer (some qv)]) (by simp) (invoke_fn (args := #[]) Tryz.func102 rfl rfl) ?_
    refine (catchP_bytes (jb := m) (jz := m + 2) (jv := m + 1) hj.1 hR4 hb4 hz4 hv4 (by omega) (by omega) (by omega) (by omega) rfl t u []).mono ?_
    rintro e u' w6 ⟨rfl, rfl, E6, hs6, hR6, hv6⟩
    show Leaves _ _ _ _ _ .returning _
    refine leaves1 F rfl ⟨qv, rfl, lv_one lag_bytes (AT.cell0 hv6 rfl)⟩ ?_
    refine ⟨c4, ((EX.trans (E4.mono (M' := fun x => x = j ∨ m ≤ x) (fun x q => Or.inl q)) (fun _ q => q)).trans (E6.mono (M' := fun x => x = j ∨ m ≤ x) (fun x q => q.elim (fun q => Or.inl q) (fun q => Or.inr (by omega)))) (fun _ q => q)).leave B0 id (fun _ _ => rfl), B4.size hs6, ⟨_, rfl, ?_⟩, hR6⟩
    exact ⟨none, 0, rfl, SL.nil⟩
   | .inr (x, l, ft) =>
    left
    obtain ⟨⟨v, rfl, hv⟩, hR4⟩ := hx
    have hone : v.oneCell' = true := by obtain ⟨A3, C3, e3, hs3⟩ := hv; rw [e3]; rfl
    refine ⟨v, rfl, fun a F => ?_⟩
    refine p_eff0 F rfl rfl (e_store0 F rfl rfl lsz_bytes hv4 (by simp) hone) ?_
    rintro w5 a ⟨E5, hv5, hs5⟩ F
    have hv5 : AT true (m + 1) c4 w5 qv [v] := hv5
    refine pnil ?_
    refine hK6 _ _ ?_
    refine wp_ret ?_
    repeat (first | refine thenR ?_ | refine inbR ?_)
    show Leaves _ _ _ _ _ _ _
    rw [F.dfr]
    refine leaves_cons (f := 102) (args := #[.pointer (some qb), .pointer (some qz), .pointer (some qv)]) (by simp) (invoke_fn (args := #[]) Tryz.func102 rfl rfl) ?_
    refine (catchR_bytes (jb := m) (jz := m + 2) (jv := m + 1) hj.1 (hR4.ev E5 (by omega) (by omega)) (hb4.ev E5 (by omega)) (hz4.ev E5 (by omega)) hv5 (by omega) (by omega) (by omega) (by omega) rfl).mono ?_
    rintro e u' w6 ⟨rfl, rfl, E6, hs6, hR6, hv6⟩
    show Leaves _ _ _ _ _ .returning _
    refine leaves1 F rfl ⟨qv, rfl, lv_one lag_bytes (AT.cell0 hv6 rfl)⟩ ?_
    rw [hXr]
    have ET : Ev (fun x => x = j) c0 w0 c4 w6 := (((EX.trans (E4.mono (M' := fun x => x = j ∨ m ≤ x) (fun x q => Or.inl q)) (fun _ q => q)).trans (E5.mono (M' := fun x => x = j ∨ m ≤ x) (fun x q => Or.inr (by omega))) (fun _ q => q)).trans (E6.mono (M' := fun x => x = j ∨ m ≤ x) (fun x q => q.elim (fun q => Or.inl q) (fun q => Or.inr (by omega)))) (fun _ q => q)).leave B0 id (fun _ _ => rfl)
    by_cases hq : ft = 0
    ·rw [if_pos (show (⟨l, r.outer, ft⟩ : Rdr).fault = 0 from hq)]
     refine ⟨c4, ET, (B4.size hs5).size hs6, ⟨_, rfl, ?_⟩, ?_⟩
     ·show (retT (m + 3)) (rtake ([] : List Int) r (.inr (x, l, ft))).1 c4 w6 v
      unfold rtake; simp only [if_pos hq]
      obtain ⟨A3, C3, e3, hs3⟩ := hv
      exact ⟨A3, C3, e3, (hs3.ev E5 (by omega) (by omega)).ev E6 (by omega) (by omega)⟩
     ·unfold rtake; simp only [if_pos hq]; exact hR6
    ·rw [if_neg (show ¬ (⟨l, r.outer, ft⟩ : Rdr).fault = 0 from hq)]
     refine ⟨c4, ET, (B4.size hs5).size hs6, ⟨_, rfl, ?_⟩, ?_⟩
     ·show (retT (m + 3)) (rtake ([] : List Int) r (.inr (x, l, ft))).1 c4 w6 _
      unfold rtake; simp only [if_neg hq]
      exact ⟨none, 0, rfl, SL.nil⟩
     ·unfold rtake; simp only [if_neg hq]; exact hR6
  ·rw [decide_eq_false hft] at F
   exact early a (F.sub ⟨rfl, rfl, rfl, trivial⟩) (by unfold takeF; simp only [if_neg hft])
theorem r_makeFunc1 {P : Program} {a : Act} {N : Nat} {L : List (Nat × Value)} {D : List Deferred} {w : World} {x : Operand} {v : Value} {d : Option Tmp} {ty : TypeId} {pos : String} {af : Array Edge} {gd : Option (Nat × Bool)} {f : FuncId} (F : Fr a N L D) (hx : ev L x = some v) :
  (execOp a.eval { dst := d, op := .makeFunc (.func f) #[x] #[], type := ty, pos := pos, after := af, guard := gd }).run P w = .ok (.value (.func (.func f) #[v] #[])) w := by
 simp [execOp, F.ev hx, Instr.makeFunc, Sem.run_bind, Sem.run_pure, Result.andThen]
set_option maxHeartbeats 2000000 in
theorem parcel_Reader_Num.calls {m : Nat} {c0 : Nat → Nat} {w0 : World} {j4 : Nat} {p2 : Option Addr} {a1 : Option Rdr} (hm0 : 0 < m) (B0 : CB m c0 w0) (h3 : RD j4 c0 w0 p2 a1) (bj4 : 0 < j4 ∧ j4 < m) (r : Int × (Option Rdr)) (H : parcel_Reader_Num.f a1 = some r) :
  Calls Tryz.prog 52 #[.pointer p2] w0 (fun e w_ => ∃ (c_ : Nat → Nat), e = .returned (.int .u64 r.1) ∧ Ev (fun x => (x = j4)) c0 w0 c_ w_ ∧ CB m c_ w_ ∧ RD j4 c_ w_ p2 r.2) := by
 have hr : r = takeF 0 a1 (fun r => rnum r.fault r.left 0 0) := by
  unfold parcel_Reader_Num.f at H
  unfold takeF
  cases a1 with
  | none => exact (Option.some.inj H).symm
  | some q =>
   simp only at H ⊢
   split at H
   ·rename_i hq; rw [if_pos hq]; exact (Option.some.inj H).symm
   ·rename_i hq; rw [if_neg hq]; exact (Option.some.inj H).symm
 subst hr
 refine enter (N := 7) (l := [.pointer p2]) Tryz.func52 rfl rfl (nb rfl) fun a F => ?_
 refine sr fun K1 hK1 => ?_
 refine G.qa F fun a F => ?_
 refine nil (hK1 _ _ ?_)
 refine sr fun K2 hK2 => ?_
 refine G.qm F fun a F => ?_
 refine G.qm F fun a F => ?_
 refine G.qv F (r_makeFunc1 F rfl) fun a F => ?_
 refine q_call F rfl rfl (by decide) (r_call (vs := [.pointer p2, .func (.func 82) #[.pointer p2] #[]]) F Tryz.func81 rfl rfl rfl) (take_calls_u64 (X := fun r => rnum r.fault r.left 0 0) B0 h3 bj4 Tryz.func82 rfl rfl (fun r e0 _ c1 w1 E1 B1 hR => num_calls (B1.mono (by omega)) hR bj4.1)) ?_
 rintro e w1 ⟨c1, E, B, ⟨v, rfl, hv⟩, hR⟩
 have hv : v = .int .u64 (takeF 0 a1 (fun r => rnum r.fault r.left 0 0)).1 := hv
 subst hv
 refine ⟨_, rfl, fun a F => ?_⟩
 refine G.qa F fun a F => ?_
 refine nil (hK2 _ _ ?_)
 refine wp_ret ?_
 refine out1 F rfl rfl ?_
 have EL := (E.mono (M' := fun x => x = j4 ∨ m ≤ x) (fun _ q => Or.inl q)).leave B0 (fun x => if x < m then x else 0) (fun x hx => if_pos hx)
 exact ⟨fun b => if c1 b < m then c1 b else 0, rfl, EL, fun b hb => by show (if c1 b < m then c1 b else 0) < m; split <;> omega, hR.rc (fun k hk => by show (if c1 k < m then c1 k else 0) = _; rw [hk, if_pos bj4.2]) (fun k hk => by show (if c1 k < m then c1 k else 0) = _; rw [hk]; split <;> omega)⟩
set_option maxHeartbeats 2000000 in
theorem parcel_Reader_Text.calls {m : Nat} {c0 : Nat → Nat} {w0 : World} {j4 : Nat} {p2 : Option Addr} {a1 : Option Rdr} {a6 : Int} (hm0 : 0 < m) (B0 : CB m c0 w0) (h3 : RD j4 c0 w0 p2 a1) (bj4 : 0 < j4 ∧ j4 < m) (jr : Nat) (bjr : jr < m) (r : (List Int) × (Option Rdr)) (H : parcel_Reader_Text.f a1 a6 = some r) :
  Calls Tryz.prog 53 #[.pointer p2, .int .i64 a6] w0 (fun e w_ => ∃ (c_ : Nat → Nat) (A0_ : Option Addr) (C0_ : Nat), e = .returned (.slice A0_ r.1.length C0_) ∧ Ev (fun x => (x = j4)) c0 w0 c_ w_ ∧ CB m c_ w_ ∧ SL true (Kint .u8) jr 0 c_ w_ A0_ C0_ r.1 ∧ RD j4 c_ w_ p2 r.2) := by
 obtain ⟨X, hX, hr⟩ : ∃ X : Rdr → (List Int × Int) ⊕ (List Int × List Int × Int), (∀ q, a1 = some q → q.fault = 0 → rtext q.left q.fault a6 = some (X q)) ∧ r = takeF [] a1 X := by
  unfold parcel_Reader_Text.f at H
  cases a1 with
  | none => exact ⟨fun _ => .inl ([], 0), fun q e => (by cases e), (Option.some.inj H).symm⟩
  | some q =>
   simp only at H
   split at H
   ·rename_i hq
    obtain ⟨x, e1, H⟩ := bind_some H
    refine ⟨fun _ => x, fun q' e _ => by cases e; exact e1, ?_⟩
    unfold takeF; simp only [if_pos hq]; exact (Option.some.inj H).symm
   ·rename_i hq
    refine ⟨fun _ => .inl ([], 0), fun q' e h => by cases e; exact absurd h hq, ?_⟩
    unfold takeF; simp only [if_neg hq]; exact (Option.some.inj H).symm
 subst hr
 refine enter (N := 8) (l := [.pointer p2, .int .i64 a6]) Tryz.func53 rfl rfl (nb rfl) fun a F => ?_
 refine sr fun K1 hK1 => ?_
 refine q_eff F rfl rfl (by decide) (e_box F rfl c0 m) ?_
 rintro v w1 a ⟨c1, q1, rfl, E1, hb1, M1⟩ F
 have hb1 : AT true m c1 w1 q1 [.pointer p2] := hb1
 refine q_eff F rfl rfl (by decide) (e_box F rfl c1 (m + 1)) ?_
 rintro v w2 a ⟨c2, q2, rfl, E2, hb2, M2⟩ F
 have hb2 : AT true (m + 1) c2 w2 q2 [.int .i64 a6] := hb2
 have no : ∀ x, ¬ No x := fun x q => q
 have B2 : CB (m + 2) c2 w2 := M2 _ (M1 _ (B0.mono (by omega)) (by omega)) (by omega)
 have E : Ev No c0 w0 c2 w2 := E1.trans E2 (fun _ q => q)
 have hR := h3.ev E (no _) (no _)
 have hb1 := hb1.ev E2 (no _)
 refine G.qa F fun a F => ?_
 refine nil (hK1 _ _ ?_)
 refine sr fun K2 hK2 => ?_
 refine G.qv F (r_load F rfl lag_rd (AT.cell0 hb1 rfl)) fun a F => ?_
 refine G.qv F (r_makeFunc (vs := [.pointer (some q1), .pointer (some q2)]) F rfl) fun a F => ?_
 refine q_call F rfl rfl (by decide) (r_call (vs := [.pointer p2, .func (.func 84) #[] #[.pointer (some q1), .pointer (some q2)]]) F Tryz.func83 rfl rfl rfl)
  (take_calls_bytes (X := X) (m := m + 2) B2 hR ⟨bj4.1, by omega⟩ Tryz.func84 rfl rfl (fun q e0 hf c3 w3 E3 B3 hR3 => text1_calls (jb := m) (jc := m + 1) (B3.mono (by omega)) hR3 bj4.1 (hb1.ev E3 (no _)) (hb2.ev E3 (no _)) (by omega) (by omega) (m + 2 + 3) (by omega) (by omega) (X q) (hX q e0 hf))) ?_
 rintro e w3 ⟨c3, E3, B3, ⟨v, rfl, A3, C3, rfl, hs3⟩, hR3⟩
 refine ⟨_, rfl, fun a F => ?_⟩
 refine G.qa F fun a F => ?_
 refine nil (hK2 _ _ ?_)
 refine wp_ret ?_
 refine out1 F rfl rfl ?_
 have ET : Ev (fun x => x = j4 ∨ m ≤ x) c0 w0 c3 w3 := (E.mono (M' := fun x => x = j4 ∨ m ≤ x) (fun _ q => q.elim)).trans (E3.mono (M' := fun x => x = j4 ∨ m ≤ x) (fun _ q => Or.inl q)) (fun _ q => q)
 have EL := ET.leave B0 (fun x => if x = m + 5 then jr else if x < m then x else 0) (fun x hx => by show (if x = m + 5 then jr else if x < m then x else 0) = x; rw [if_neg (by omega), if_pos hx])
 exact ⟨fun b => if c3 b = m + 5 then jr else if c3 b < m then c3 b else 0, A3, C3, rfl, EL, fun b hb => by show (if c3 b = m + 5 then jr else if c3 b < m then c3 b else 0) < m; (repeat' split) <;> omega,
  hs3.rc (fun k hk => by show (if c3 k = m + 5 then jr else if c3 k < m then c3 k else 0) = _; rw [hk, if_pos (by omega)]) (fun k hk => by show (if c3 k = m + 5 then jr else if c3 k < m then c3 k else 0) = _; rw [hk]; (repeat' split) <;> omega),
  hR3.rc (fun k hk => by show (if c3 k = m + 5 then jr else if c3 k < m then c3 k else 0) = _; rw [hk, if_neg (by omega), if_pos bj4.2]) (fun k hk => by show (if c3 k = m + 5 then jr else if c3 k < m then c3 k else 0) = _; rw [hk]; (repeat' split) <;> omega)⟩
set_option maxHeartbeats 2000000 in
theorem parcel_Read.calls {m : Nat} {c0 : Nat → Nat} {w0 : World} {j1 : Nat} {A2 : Option Addr} {C3 : Nat} {a1 : List Int} (hm0 : 0 < m) (B0 : CB m c0 w0) (h4 : SL false (Kint .u8) j1 0 c0 w0 A2 C3 a1) (bj1 : j1 < m) (jr : Nat) (bjr : jr < m) (r : Option Rdr) (H : parcel_Read.f a1 = some r) :
  Calls Tryz.prog 51 #[.slice A2 a1.length C3] w0 (fun e w_ => ∃ (c_ : Nat → Nat) (P0_ : Option Addr), e = .returned (.pointer P0_) ∧ Ev (fun x => False) c0 w0 c_ w_ ∧ CB m c_ w_ ∧ RD jr c_ w_ P0_ r) := by
 unfold parcel_Read.f at H
 obtain ⟨g, H⟩ := ifN H
 have H := Option.some.inj H
 subst H
 refine enter (N := 18) (l := [.slice A2 a1.length C3]) Tryz.func51 rfl rfl (nb rfl) fun a F => ?_
 refine sr fun K1 hK1 => ?_
 refine G.qa F fun a F => ?_
 refine nil (hK1 _ _ ?_)
 refine sr fun K2 hK2 => ?_
 refine G.qm F fun a F => ?_
 refine G.qv F (r_lensl F Tryz.underlying29 rfl) fun a F => ?_
 refine q_eff F rfl rfl (by decide) (e_make (k := (Kint .u8)) (x0 := 0) F et_29 rfl rfl (fun _ _ _ => rfl) (by decide) (by omega) c0 (m + 2) 0) ?_
 rintro v w1 a ⟨c1, A5, C5, rfl, E1, h5, B1⟩ F
 have B1 := B1 (m + 3) (B0.mono (by omega)) (by omega)
 have h4 := h4.ev E1 (fun q => q.elim) (fun q => q.elim)
 refine G.qa F fun a F => ?_
 refine nil (hK2 _ _ ?_)
 refine sr fun K3 hK3 => ?_
 refine G.qm F fun a F => ?_
 refine G.qm F fun a F => ?_
 refine q_eff F rfl rfl (by decide) (e_copy (k := (Kint .u8)) (xs := List.replicate ((a1.length : Nat) : Int).toNat (0 : Int)) (ys := a1) F et_29 rfl rfl h5 h4 (by omega)) ?_
 rintro v w2 a ⟨rfl, E2, h5, Z2⟩ F
 have e5 : a1.take (List.replicate ((a1.length : Nat) : Int).toNat (0 : Int)).length ++ (List.replicate ((a1.length : Nat) : Int).toNat (0 : Int)).drop a1.length = a1 := by simp
 have l5 : (List.replicate ((a1.length : Nat) : Int).toNat (0 : Int)).length = a1.length := by simp
 rw [e5] at h5
 rw [l5] at F
 refine nil (hK3 _ _ ?_)
 refine sr fun K4 hK4 => ?_
 refine G.qm F fun a F => ?_
 refine G.qm F fun a F => ?_
 refine G.qv F (r_lensl F Tryz.underlying29 rfl) fun a F => ?_
 refine G.qm F fun a F => ?_
 refine G.qv F (r_lensl F Tryz.underlying29 rfl) fun a F => ?_
 obtain ⟨A6, C6, hr6, h6⟩ := cut_nn (n := ((a1.length : Nat) : Int)) Tryz.underlying29 sz_5 h5 ⟨by omega, by omega⟩
 refine G.qv F (r_slice (vl := none) (vh := some (.int .i64 ((a1.length : Nat) : Int))) (vm := some (.int .i64 ((a1.length : Nat) : Int))) F rfl rfl rfl rfl hr6) fun a F => ?_
 have e6 : a1.take ((a1.length : Nat) : Int).toNat = a1 := by simp
 rw [e6] at F h6
 refine q_val F rfl rfl (by decide) (r_build (v := .agg #[.slice A6 a1.length C6, .slice none 0 0, .int .i64 0]) F [(0, .slice A6 a1.length C6)] (by exact ⟨rfl, rfl, trivial⟩) (fun w => by kernel_rfl)) fun a F => ?_
 refine q_eff F rfl rfl (by decide) (e_box F (v := .agg #[.slice A6 a1.length C6, .slice none 0 0, .int .i64 0]) rfl c1 (m + 1)) ?_
 rintro v w3 a ⟨c3, qa, rfl, E3, h7, B3⟩ F
 have B3 := B3 (m + 3) (B1.size Z2) (by omega)
 have h7 : AT true (m + 1) c3 w3 qa [.slice A6 a1.length C6, .slice none 0 0, .int .i64 0] := h7
 have h6 := h6.ev E3 (fun q => q.elim) (fun q => q.elim)
 refine G.qa F fun a F => ?_
 refine nil (hK4 _ _ ?_)
 refine wp_ret ?_
 refine out1 F rfl rfl ?_
 have ET : Ev (fun x => False ∨ m ≤ x) c0 w0 c3 w3 := ((E1.mono (M' := fun x => False ∨ m ≤ x) (fun _ q => q.elim)).trans (E2.mono (M' := fun x => False ∨ m ≤ x) (fun x q => Or.inr (by omega))) (fun _ q => q)).trans (E3.mono (M' := fun x => False ∨ m ≤ x) (fun _ q => q.elim)) (fun _ q => q)
 have EL := ET.leave B0 (fun x => if x = m + 1 then jr else if x < m then x else 0) (fun x hx => by show (if x = m + 1 then jr else if x < m then x else 0) = x; rw [if_neg (by omega), if_pos hx])
 refine ⟨fun b => if c3 b = m + 1 then jr else if c3 b < m then c3 b else 0, some qa, rfl, EL, fun b hb => by show (if c3 b = m + 1 then jr else if c3 b < m then c3 b else 0) < m; (repeat' split) <;> omega, ?_⟩
 exact RD.mk (t := ⟨a1, [], 0⟩) (h7.rc (fun k hk => by show (if c3 k = m + 1 then jr else if c3 k < m then c3 k else 0) = _; rw [hk, if_pos rfl])) (h6.r.rc (fun k hk => by show (if c3 k = m + 1 then jr else if c3 k < m then c3 k else 0) = _; rw [hk]; (repeat' split) <;> omega) (fun k hk => by show (if c3 k = m + 1 then jr else if c3 k < m then c3 k else 0) = _; rw [hk]; (repeat' split) <;> omega)) SL.nil
end Go.Proofs.YtcolmmjcdlmcoaaGreat.G
namespace Go.Proofs.YtcolmmjcdlmcoaaGreat.G
open Go Go.RowKit
set_option linter.unusedVariables false
set_option linter.unusedSimpArgs false
set_option maxRecDepth 100000
set_option maxHeartbeats 40000000
theorem parcel_Reader_Done.calls {m : Nat} {c0 : Nat → Nat} {w0 : World} {j4 : Nat} {p2 : Option Addr} {a1 : Option Rdr} (hm0 : 0 < m) (B0 : CB m c0 w0) (h3 : RD j4 c0 w0 p2 a1) (bj4 : j4 < m) (r : Int) (H : parcel_Reader_Done.f a1 = some r) : Calls Tryz.prog 54 #[.pointer p2] w0 (fun e w_ => ∃ (c_ : Nat → Nat), e = .returned (.int .i64 r) ∧ Ev (fun x => False) c0 w0 c_ w_ ∧ CB m c_ w_) := by
 unfold parcel_Reader_Done.f at H; have B := B0.mono (show m ≤ m + 1 by omega); have E : Ev (fun x => False ∨ m ≤ x) c0 w0 c0 w0 := Ev.refl; refine enter (N := 31) (l := [.pointer p2]) Tryz.func54 rfl rfl (nb rfl) fun a F => ?_; refine sr fun K5 hK5 => qa F fun a F => nil (hK5 _ _ ?_); refine sq fun K6 hK6 => ?_; refine wp_block ?_; refine sr fun K7 hK7 => qm F fun a F => ?_; refine qv F (r_peqlA F Tryz.underlying90 rfl rfl (RD.isNone h3)) fun a F => ?_; refine qa F fun a F => nil (hK7 _ _ ?_)
 by_cases hb8 : (Option.isNone a1) = true
 ·replace H := ip hb8 H; refine wct (fb F hb8) ?_; refine sr fun K9 hK9 => qa F fun a F => nil (hK9 _ _ ?_); refine wp_ret ?_; refine inbR ?_; refine thenR ?_; obtain rfl := si H; refine out1 F rfl rfl ?_; exact ⟨cf (ct m) c0, rfl, E.lv B0, cfb⟩
 replace H := im hb8 H; refine wcf (fb F (bfalse hb8)) ?_; refine sr fun K10 hK10 => qm F fun a F => ?_; obtain ⟨ob11, e12, H⟩ := bind_some H; have z13 := h3; rw [e12] at z13; obtain ⟨ad14, A16, C17, A19, C20, rfl, hat15, h18, h21⟩ := RD.some z13; refine qi F fun a F => ?_; refine qf F ff_122_2 fun a F => ?_; refine ql F ag_40 hat15 fun a F => ?_; refine qv F (r_neq F rfl rfl) fun a F => ?_; refine qa F fun a F => nil (hK10 _ _ ?_); replace F : Fr a 31 [(0, .pointer (some ad14)), (6, .bool (!decide (ob11.fault = 0)))] := F.sub ⟨rfl, rfl, trivial⟩
 by_cases hb23 : ob11.fault = 0
 ·replace H := ip hb23 H; refine wcf (fb F (congrArg not (dt hb23))) ?_; refine sq fun K24 hK24 => ?_; have J27 : ∀ (c28 : Nat → Nat) (w29 : World) (a : Act) (b26 : Bool), Fr a 31 [(16, .bool b26)] → Ev (fun x => False ∨ m ≤ x) c0 w0 c28 w29 → CB (m + 1) c28 w29 → parcel_Reader_Done.j1 b26 = some r → K24 a w29 := by
   intro c28 w29 a b26 F E B  H; unfold parcel_Reader_Done.j1 at H; refine hK24 _ _ ?_
   by_cases hb30 : b26 = true
   ·replace H := ip hb30 H; refine wct (fb F hb30) ?_; refine sr fun K31 hK31 => qa F fun a F => nil (hK31 _ _ ?_); refine wp_ret ?_; refine inbR ?_; refine thenR ?_; obtain rfl := si H; refine out1 F rfl rfl ?_; exact ⟨cf (ct m) c28, rfl, E.lv B0, cfb⟩
   replace H := im hb30 H; refine wcf (fb F (bfalse hb30)) (wp_skip (hK6 _ _ ?_)); refine sr fun K33 hK33 => qa F fun a F => nil (hK33 _ _ ?_); refine wp_ret ?_; obtain rfl := si H; refine out1 F rfl rfl ?_; exact ⟨cf (ct m) c28, rfl, E.lv B0, cfb⟩
  refine reg ?_; refine qm F fun a F => ?_; refine qi F fun a F => ?_; refine qf F ff_122_0 fun a F => ?_; refine ql F ag_29 hat15 fun a F => ?_; refine qv F (r_lensl F Tryz.underlying29 rfl) fun a F => ?_; refine qv F (r_gtr F rfl rfl) fun a F => ?_; refine qm F fun a F => ?_
  by_cases hb25 : 0 < (ob11.left.length : Int)
  ·replace H := ip hb25 H; refine qn F (dt hb25) fun a F => qn F (dt hb25) fun a F => qn F (dt hb25) fun a F => qn F (dt hb25) fun a F => qn F (dt hb25) fun a F => qn F (dt hb25) fun a F => ?_; refine qv F (r_pick_t F rfl (dt hb25) rfl) fun a F => ?_; refine qa F fun a F => nil ?_; exact J27 c0 w0 a true (F.sub ⟨rfl, trivial⟩) E B  H
  replace H := im hb25 H; refine qy F (dz hb25) ?_; refine qm F fun a F => ?_; refine qy F (dz hb25) ?_; refine qi F fun a F => ?_; refine qy F (dz hb25) ?_; refine qf F ff_122_1 fun a F => ?_; refine qy F (dz hb25) ?_; refine ql F ag_120 hat15 fun a F => ?_; refine qy F (dz hb25) ?_; refine qv F (r_lensl F Tryz.underlying120 rfl) fun a F => ?_; refine qy F (dz hb25) ?_; refine qv F (r_gtr F rfl rfl) fun a F => ?_; refine qv F (r_pick_f F rfl (dz hb25) rfl) fun a F => ?_; refine qa F fun a F => nil ?_; exact J27 c0 w0 a (decide (0 < (ob11.outer.length : Int))) (F.sub ⟨rfl, trivial⟩) E B  H
 replace H := im hb23 H; refine wct (fb F (congrArg not (dz hb23))) ?_; refine sr fun K32 hK32 => qm F fun a F => ?_; refine qi F fun a F => ?_; refine qf F ff_122_2 fun a F => ?_; refine ql F ag_40 hat15 fun a F => ?_; refine qa F fun a F => nil (hK32 _ _ ?_); refine wp_ret ?_; refine inbR ?_; refine thenR ?_; obtain rfl := si H; refine out1 F rfl rfl ?_; exact ⟨cf (ct m) c0, rfl, E.lv B0, cfb⟩
theorem tree_New.calls {m : Nat} {c0 : Nat → Nat} {w0 : World} (hm0 : 0 < m) (B0 : CB m c0 w0) (r : Tr) (H : tree_New.f = some r) : Calls Tryz.prog 13 #[] w0 (fun e w_ => ∃ (c_ : Nat → Nat) (P0_ : Option Addr), e = .returned (.pointer P0_) ∧ Ev (fun x => False) c0 w0 c_ w_ ∧ CB m c_ w_ ∧ TR 0 c_ w_ P0_ r) := by
 unfold tree_New.f at H; have B := B0.mono (show m ≤ m + 1 by omega); have E : Ev (fun x => False ∨ m ≤ x) c0 w0 c0 w0 := Ev.refl; refine enter (N := 1) (l := []) Tryz.func13 rfl rfl (nb rfl) fun a F => ?_; refine sr fun K1 hK1 => qa F fun a F => nil (hK1 _ _ ?_); refine sr fun K2 hK2 => qa F fun a F => nil (hK2 _ _ ?_); refine wp_ret ?_; obtain rfl := si H; refine out1 F rfl rfl ?_; exact ⟨cf (ct m) c0, none, rfl, E.lv B0, cfb, TR.nil⟩
theorem table_New.calls {m : Nat} {c0 : Nat → Nat} {w0 : World} (hm0 : 0 < m) (B0 : CB m c0 w0) (jr20 : Nat) (bjr20 : jr20 < m) (r : (Option Tab)) (H : table_New.f = some r) : Calls Tryz.prog 5 #[] w0 (fun e w_ => ∃ (c_ : Nat → Nat) (P0_ : Option Addr), e = .returned (.pointer P0_) ∧ Ev (fun x => False) c0 w0 c_ w_ ∧ CB m c_ w_ ∧ TB jr20 c_ w_ P0_ r) := by
 unfold table_New.f at H; have B := B0.mono (show m ≤ m + 2 by omega); have E : Ev (fun x => False ∨ m ≤ x) c0 w0 c0 w0 := Ev.refl; refine enter (N := 4) (l := []) Tryz.func5 rfl rfl (nb rfl) fun a F => ?_; refine sr fun K1 hK1 => qa F fun a F => nil (hK1 _ _ ?_); refine sr fun K2 hK2 => ?_; obtain ⟨t3, q4, H⟩ := bind_some H; refine qc F Tryz.func13 (tree_New.calls (m := m + 2) (pl hm0) B _ q4) ?_; rintro e w6 ⟨c5, p9, rfl, E7, B, h10⟩; refine rt fun a F => ?_; replace E := E.n E7; refine qv F (r_build (v := .agg #[.pointer p9, .int .i64 0, .int .i64 0]) F [(0, .pointer p9)] (by exact ⟨rfl, rfl, trivial⟩) (fun w => by kernel_rfl)) fun a F => ?_; refine q_eff F rfl rfl (by decide) (e_box F (v := .agg #[.pointer p9, .int .i64 0, .int .i64 0]) rfl c5 (m + 1)) ?_; rintro v w13 a ⟨c12, qa14, rfl, E15, h16, B17⟩ F; replace B := B17 _ B lm; replace h10 := h10.ev E15; replace E := E.n E15; replace h16 : AT _ _ _ _ _ [.pointer p9, .int .i64 0, .int .i64 0] := h16; refine qa F fun a F => nil (hK2 _ _ ?_); refine wp_ret ?_; have h19 : TB (m + 1) c12 w13 (some qa14) (some (Tab.mk t3 0 0)) := TB.mk h16 h10; obtain rfl := si H; refine out1 F rfl rfl ?_; exact ⟨cf (fun x_ => if x_ = m + 1 then jr20 else if x_ < m then x_ else 0) c12, (some qa14), rfl, E.lv B0, cfb, TB.rc h19 cfk cfk⟩
theorem table_Read.calls (k : Nat) {m : Nat} {c0 : Nat → Nat} {w0 : World} {j5 : Nat} {A2 : Option Addr} {C3 : Nat} {a1 : List Int} (hm0 : 0 < m) (B0 : CB m c0 w0) (h4 : SL false (Kint .u8) j5 0 c0 w0 A2 C3 a1) (bj5 : j5 < m) (jr533 : Nat) (bjr533 : jr533 < m) (r : (Option Tab) × Int) (H : table_Read.f k a1 = some r) : Calls Tryz.prog 16 #[.slice A2 a1.length C3] w0 (fun e w_ => ∃ (c_ : Nat → Nat) (P0_ : Option Addr), e = .returned (.tuple #[.pointer P0_, .int .i64 r.2]) ∧ Ev (fun x => False) c0 w0 c_ w_ ∧ CB m c_ w_ ∧ TB jr533 c_ w_ P0_ r.1) := by
 unfold table_Read.f at H; have B := B0.mono (show m ≤ m + 5 by omega); have E : Ev (fun x => False ∨ m ≤ x) c0 w0 c0 w0 := Ev.refl; refine enter (N := 81) (l := [.slice A2 a1.length C3]) Tryz.func16 rfl rfl (nb rfl) fun a F => ?_; refine sr fun K6 hK6 => qa F fun a F => qa F fun a F => nil (hK6 _ _ ?_); refine sr fun K7 hK7 => qm F fun a F => ?_; obtain ⟨t8, q9, H⟩ := bind_some H; refine qc F Tryz.func51 (parcel_Read.calls (m := m + 5) (pl hm0) B h4 (by omega) (m + 1) lm _ q9) ?_; rintro e w11 ⟨c10, p14, rfl, E12, B, h15⟩; refine rt fun a F => ?_; replace E := E.n E12; refine qa F fun a F => nil (hK7 _ _ ?_); refine sr fun K17 hK17 => qm F fun a F => ?_; obtain ⟨t18, q19, H⟩ := bind_some H; refine qc F Tryz.func52 (parcel_Reader_Num.calls (m := m + 5) (pl hm0) B h15 (by omega) _ q19) ?_; rintro e w21 ⟨c20, rfl, E22, B, h24⟩; refine rt fun a F => ?_; replace E := E.trans E22 lc1; refine qm F fun a F => ?_; obtain ⟨t26, q27, H⟩ := bind_some H; refine qc F Tryz.func52 (parcel_Reader_Num.calls (m := m + 5) (pl hm0) B h24 (by omega) _ q27) ?_; rintro e w29 ⟨c28, rfl, E30, B, h32⟩
 as_aux_lemma =>
 refine rt fun a F => ?_; replace E := E.trans E30 lc1; refine qa F fun a F => qa F fun a F => nil (hK17 _ _ ?_); replace F : Fr a 81 [(4, .pointer p14), (5, .int .u64 t18.1), (6, .int .u64 t26.1)] := F.sub ⟨rfl, rfl, rfl, trivial⟩; refine sr fun K34 hK34 => ?_; obtain ⟨t35, q36, H⟩ := bind_some H; refine qc F Tryz.func5 (table_New.calls (m := m + 5) (pl hm0) B (m + 2) lm _ q36) ?_; rintro e w38 ⟨c37, p41, rfl, E39, B, h42⟩; refine rt fun a F => ?_; replace h32 := h32.ev E39; replace E := E.n E39; refine qa F fun a F => nil (hK34 _ _ ?_); refine sr fun K44 hK44 => qm F fun a F => qm F fun a F => ?_; refine qv F (r_min F rfl rfl) fun a F => ?_; refine qv F (r_convi F Tryz.underlying3 rfl rfl) fun a F => ?_; obtain ⟨ob45, e46, H⟩ := bind_some H; have z47 := h42; rw [e46] at z47; obtain ⟨ad48, p50, rfl, hat49, h51⟩ := TB.some z47; refine qi F fun a F => ?_; refine qf F ff_50_1 fun a F => ?_; refine q_eff0 F rfl rfl (e_store F rfl rfl sz_3 hat49 (nb rfl) rfl) ?_; rintro w53 a ⟨E54, hat49, Z55⟩ F
 as_aux_lemma =>
 replace B := B.size Z55; replace h32 := h32.ev E54; replace h51 := h51.ev E54; replace E := E.trans E54 lc1; replace hat49 : AT true (m + 2) c37 w53 ad48 [.pointer p50, .int .i64 (IntKind.i64.wrap (min t18.1 1099511627776)), .int .i64 ob45.size] := hat49; have h56 : TB (m + 2) c37 w53 (some ad48) (some (Tab.mk ob45.rows (IntKind.i64.wrap (min t18.1 1099511627776)) ob45.size)) := TB.mk hat49 h51; refine nil (hK44 _ _ ?_); refine sr fun K57 hK57 => qm F fun a F => ?_; refine qv F (r_leq F rfl rfl) fun a F => ?_; refine qa F fun a F => nil (hK57 _ _ ?_); replace F : Fr a 81 [(4, .pointer p14), (5, .int .u64 t18.1), (6, .int .u64 t26.1), (7, .pointer (some ad48)), (8, .bool (decide (t18.1 ≤ 1099511627776)))] := F.sub ⟨rfl, rfl, rfl, rfl, rfl, trivial⟩; refine sr fun K58 hK58 => ?_; refine q_eff F rfl rfl (by decide) (e_makeMap (q := .u64) (K := 82) (emb := Value.bool) F c37 (m + 3) (fun w => by kernel_rfl)) ?_; rintro v w60 a ⟨c59, qa61, rfl, E62, h63, B64⟩ F; replace B := B64 _ B lm; replace h32 := h32.ev E62; replace h56 := h56.ev E62; replace E := E.n E62; replace h63 : MU92 (m + 3) c59 w60 (some qa61) (MpV.mk (fun _ => none) 0) := h63; refine qa F fun a F => nil (hK58 _ _ ?_); refine sr fun K65 hK65 => qa F fun a F => nil (hK65 _ _ ?_); refine sq fun K66 hK66 => ?_
 as_aux_lemma =>
 refine wp_block ?_; obtain ⟨x304, HL, HR303⟩ := bind_some H; have J513 : ∀ (c514 : Nat → Nat) (w515 : World) (a : Act) (o509 : Option Rdr) (o511 : Option Tab) (b512 : Bool), Fr a 81 [(4, .pointer p14), (7, .pointer (some ad48)), (8, .bool b512)] → Ev (fun x => False ∨ m ≤ x) c0 w0 c514 w515 → CB (m + 5) c514 w515 → RD (m + 1) c514 w515 p14 o509 → TB (m + 2) c514 w515 (some ad48) o511 → table_Read.j8 o509 o511 b512 = some r → K66 a w515 := by
  intro c514 w515 a o509 o511 b512 F E B h508 h510 H; unfold table_Read.j8 at H; refine hK66 _ _ ?_; refine sq fun K516 hK516 => ?_; refine sq fun K517 hK517 => ?_; have J527 : ∀ (c528 : Nat → Nat) (w529 : World) (a : Act) (b526 : Bool), Fr a 81 [(7, .pointer (some ad48)), (79, .bool b526)] → Ev (fun x => False ∨ m ≤ x) c0 w0 c528 w529 → CB (m + 5) c528 w529 → TB (m + 2) c528 w529 (some ad48) o511 → table_Read.j9 o511 b526 = some r → K517 a w529 := by
   intro c528 w529 a b526 F E B h510 H; unfold table_Read.j9 at H; refine hK517 _ _ ?_
   by_cases hb530 : b526 = true
   ·replace H := ip hb530 H; refine wct (fb F hb530) ?_; refine sr fun K531 hK531 => qa F fun a F => qa F fun a F => nil (hK531 _ _ ?_); refine wp_ret ?_; refine thenR ?_; obtain rfl := si H; refine out2 F rfl rfl rfl ?_; exact ⟨cf (fun x_ => if x_ = m + 2 then jr533 else if x_ < m then x_ else 0) c528, none, rfl, E.lv B0, cfb, TB.nil⟩
   replace H := im hb530 H; refine wcf (fb F (bfalse hb530)) (wp_skip (hK516 _ _ ?_))
   as_aux_lemma =>
   refine sr fun K532 hK532 => qm F fun a F => qa F fun a F => qa F fun a F => nil (hK532 _ _ ?_); refine wp_ret ?_; obtain rfl := si H; refine out2 F rfl rfl rfl ?_; exact ⟨cf (fun x_ => if x_ = m + 2 then jr533 else if x_ < m then x_ else 0) c528, (some ad48), rfl, E.lv B0, cfb, TB.rc h510 cfk cfk⟩
  refine reg ?_; refine qm F fun a F => ?_; refine qv F (r_not F rfl) fun a F => ?_; refine qm F fun a F => ?_
  by_cases hb518 : b512 = true
  ·replace H := ip hb518 H; refine qy F (congrArg not hb518) ?_; refine qm F fun a F => ?_; obtain ⟨t519, q520, H⟩ := bind_some H; refine qy F (congrArg not hb518) ?_; refine qc F Tryz.func54 (parcel_Reader_Done.calls (m := m + 5) (pl hm0) B h508 lm _ q520) ?_; rintro e w522 ⟨c521, rfl, E523, B⟩; refine rt fun a F => ?_; replace h510 := h510.ev E523; replace E := E.n E523; refine qy F (congrArg not hb518) ?_; refine qv F (r_neq F rfl rfl) fun a F => ?_; refine qv F (r_pick_f F rfl (congrArg not hb518) rfl) fun a F => ?_
   as_aux_lemma =>
   refine nil ?_; exact J527 c521 w522 a (!decide (t519 = 0)) (F.sub ⟨rfl, rfl, trivial⟩) E B h510 H
  replace H := im hb518 H; refine qn F (congrArg not (bfalse hb518)) fun a F => qn F (congrArg not (bfalse hb518)) fun a F => qn F (congrArg not (bfalse hb518)) fun a F => ?_; refine qv F (r_pick_t F rfl (congrArg not (bfalse hb518)) rfl) fun a F => ?_; refine nil ?_; exact J527 c514 w515 a true (F.sub ⟨rfl, rfl, trivial⟩) E B h510 H
 refine loop_fuel (I := fun n a w => ∃ (o285 : Option Rdr) (i286 : Int) (o289 : Option Tab) (b290 : Bool) (o293 : MpV Bool) (s294 : ByteArray) (c : Nat → Nat), Fr a 81 [(4, .pointer p14), (5, .int .u64 t18.1), (6, .int .u64 i286), (7, .pointer (some ad48)), (8, .bool b290), (9, .map (Option.map Addr.block (some qa61))), (10, .string s294)] ∧ Ev (fun x => False ∨ m ≤ x) c0 w0 c w ∧ CB (m + 5) c w ∧ RD (m + 1) c w p14 o285 ∧ TB (m + 2) c w (some ad48) o289 ∧ MU92 (m + 3) c w (some qa61) o293 ∧ loop (fun (s_ : (Option Rdr) × Int × (Option Tab) × Bool × (MpV Bool) × ByteArray) => table_Read.b7 k t18 s_.1 s_.2.1 s_.2.2.1 s_.2.2.2.1 s_.2.2.2.2.1 s_.2.2.2.2.2) n (o285, i286, o289, b290, o293, s294) = some x304) (k := k) ⟨t26.2, t26.1, (some (Tab.mk ob45.rows (IntKind.i64.wrap (min t18.1 1099511627776)) ob45.size)), (decide (t18.1 ≤ 1099511627776)), (MpV.mk (fun _ => none) 0), ({ data := #[] }), c59, F.sub ⟨rfl, rfl, rfl, rfl, rfl, rfl, rfl, trivial⟩, E, B, h32, h56, h63, HL⟩ ?_; clear HL H E F B; intro n301 X297 hX297 a w296 ⟨o285, i286, o289, b290, o293, s294, c295, F, E, B, h284, h288, h292, HL⟩; obtain ⟨n302, ctl300, rfl, HB, HN298, HD299⟩ := loop_some HL; have H : table_Read.b7 k t18 o285 i286 o289 b290 o293 s294 = some ctl300 := HB; clear HB HL; unfold table_Read.b7 at H; refine sq fun K305 hK305 => ?_; refine sq fun K306 hK306 => ?_; have J309 : ∀ (c310 : Nat → Nat) (w311 : World) (a : Act) (b308 : Bool), Fr a 81 [(4, .pointer p14), (5, .int .u64 t18.1), (6, .int .u64 i286), (7, .pointer (some ad48)), (8, .bool b290), (9, .map (Option.map Addr.block (some qa61))), (10, .string s294), (34, .bool b308)] → Ev (fun x => False ∨ m ≤ x) c0 w0 c310 w311 → CB (m + 5) c310 w311 → RD (m + 1) c310 w311 p14 o285 → TB (m + 2) c310 w311 (some ad48) o289 → MU92 (m + 3) c310 w311 (some qa61) o293 → table_Read.j4 k t18 o285 i286 o289 b290 o293 s294 b308 = some ctl300 → K306 a w311 := by
  intro c310 w311 a b308 F E B h284 h288 h292 H; unfold table_Read.j4 at H; refine hK306 _ _ ?_
  by_cases hb312 : b308 = true
  ·replace H := ip hb312 H; refine wct (fb F hb312) (wp_skip (hK305 _ _ ?_))
   as_aux_lemma =>
   refine sq fun K313 hK313 => ?_; refine wp_block ?_; refine sq fun K314 hK314 => ?_; have J462 : ∀ (c463 : Nat → Nat) (w464 : World) (a : Act) (t92 : (List Int) × (Option Rdr)) (qa127 : Addr) (t114 : (List Int) × (Option Rdr)) (A459 : Option Addr) (C460 : Nat), Fr a 81 [(4, .pointer p14), (5, .int .u64 t18.1), (6, .int .u64 i286), (7, .pointer (some ad48)), (9, .map (Option.map Addr.block (some qa61))), (10, .string s294), (11, .string (bs t92.1)), (12, .pointer (some qa127))] → Ev (fun x => False ∨ m ≤ x) c0 w0 c463 w464 → CB (m + 5) c463 w464 → AT true (m + 4) c463 w464 qa127 [.slice A459 t114.1.length C460, .int .i64 0] → TB (m + 2) c463 w464 (some ad48) o289 → MU92 (m + 3) c463 w464 (some qa61) o293 → RD (m + 1) c463 w464 p14 t114.2 → SL true (Kint .u8) 0 0 c463 w464 A459 C460 t114.1 → table_Read.j5 k t18 t92 t114 i286 o289 o293 s294 = some ctl300 → K314 a w464 := by
    intro c463 w464 a t92 qa127 t114 A459 C460 F E B h129 h288 h292 h458 h461 H; unfold table_Read.j5 at H; refine hK314 _ _ ?_; refine sr fun K465 hK465 => qm F fun a F => ?_; obtain ⟨t248, q249, H⟩ := bind_some H; refine qc F Tryz.func52 (parcel_Reader_Num.calls (m := m + 5) (pl hm0) B h458 (by omega) _ q249) ?_; rintro e w467 ⟨c466, rfl, E468, B, h470⟩; refine rt fun a F => ?_; replace h129 := h129.ev E468; replace h288 := h288.ev E468; replace h292 := h292.ev E468; replace h461 := h461.ev E468; replace E := E.trans E468 lc1; refine qa F fun a F => nil (hK465 _ _ ?_); refine sr fun K472 hK472 => qm F fun a F => ?_; refine qv F (r_convi F Tryz.underlying3 rfl rfl) fun a F => ?_; refine qf F ff_48_1 fun a F => ?_; refine q_eff0 F rfl rfl (e_store F rfl rfl sz_3 h129 (nb rfl) rfl) ?_; rintro w473 a ⟨E474, h129, Z475⟩ F
    as_aux_lemma =>
    replace B := B.size Z475; replace h288 := h288.ev E474; replace h292 := h292.ev E474; replace h461 := h461.ev E474; replace h470 := h470.ev E474; replace E := E.trans E474 lc1; replace h129 : AT _ _ _ _ _ [.slice A459 t114.1.length C460, .int .i64 (IntKind.i64.wrap t248.1)] := h129; refine nil (hK472 _ _ ?_); refine sq fun K476 hK476 => ?_; have J482 : ∀ (c483 : Nat → Nat) (w484 : World) (a : Act) (b481 : Bool), Fr a 81 [(4, .pointer p14), (5, .int .u64 t18.1), (6, .int .u64 i286), (7, .pointer (some ad48)), (8, .bool b481), (9, .map (Option.map Addr.block (some qa61))), (11, .string (bs t92.1)), (12, .pointer (some qa127)), (13, .int .u64 t248.1)] → Ev (fun x => False ∨ m ≤ x) c0 w0 c483 w484 → CB (m + 5) c483 w484 → AT true (m + 4) c483 w484 qa127 [.slice A459 t114.1.length C460, .int .i64 (IntKind.i64.wrap t248.1)] → RD (m + 1) c483 w484 p14 t248.2 → TB (m + 2) c483 w484 (some ad48) o289 → MU92 (m + 3) c483 w484 (some qa61) o293 → SL true (Kint .u8) 0 0 c483 w484 A459 C460 t114.1 → table_Read.j6 k t92 t114 t248 i286 o289 o293 b481 = some ctl300 → K476 a w484 := by
     intro c483 w484 a b481 F E B h129 h470 h288 h292 h461 H; unfold table_Read.j6 at H; refine hK476 _ _ ?_; refine sr fun K485 hK485 => qm F fun a F => qm F fun a F => qm F fun a F => ?_; replace H := ifN H; obtain ⟨g270, H⟩ := H; refine q_eff0 F rfl rfl (e_mapUpdate (z := true) F Tryz.underlying82 Tryz.underlying92 rfl rfl rfl h292 g270.1 (n_ok g270.2)) ?_; rintro w486 a ⟨E487, h488, Z489⟩ F; replace B := B.size Z489; replace h129 := h129.ev E487; replace h470 := h470.ev E487; replace h288 := h288.ev E487
     as_aux_lemma =>
     replace h461 := h461.ev E487; replace E := E.trans E487 lc1; replace h488 : MU92 (m + 3) c483 w486 (some qa61) (MpV.mk (fun i_ => if i_ = t248.1 then some true else o293.f i_) (o293.n + 1)) := h488; refine qa F fun a F => nil (hK485 _ _ ?_); refine reg ?_; refine qm F fun a F => qm F fun a F => ?_; refine qv F (r_loads (cs := [.slice A459 t114.1.length C460, .int .i64 (IntKind.i64.wrap t248.1)]) F rfl ag_48 sz_48 h129) fun a F => ?_; obtain ⟨t275, q276, H⟩ := bind_some H; refine qc F Tryz.func45 (table_Table_set.calls k (m := m + 5) (a6 := table_cell.mk t114.1 (IntKind.i64.wrap t248.1)) (pl hm0) B h288 h461.r ⟨(pl hm0), lm⟩ _ q276) ?_; rintro e w491 ⟨c490, rfl, E492, B, h494⟩; refine rt fun a F => ?_; replace h470 := h470.ev E492; replace h488 := h488.ev E492; replace E := E.trans E492 lc1; refine nil (hK313 _ _ ?_); replace F : Fr a 81 [(4, .pointer p14), (5, .int .u64 t18.1), (6, .int .u64 i286), (7, .pointer (some ad48)), (8, .bool b481), (9, .map (Option.map Addr.block (some qa61))), (10, .string (bs t92.1))] := F.sub ⟨rfl, rfl, rfl, rfl, rfl, rfl, rfl, trivial⟩; refine reg ?_; refine qm F fun a F => ?_; refine qv F (r_sub F rfl rfl) fun a F => ?_; refine qa F fun a F => nil ?_; replace H := HN298 _ (si H).symm; exact hX297 _ _ _ (Nat.lt_succ_self _) ⟨t248.2, (IntKind.u64.wrap (i286 - 1)), t275, b481, (MpV.mk (fun i_ => if i_ = t248.1 then some true else o293.f i_) (o293.n + 1)), (bs t92.1), c490, F.sub ⟨rfl, rfl, rfl, rfl, rfl, rfl, rfl, trivial⟩, E, B, h470, h494, h488, H⟩
    as_aux_lemma =>
    refine reg ?_; refine qm F fun a F => qm F fun a F => ?_; refine qv F (r_sgtr F rfl rfl) fun a F => ?_; refine qm F fun a F => ?_
    by_cases hb477 : (Op.bytesLess (bs t92.1).toList s294.toList || ((bs t92.1).toList == s294.toList)) = true
    ·replace H := ip hb477 H; refine qn F (congrArg not hb477) fun a F => qn F (congrArg not hb477) fun a F => ?_; refine qv F (r_pick_f F rfl (congrArg not hb477) rfl) fun a F => ?_; refine qm F fun a F => qn F rfl fun a F => qn F rfl fun a F => qn F rfl fun a F => ?_; refine qp F fun a F => ?_; refine qm F fun a F => qn F rfl fun a F => qn F rfl fun a F => qn F rfl fun a F => qn F rfl fun a F => ?_; refine qp F fun a F => ?_; refine qa F fun a F => nil ?_; exact J482 c466 w473 a false (F.sub ⟨rfl, rfl, rfl, rfl, rfl, rfl, rfl, rfl, rfl, trivial⟩) E B h129 h470 h288 h292 h461 H
    replace H := im hb477 H; refine qy F (congrArg not (bfalse hb477)) ?_; refine qm F fun a F => ?_; refine qy F (congrArg not (bfalse hb477)) ?_; refine qv F (r_gtr F rfl rfl) fun a F => ?_; refine qv F (r_pick_t F rfl (congrArg not (bfalse hb477)) rfl) fun a F => ?_; refine qm F fun a F => ?_
    by_cases hb478 : 0 < t248.1
    ·replace H := ip hb478 H; refine qy F (dt hb478) ?_
     as_aux_lemma =>
     refine qm F fun a F => ?_; refine qy F (dt hb478) ?_; refine qm F fun a F => ?_; refine qy F (dt hb478) ?_; refine qv F (r_leq F rfl rfl) fun a F => ?_; refine qv F (r_pick_t F rfl (dt hb478) rfl) fun a F => ?_; refine qm F fun a F => ?_
     by_cases hb479 : t248.1 ≤ t18.1
     ·replace H := ip hb479 H; refine qy F (dt hb479) ?_; refine qm F fun a F => ?_; refine qy F (dt hb479) ?_; refine qm F fun a F => ?_; replace H := ifN H; obtain ⟨g480, H⟩ := H; refine qy F (dt hb479) ?_; refine qv F (r_lookupm (emb := Value.bool) (z := false) F Tryz.underlying82 Tryz.underlying92 (fun w => by kernel_rfl) rfl rfl h292 g480) fun a F => ?_; refine qy F (dt hb479) ?_; refine qv F (r_not F rfl) fun a F => ?_; refine qv F (r_pick_t F rfl (dt hb479) rfl) fun a F => ?_; refine qa F fun a F => nil ?_; exact J482 c466 w473 a (!((o293.f t248.1).getD false)) (F.sub ⟨rfl, rfl, rfl, rfl, rfl, rfl, rfl, rfl, rfl, trivial⟩) E B h129 h470 h288 h292 h461 H
     replace H := im hb479 H
     as_aux_lemma =>
     refine qn F (dz hb479) fun a F => qn F (dz hb479) fun a F => qn F (dz hb479) fun a F => qn F (dz hb479) fun a F => ?_; refine qv F (r_pick_f F rfl (dz hb479) rfl) fun a F => ?_; refine qa F fun a F => nil ?_; exact J482 c466 w473 a false (F.sub ⟨rfl, rfl, rfl, rfl, rfl, rfl, rfl, rfl, rfl, trivial⟩) E B h129 h470 h288 h292 h461 H
    replace H := im hb478 H; refine qn F (dz hb478) fun a F => qn F (dz hb478) fun a F => qn F (dz hb478) fun a F => ?_; refine qv F (r_pick_f F rfl (dz hb478) rfl) fun a F => ?_; refine qm F fun a F => qn F rfl fun a F => qn F rfl fun a F => qn F rfl fun a F => qn F rfl fun a F => ?_; refine qp F fun a F => ?_; refine qa F fun a F => nil ?_; exact J482 c466 w473 a false (F.sub ⟨rfl, rfl, rfl, rfl, rfl, rfl, rfl, rfl, rfl, trivial⟩) E B h129 h470 h288 h292 h461 H
   refine regD (SB (fun x => x = m + 1) c310 w311) 8 (.q 0 (.q 3 (.f 1 (.g 2 (.f 4 (.q 5 (.e 6 (.q 7 (.e 8 .nil)))) 6 (.e 4 (.q 5 (.q 7 (.e 8 .nil))))) 4 (.q 5 (.f 2 (.e 6 (.q 7 (.e 8 .nil))) 6 (.e 2 (.q 7 (.e 8 .nil))))) 6 (.f 2 (.e 4 (.q 5 (.q 7 (.e 8 .nil)))) 4 (.q 5 (.e 2 (.q 7 (.e 8 .nil)))))) 6 (.e 1 (.f 2 (.e 4 (.q 5 (.q 7 (.e 8 .nil)))) 4 (.q 5 (.e 2 (.q 7 (.e 8 .nil))))))))) Tryz_hm (by decide +kernel) ?_; intro w326 w1_ w2_ w3_ w4_; have E327 : Ev No c310 w311 c310 w326 := Ev.same w1_ w2_ w3_ w4_; replace B := B.same w1_; have ER : Ev (fun x => x = m + 1) c310 w311 c310 w326 := Ev.same w1_ w2_ w3_ w4_; replace h284 := h284.ev E327; replace h288 := h288.ev E327; replace h292 := h292.ev E327; replace E := E.n E327; refine dm F ER.sb fun a F => ?_; refine dm F ER.sb fun a F => ?_
   as_aux_lemma =>
   refine d_f ?_ ?_
   ·obtain ⟨t92, q93, H⟩ := bind_some H; refine oc F Tryz.func53 (parcel_Reader_Text.calls (m := m + 5) (pl hm0) B h284 (by omega) 0 (pl hm0) _ q93) ?_; rintro e w329 ⟨c328, A332, C333, rfl, E330, B, h334, h335⟩; refine rt fun a F => ?_; replace ER := ER.trans E330 (fun x q => by replace q : x = m + 1 := q; show x = m + 1; omega); replace h288 := h288.ev E330; replace h292 := h292.ev E330; replace E := E.trans E330 lc1; refine ⟨fun _ => ER.sb, ?_⟩; refine d_g ?_ ?_ ?_
    ·refine o_val F rfl rfl rfl (by decide) (r_bytesStr F Tryz.underlying29 Tryz.underlying5 Tryz.underlying9 rfl h334) fun a F => ?_; refine ⟨fun _ => ER.sb, ?_⟩; refine d_f ?_ ?_
     ·obtain ⟨t114, q115, H⟩ := bind_some H; refine oc F Tryz.func53 (parcel_Reader_Text.calls (m := m + 5) (pl hm0) B h335 (by omega) 0 (pl hm0) _ q115) ?_; rintro e w338 ⟨c337, A341, C342, rfl, E339, B, h343, h344⟩; refine rt fun a F => ?_; replace ER := ER.trans E339 (fun x q => by replace q : x = m + 1 := q; show x = m + 1; omega); replace h288 := h288.ev E339; replace h292 := h292.ev E339; replace E := E.trans E339 lc1; refine ⟨fun _ => ER.sb, ?_⟩; refine d_q F rfl rfl rfl (by decide) (fun wq hS => r_build (v := .agg #[.slice A341 t114.1.length C342, .int .i64 0]) F [(0, .slice A341 t114.1.length C342)] (by exact ⟨rfl, rfl, trivial⟩) (fun w => by kernel_rfl)) ER.sb fun a F => ?_; refine d_e ?_
      as_aux_lemma =>
      refine o_eff F rfl rfl rfl (by decide) (e_alloc F zv_48 c337 (m + 4)) ?_; rintro v w347 a ⟨c346, qa127, rfl, E348, h129, B349⟩ F; replace B := B349 _ B lm; replace ER := ER.trans E348 nx; replace h288 := h288.ev E348; replace h292 := h292.ev E348; replace h343 := h343.ev E348; replace h344 := h344.ev E348; replace E := E.n E348; replace h129 : AT _ _ _ _ _ [.slice none 0 0, .int .i64 0] := h129; refine ⟨fun _ => ER.sb, ?_⟩; refine da F ER.sb fun a F => ?_; refine d_e ?_; refine o_eff0 F rfl rfl rfl (e_storeN0 (us := [.slice A341 t114.1.length C342, .int .i64 0]) F rfl rfl sz_48 h129 (nb rfl) (one_all rfl)) ?_; rintro w350 a ⟨E351, h129, Z352⟩ F; replace B := B.size Z352; replace h288 := h288.ev E351; replace h292 := h292.ev E351; replace h343 := h343.ev E351; replace h344 := h344.ev E351; replace E := E.trans E351 lc1; replace h129 : AT _ _ _ _ _ [.slice A341 t114.1.length C342, .int .i64 0] := h129
      as_aux_lemma =>
      refine ⟨fun q => absurd rfl q, ?_⟩; refine d_nil ?_; exact J462 c346 w350 a t92 qa127 t114 A341 C342 (F.sub ⟨rfl, rfl, rfl, rfl, rfl, rfl, rfl, rfl, trivial⟩) E B h129 h288 h292 h344 h343 H
     obtain ⟨t114, q115, H⟩ := bind_some H; refine o_eff F rfl rfl rfl (by decide) (e_alloc F zv_48 c328 (m + 4)) ?_; rintro v w354 a ⟨c353, qa127, rfl, E355, h129, B356⟩ F; replace B := B356 _ B lm; replace ER := ER.trans E355 nx; replace h288 := h288.ev E355; replace h292 := h292.ev E355; replace h335 := h335.ev E355; replace E := E.n E355; replace h129 : AT _ _ _ _ _ [.slice none 0 0, .int .i64 0] := h129; refine ⟨fun _ => ER.sb, ?_⟩; refine d_e ?_; refine oc F Tryz.func53 (parcel_Reader_Text.calls (m := m + 5) (pl hm0) B h335 (by omega) 0 (pl hm0) _ q115) ?_; rintro e w358 ⟨c357, A361, C362, rfl, E359, B, h363, h364⟩; refine rt fun a F => ?_; replace ER := ER.trans E359 (fun x q => by replace q : x = m + 1 := q; show x = m + 1; omega); replace h288 := h288.ev E359; replace h292 := h292.ev E359; replace h129 := h129.ev E359
     as_aux_lemma =>
     replace E := E.trans E359 lc1; refine ⟨fun _ => ER.sb, ?_⟩; refine d_q F rfl rfl rfl (by decide) (fun wq hS => r_build (v := .agg #[.slice A361 t114.1.length C362, .int .i64 0]) F [(0, .slice A361 t114.1.length C362)] (by exact ⟨rfl, rfl, trivial⟩) (fun w => by kernel_rfl)) ER.sb fun a F => ?_; refine da F ER.sb fun a F => ?_; refine d_e ?_; refine o_eff0 F rfl rfl rfl (e_storeN0 (us := [.slice A361 t114.1.length C362, .int .i64 0]) F rfl rfl sz_48 h129 (nb rfl) (one_all rfl)) ?_; rintro w366 a ⟨E367, h129, Z368⟩ F; replace B := B.size Z368; replace h288 := h288.ev E367; replace h292 := h292.ev E367; replace h363 := h363.ev E367; replace h364 := h364.ev E367; replace E := E.trans E367 lc1; replace h129 : AT _ _ _ _ _ [.slice A361 t114.1.length C362, .int .i64 0] := h129; refine ⟨fun q => absurd rfl q, ?_⟩; refine d_nil ?_; exact J462 c357 w366 a t92 qa127 t114 A361 C362 (F.sub ⟨rfl, rfl, rfl, rfl, rfl, rfl, rfl, rfl, trivial⟩) E B h129 h288 h292 h364 h363 H
    ·obtain ⟨t114, q115, H⟩ := bind_some H; refine oc F Tryz.func53 (parcel_Reader_Text.calls (m := m + 5) (pl hm0) B h335 (by omega) 0 (pl hm0) _ q115) ?_; rintro e w370 ⟨c369, A373, C374, rfl, E371, B, h375, h376⟩; refine rt fun a F => ?_; replace ER := ER.trans E371 (fun x q => by replace q : x = m + 1 := q; show x = m + 1; omega); replace h288 := h288.ev E371
     as_aux_lemma =>
     replace h292 := h292.ev E371; replace h334 := h334.ev E371; replace E := E.trans E371 lc1; refine ⟨fun _ => ER.sb, ?_⟩; refine d_q F rfl rfl rfl (by decide) (fun wq hS => r_build (v := .agg #[.slice A373 t114.1.length C374, .int .i64 0]) F [(0, .slice A373 t114.1.length C374)] (by exact ⟨rfl, rfl, trivial⟩) (fun w => by kernel_rfl)) ER.sb fun a F => ?_; refine d_f ?_ ?_
     ·refine o_val F rfl rfl rfl (by decide) (r_bytesStr F Tryz.underlying29 Tryz.underlying5 Tryz.underlying9 rfl h334) fun a F => ?_; refine ⟨fun _ => ER.sb, ?_⟩; refine d_e ?_; refine o_eff F rfl rfl rfl (by decide) (e_alloc F zv_48 c369 (m + 4)) ?_; rintro v w379 a ⟨c378, qa127, rfl, E380, h129, B381⟩ F; replace B := B381 _ B lm; replace ER := ER.trans E380 nx; replace h288 := h288.ev E380; replace h292 := h292.ev E380; replace h375 := h375.ev E380; replace h376 := h376.ev E380; replace E := E.n E380; replace h129 : AT _ _ _ _ _ [.slice none 0 0, .int .i64 0] := h129; refine ⟨fun _ => ER.sb, ?_⟩; refine da F ER.sb fun a F => ?_; refine d_e ?_; refine o_eff0 F rfl rfl rfl (e_storeN0 (us := [.slice A373 t114.1.length C374, .int .i64 0]) F rfl rfl sz_48 h129 (nb rfl) (one_all rfl)) ?_; rintro w382 a ⟨E383, h129, Z384⟩ F
      as_aux_lemma =>
      replace B := B.size Z384; replace h288 := h288.ev E383; replace h292 := h292.ev E383; replace h375 := h375.ev E383; replace h376 := h376.ev E383; replace E := E.trans E383 lc1; replace h129 : AT _ _ _ _ _ [.slice A373 t114.1.length C374, .int .i64 0] := h129; refine ⟨fun q => absurd rfl q, ?_⟩; refine d_nil ?_; exact J462 c378 w382 a t92 qa127 t114 A373 C374 (F.sub ⟨rfl, rfl, rfl, rfl, rfl, rfl, rfl, rfl, trivial⟩) E B h129 h288 h292 h376 h375 H
     refine o_eff F rfl rfl rfl (by decide) (e_alloc F zv_48 c369 (m + 4)) ?_; rintro v w386 a ⟨c385, qa127, rfl, E387, h129, B388⟩ F; replace B := B388 _ B lm; replace ER := ER.trans E387 nx; replace h288 := h288.ev E387; replace h292 := h292.ev E387; replace h334 := h334.ev E387; replace h375 := h375.ev E387; replace h376 := h376.ev E387; replace E := E.n E387; replace h129 : AT _ _ _ _ _ [.slice none 0 0, .int .i64 0] := h129; refine ⟨fun _ => ER.sb, ?_⟩
     as_aux_lemma =>
     refine d_e ?_; refine o_val F rfl rfl rfl (by decide) (r_bytesStr F Tryz.underlying29 Tryz.underlying5 Tryz.underlying9 rfl h334) fun a F => ?_; refine ⟨fun _ => ER.sb, ?_⟩; refine da F ER.sb fun a F => ?_; refine d_e ?_; refine o_eff0 F rfl rfl rfl (e_storeN0 (us := [.slice A373 t114.1.length C374, .int .i64 0]) F rfl rfl sz_48 h129 (nb rfl) (one_all rfl)) ?_; rintro w389 a ⟨E390, h129, Z391⟩ F; replace B := B.size Z391; replace h288 := h288.ev E390; replace h292 := h292.ev E390; replace h375 := h375.ev E390; replace h376 := h376.ev E390; replace E := E.trans E390 lc1; replace h129 : AT _ _ _ _ _ [.slice A373 t114.1.length C374, .int .i64 0] := h129; refine ⟨fun q => absurd rfl q, ?_⟩; refine d_nil ?_; exact J462 c385 w389 a t92 qa127 t114 A373 C374 (F.sub ⟨rfl, rfl, rfl, rfl, rfl, rfl, rfl, rfl, trivial⟩) E B h129 h288 h292 h376 h375 H
    refine o_eff F rfl rfl rfl (by decide) (e_alloc F zv_48 c328 (m + 4)) ?_; rintro v w393 a ⟨c392, qa127, rfl, E394, h129, B395⟩ F; replace B := B395 _ B lm; replace ER := ER.trans E394 nx; replace h288 := h288.ev E394
    as_aux_lemma =>
    replace h292 := h292.ev E394; replace h334 := h334.ev E394; replace h335 := h335.ev E394; replace E := E.n E394; replace h129 : AT _ _ _ _ _ [.slice none 0 0, .int .i64 0] := h129; refine ⟨fun _ => ER.sb, ?_⟩; refine d_f ?_ ?_
    ·refine o_val F rfl rfl rfl (by decide) (r_bytesStr F Tryz.underlying29 Tryz.underlying5 Tryz.underlying9 rfl h334) fun a F => ?_; refine ⟨fun _ => ER.sb, ?_⟩; refine d_e ?_; obtain ⟨t114, q115, H⟩ := bind_some H; refine oc F Tryz.func53 (parcel_Reader_Text.calls (m := m + 5) (pl hm0) B h335 (by omega) 0 (pl hm0) _ q115) ?_; rintro e w397 ⟨c396, A400, C401, rfl, E398, B, h402, h403⟩; refine rt fun a F => ?_; replace ER := ER.trans E398 (fun x q => by replace q : x = m + 1 := q; show x = m + 1; omega); replace h288 := h288.ev E398; replace h292 := h292.ev E398; replace h129 := h129.ev E398; replace E := E.trans E398 lc1; refine ⟨fun _ => ER.sb, ?_⟩; refine d_q F rfl rfl rfl (by decide) (fun wq hS => r_build (v := .agg #[.slice A400 t114.1.length C401, .int .i64 0]) F [(0, .slice A400 t114.1.length C401)] (by exact ⟨rfl, rfl, trivial⟩) (fun w => by kernel_rfl)) ER.sb fun a F => ?_; refine da F ER.sb fun a F => ?_; refine d_e ?_
     as_aux_lemma =>
     refine o_eff0 F rfl rfl rfl (e_storeN0 (us := [.slice A400 t114.1.length C401, .int .i64 0]) F rfl rfl sz_48 h129 (nb rfl) (one_all rfl)) ?_; rintro w405 a ⟨E406, h129, Z407⟩ F; replace B := B.size Z407; replace h288 := h288.ev E406; replace h292 := h292.ev E406; replace h402 := h402.ev E406; replace h403 := h403.ev E406; replace E := E.trans E406 lc1; replace h129 : AT _ _ _ _ _ [.slice A400 t114.1.length C401, .int .i64 0] := h129; refine ⟨fun q => absurd rfl q, ?_⟩; refine d_nil ?_; exact J462 c396 w405 a t92 qa127 t114 A400 C401 (F.sub ⟨rfl, rfl, rfl, rfl, rfl, rfl, rfl, rfl, trivial⟩) E B h129 h288 h292 h403 h402 H
    obtain ⟨t114, q115, H⟩ := bind_some H; refine oc F Tryz.func53 (parcel_Reader_Text.calls (m := m + 5) (pl hm0) B h335 (by omega) 0 (pl hm0) _ q115) ?_; rintro e w409 ⟨c408, A412, C413, rfl, E410, B, h414, h415⟩; refine rt fun a F => ?_; replace ER := ER.trans E410 (fun x q => by replace q : x = m + 1 := q; show x = m + 1; omega); replace h288 := h288.ev E410; replace h292 := h292.ev E410; replace h334 := h334.ev E410; replace h129 := h129.ev E410; replace E := E.trans E410 lc1
    as_aux_lemma =>
    refine ⟨fun _ => ER.sb, ?_⟩; refine d_q F rfl rfl rfl (by decide) (fun wq hS => r_build (v := .agg #[.slice A412 t114.1.length C413, .int .i64 0]) F [(0, .slice A412 t114.1.length C413)] (by exact ⟨rfl, rfl, trivial⟩) (fun w => by kernel_rfl)) ER.sb fun a F => ?_; refine d_e ?_; refine o_val F rfl rfl rfl (by decide) (r_bytesStr F Tryz.underlying29 Tryz.underlying5 Tryz.underlying9 rfl h334) fun a F => ?_; refine ⟨fun _ => ER.sb, ?_⟩; refine da F ER.sb fun a F => ?_; refine d_e ?_; refine o_eff0 F rfl rfl rfl (e_storeN0 (us := [.slice A412 t114.1.length C413, .int .i64 0]) F rfl rfl sz_48 h129 (nb rfl) (one_all rfl)) ?_; rintro w417 a ⟨E418, h129, Z419⟩ F; replace B := B.size Z419; replace h288 := h288.ev E418; replace h292 := h292.ev E418; replace h414 := h414.ev E418; replace h415 := h415.ev E418; replace E := E.trans E418 lc1; replace h129 : AT _ _ _ _ _ [.slice A412 t114.1.length C413, .int .i64 0] := h129; refine ⟨fun q => absurd rfl q, ?_⟩; refine d_nil ?_; exact J462 c408 w417 a t92 qa127 t114 A412 C413 (F.sub ⟨rfl, rfl, rfl, rfl, rfl, rfl, rfl, rfl, trivial⟩) E B h129 h288 h292 h415 h414 H
   refine o_eff F rfl rfl rfl (by decide) (e_alloc F zv_48 c310 (m + 4)) ?_; rintro v w421 a ⟨c420, qa127, rfl, E422, h129, B423⟩ F; replace B := B423 _ B lm
   as_aux_lemma =>
   replace ER := ER.trans E422 nx; replace h284 := h284.ev E422; replace h288 := h288.ev E422; replace h292 := h292.ev E422; replace E := E.n E422; replace h129 : AT _ _ _ _ _ [.slice none 0 0, .int .i64 0] := h129; refine ⟨fun _ => ER.sb, ?_⟩; refine d_e ?_; obtain ⟨t92, q93, H⟩ := bind_some H; refine oc F Tryz.func53 (parcel_Reader_Text.calls (m := m + 5) (pl hm0) B h284 (by omega) 0 (pl hm0) _ q93) ?_; rintro e w425 ⟨c424, A428, C429, rfl, E426, B, h430, h431⟩; refine rt fun a F => ?_; replace ER := ER.trans E426 (fun x q => by replace q : x = m + 1 := q; show x = m + 1; omega); replace h288 := h288.ev E426; replace h292 := h292.ev E426; replace h129 := h129.ev E426; replace E := E.trans E426 lc1; refine ⟨fun _ => ER.sb, ?_⟩; refine d_f ?_ ?_
   ·refine o_val F rfl rfl rfl (by decide) (r_bytesStr F Tryz.underlying29 Tryz.underlying5 Tryz.underlying9 rfl h430) fun a F => ?_; refine ⟨fun _ => ER.sb, ?_⟩; refine d_e ?_; obtain ⟨t114, q115, H⟩ := bind_some H
    as_aux_lemma =>
    refine oc F Tryz.func53 (parcel_Reader_Text.calls (m := m + 5) (pl hm0) B h431 (by omega) 0 (pl hm0) _ q115) ?_; rintro e w434 ⟨c433, A437, C438, rfl, E435, B, h439, h440⟩; refine rt fun a F => ?_; replace ER := ER.trans E435 (fun x q => by replace q : x = m + 1 := q; show x = m + 1; omega); replace h288 := h288.ev E435; replace h292 := h292.ev E435; replace h129 := h129.ev E435; replace E := E.trans E435 lc1; refine ⟨fun _ => ER.sb, ?_⟩; refine d_q F rfl rfl rfl (by decide) (fun wq hS => r_build (v := .agg #[.slice A437 t114.1.length C438, .int .i64 0]) F [(0, .slice A437 t114.1.length C438)] (by exact ⟨rfl, rfl, trivial⟩) (fun w => by kernel_rfl)) ER.sb fun a F => ?_; refine da F ER.sb fun a F => ?_; refine d_e ?_; refine o_eff0 F rfl rfl rfl (e_storeN0 (us := [.slice A437 t114.1.length C438, .int .i64 0]) F rfl rfl sz_48 h129 (nb rfl) (one_all rfl)) ?_; rintro w442 a ⟨E443, h129, Z444⟩ F; replace B := B.size Z444; replace h288 := h288.ev E443; replace h292 := h292.ev E443; replace h439 := h439.ev E443; replace h440 := h440.ev E443; replace E := E.trans E443 lc1; replace h129 : AT _ _ _ _ _ [.slice A437 t114.1.length C438, .int .i64 0] := h129; refine ⟨fun q => absurd rfl q, ?_⟩
    as_aux_lemma =>
    refine d_nil ?_; exact J462 c433 w442 a t92 qa127 t114 A437 C438 (F.sub ⟨rfl, rfl, rfl, rfl, rfl, rfl, rfl, rfl, trivial⟩) E B h129 h288 h292 h440 h439 H
   obtain ⟨t114, q115, H⟩ := bind_some H; refine oc F Tryz.func53 (parcel_Reader_Text.calls (m := m + 5) (pl hm0) B h431 (by omega) 0 (pl hm0) _ q115) ?_; rintro e w446 ⟨c445, A449, C450, rfl, E447, B, h451, h452⟩; refine rt fun a F => ?_; replace ER := ER.trans E447 (fun x q => by replace q : x = m + 1 := q; show x = m + 1; omega); replace h288 := h288.ev E447; replace h292 := h292.ev E447; replace h129 := h129.ev E447; replace h430 := h430.ev E447; replace E := E.trans E447 lc1; refine ⟨fun _ => ER.sb, ?_⟩; refine d_q F rfl rfl rfl (by decide) (fun wq hS => r_build (v := .agg #[.slice A449 t114.1.length C450, .int .i64 0]) F [(0, .slice A449 t114.1.length C450)] (by exact ⟨rfl, rfl, trivial⟩) (fun w => by kernel_rfl)) ER.sb fun a F => ?_; refine d_e ?_; refine o_val F rfl rfl rfl (by decide) (r_bytesStr F Tryz.underlying29 Tryz.underlying5 Tryz.underlying9 rfl h430) fun a F => ?_; refine ⟨fun _ => ER.sb, ?_⟩; refine da F ER.sb fun a F => ?_; refine d_e ?_; refine o_eff0 F rfl rfl rfl (e_storeN0 (us := [.slice A449 t114.1.length C450, .int .i64 0]) F rfl rfl sz_48 h129 (nb rfl) (one_all rfl)) ?_; rintro w454 a ⟨E455, h129, Z456⟩ F; replace B := B.size Z456
   as_aux_lemma =>
   replace h288 := h288.ev E455; replace h292 := h292.ev E455; replace h451 := h451.ev E455; replace h452 := h452.ev E455; replace E := E.trans E455 lc1; replace h129 : AT _ _ _ _ _ [.slice A449 t114.1.length C450, .int .i64 0] := h129; refine ⟨fun q => absurd rfl q, ?_⟩; refine d_nil ?_; exact J462 c445 w454 a t92 qa127 t114 A449 C450 (F.sub ⟨rfl, rfl, rfl, rfl, rfl, rfl, rfl, rfl, trivial⟩) E B h129 h288 h292 h452 h451 H
  replace H := im hb312 H; refine wcf (fb F (bfalse hb312)) ?_; refine wp_exit ?_; refine thenE ?_; refine thenE ?_; refine inbE ?_; have hx_ := HD299 _ (si H).symm; have H := HR303; rw [← hx_] at H; exact J513 c310 w311 a o285 o289 b290 (F.sub ⟨rfl, rfl, rfl, trivial⟩) E B h284 h288 H
 refine reg ?_; refine qm F fun a F => ?_; refine qv F (r_gtr F rfl rfl) fun a F => ?_
 as_aux_lemma =>
 refine qm F fun a F => ?_
 by_cases hb307 : 0 < i286
 ·replace H := ip hb307 H; refine qy F (dt hb307) ?_; refine qm F fun a F => ?_; refine qv F (r_pick_t F rfl (dt hb307) rfl) fun a F => ?_; refine nil ?_; exact J309 c295 w296 a b290 (F.sub ⟨rfl, rfl, rfl, rfl, rfl, rfl, rfl, rfl, trivial⟩) E B h284 h288 h292 H
 replace H := im hb307 H; refine qn F (dz hb307) fun a F => ?_; refine qv F (r_pick_f F rfl (dz hb307) rfl) fun a F => ?_; refine nil ?_; exact J309 c295 w296 a false (F.sub ⟨rfl, rfl, rfl, rfl, rfl, rfl, rfl, rfl, trivial⟩) E B h284 h288 h292 H
theorem haulagelaw13_read.calls (k : Nat) {m : Nat} {c0 : Nat → Nat} {w0 : World} {j5 : Nat} {A2 : Option Addr} {C3 : Nat} {a1 : List Int} (hm0 : 0 < m) (B0 : CB m c0 w0) (h4 : SL false (Kint .u8) j5 0 c0 w0 A2 C3 a1) (bj5 : j5 < m) (jr63 : Nat) (bjr63 : jr63 < m) (jr64 : Nat) (bjr64 : jr64 < m) (jr65 : Nat) (bjr65 : jr65 < m) (r : (Option Tab) × (Option Tb3) × Bool) (H : haulagelaw13_read.f k a1 = some r) : Calls Tryz.prog 8 #[.slice A2 a1.length C3] w0 (fun e w_ => ∃ (c_ : Nat → Nat) (P0_ : Option Addr) (P1_ : Option Addr), e = .returned (.tuple #[.pointer P0_, .pointer P1_, .bool r.2.2]) ∧ Ev (fun x => False) c0 w0 c_ w_ ∧ CB m c_ w_ ∧ TB jr63 c_ w_ P0_ r.1 ∧ TB3 jr64 jr65 c_ w_ P1_ r.2.1) := by
 unfold haulagelaw13_read.f at H; have B := B0.mono (show m ≤ m + 5 by omega); have E : Ev (fun x => False ∨ m ≤ x) c0 w0 c0 w0 := Ev.refl; refine enter (N := 43) (l := [.slice A2 a1.length C3]) Tryz.func8 rfl rfl (nb rfl) fun a F => ?_; refine sr fun K6 hK6 => qa F fun a F => qa F fun a F => qa F fun a F => nil (hK6 _ _ ?_); refine sr fun K7 hK7 => qm F fun a F => ?_; obtain ⟨t8, q9, H⟩ := bind_some H; refine qc F Tryz.func14 (haulageref13_Read.calls k (m := m + 5) (pl hm0) B h4 (Nat.lt_add_right _ bj5) (m + 1) lm (m + 2) lm _ q9) ?_; rintro e w11 ⟨c10, p14, rfl, E12, B, h15⟩; refine rt fun a F => ?_; replace h4 := h4.ev E12; replace E := E.n E12; refine qm F fun a F => ?_; refine qx F fun a F => ?_; refine qx F fun a F => ?_; refine qa F fun a F => qa F fun a F => nil (hK7 _ _ ?_); replace F : Fr a 43 [(0, .slice A2 a1.length C3), (5, .pointer p14), (6, .int .i64 t8.2)] := F.sub ⟨rfl, rfl, rfl, trivial⟩; refine sr fun K17 hK17 => qm F fun a F => ?_; obtain ⟨t18, q19, H⟩ := bind_some H; refine qc F Tryz.func15 (haulagelaw13_lent.calls (m := m + 5) (pl hm0) B h4 (Nat.lt_add_right _ bj5) (m + 3) lm _ q19) ?_; rintro e w21 ⟨c20, A24, C25, rfl, E22, B, h26⟩; refine rt fun a F => ?_; replace h4 := h4.ev E22; replace h15 := h15.ev E22; replace E := E.n E22; refine qa F fun a F => nil (hK17 _ _ ?_); refine sr fun K28 hK28 => qm F fun a F => ?_; obtain ⟨t29, q30, H⟩ := bind_some H; refine qc F Tryz.func16 (table_Read.calls k (m := m + 5) (pl hm0) B (SLM.v h26).r lm (m + 4) lm _ q30) ?_; rintro e w32 ⟨c31, p35, rfl, E33, B, h36⟩; refine rt fun a F => ?_; replace h4 := h4.ev E33; replace h15 := h15.ev E33; replace h26 := h26.ev E33; replace E := E.n E33; refine qm F fun a F => ?_; refine qx F fun a F => ?_; refine qx F fun a F => ?_; refine qa F fun a F => qa F fun a F => nil (hK28 _ _ ?_); refine sq fun K38 hK38 => ?_; have J49 : ∀ (c50 : Nat → Nat) (w51 : World) (a : Act) (b48 : Bool), Fr a 43 [(5, .pointer p14), (7, .slice A24 t18.length C25), (8, .pointer p35), (10, .bool b48)] → Ev (fun x => False ∨ m ≤ x) c0 w0 c50 w51 → CB (m + 5) c50 w51 → TB3 (m + 1) (m + 2) c50 w51 p14 t8.1 → SL true (Kint .u8) (m + 3) 0 c50 w51 A24 C25 (t18 ++ [201, 77]) → TB (m + 4) c50 w51 p35 t29.1 → haulagelaw13_read.j1 k t8 t18 t29 b48 = some r → K38 a w51 := by
  intro c50 w51 a b48 F E B h15 h26 h36 H; unfold haulagelaw13_read.j1 at H; refine hK38 _ _ ?_; refine sr fun K52 hK52 => qm F fun a F => ?_; obtain ⟨t53, q54, H⟩ := bind_some H; refine qc F Tryz.func18 (haulagelaw13_spoil.calls k (m := m + 5) (pl hm0) B (SLM.v h26) ⟨(pl hm0), lm⟩ _ q54) ?_; rintro e w56 ⟨c55, rfl, E57, B, h59, hl60⟩; refine rt fun a F => ?_; replace h15 := h15.ev E57; replace h36 := h36.ev E57; replace E := E.trans E57 lc1; replace hl60 := hl60.symm; replace F := F.sub (L' := [(5, .pointer p14), (7, .slice A24 t53.length C25), (8, .pointer p35), (10, .bool b48), (38, .slice A24 t53.length C25), (39, .tuple #[])]) ⟨rfl, (by rw [← hl60]; rfl), rfl, rfl, (by rw [← hl60]; rfl), rfl, trivial⟩; refine nil (hK52 _ _ ?_); refine sr fun K62 hK62 => qm F fun a F => qm F fun a F => qm F fun a F => qa F fun a F => qa F fun a F => qa F fun a F => nil (hK62 _ _ ?_); replace F : Fr a 43 [(2, .pointer p35), (3, .pointer p14), (4, .bool b48)] := F.sub ⟨rfl, rfl, rfl, trivial⟩; refine wp_ret ?_; obtain rfl := si H; refine out3 F rfl rfl rfl rfl ?_; exact ⟨cf (fun x_ => if x_ = m + 4 then jr63 else if x_ = m + 1 then jr64 else if x_ = m + 2 then jr65 else if x_ < m then x_ else 0) c55, p35, p14, rfl, E.lv B0, cfb, TB.rc h36 cfk cfk, TB3.rc h15 cfk cfk cfk⟩
 refine reg ?_; refine qm F fun a F => qm F fun a F => ?_; refine qv F (r_eql F rfl rfl) fun a F => ?_; refine qm F fun a F => ?_
 by_cases hb39 : t8.2 = t29.2
 ·replace H := ip hb39 H; refine qy F (dt hb39) ?_; refine qm F fun a F => ?_; refine qy F (dt hb39) ?_; refine qv F (r_pneqA F Tryz.underlying23 rfl rfl (TB.isNone h36)) fun a F => ?_; refine qy F (dt hb39) ?_; refine qm F fun a F => ?_; refine qy F (dt hb39) ?_; refine qv F (r_pneqA F Tryz.underlying26 rfl rfl (TB3.isNone h15)) fun a F => ?_; refine qy F (dt hb39) ?_; refine qv F (r_beql F Tryz.underlying4 rfl rfl) fun a F => ?_; refine qv F (r_pick_t F rfl (dt hb39) rfl) fun a F => ?_; refine qm F fun a F => ?_
  by_cases hb40 : ((!Option.isNone t29.1) == (!Option.isNone t8.1)) = true
  ·replace H := ip hb40 H; refine qy F hb40 ?_; refine qm F fun a F => ?_; refine qy F hb40 ?_; refine qm F fun a F => ?_; obtain ⟨t41, q42, H⟩ := bind_some H; refine qy F hb40 ?_; refine qc F Tryz.func17 (haulagelaw13_kept.calls k (m := m + 5) (pl hm0) B h26.r h4 lm (Nat.lt_add_right _ bj5) _ q42) ?_; rintro e w44 ⟨c43, rfl, E45, B⟩; refine rt fun a F => ?_; replace h15 := h15.ev E45; replace h26 := h26.ev E45; replace h36 := h36.ev E45; replace E := E.n E45; refine qv F (r_pick_t F rfl hb40 rfl) fun a F => ?_; refine qa F fun a F => nil ?_; exact J49 c43 w44 a t41 (F.sub ⟨rfl, rfl, rfl, rfl, trivial⟩) E B h15 h26 h36 H
  replace H := im hb40 H; refine qn F (bfalse hb40) fun a F => qn F (bfalse hb40) fun a F => qn F (bfalse hb40) fun a F => ?_; refine qv F (r_pick_f F rfl (bfalse hb40) rfl) fun a F => ?_; refine qa F fun a F => nil ?_; exact J49 c31 w32 a false (F.sub ⟨rfl, rfl, rfl, rfl, trivial⟩) E B h15 h26 h36 H
 replace H := im hb39 H; refine qn F (dz hb39) fun a F => qn F (dz hb39) fun a F => qn F (dz hb39) fun a F => qn F (dz hb39) fun a F => qn F (dz hb39) fun a F => ?_; refine qv F (r_pick_f F rfl (dz hb39) rfl) fun a F => ?_; refine qm F fun a F => qn F rfl fun a F => qn F rfl fun a F => qn F rfl fun a F => ?_; refine qp F fun a F => ?_; refine qa F fun a F => nil ?_; exact J49 c31 w32 a false (F.sub ⟨rfl, rfl, rfl, rfl, trivial⟩) E B h15 h26 h36 H
theorem haulagelaw13_TableReads.calls (k : Nat) {m : Nat} {c0 : Nat → Nat} {w0 : World} {A2 : Option Addr} {C3 : Nat} {a1 : List Int} (hm0 : 0 < m) (B0 : CB m c0 w0) (h4 : SL false (Kint .u8) 0 0 c0 w0 A2 C3 a1) (r : Bool) (H : haulagelaw13_TableReads.f k a1 = some r) : Calls Tryz.prog 4 #[.slice A2 a1.length C3] w0 (fun e w_ => ∃ (c_ : Nat → Nat), e = .returned (.bool r) ∧ Ev (fun x => False) c0 w0 c_ w_ ∧ CB m c_ w_) := by
 unfold haulagelaw13_TableReads.f at H; have B := B0.mono (show m ≤ m + 4 by omega); have E : Ev (fun x => False ∨ m ≤ x) c0 w0 c0 w0 := Ev.refl; refine enter (N := 33) (l := [.slice A2 a1.length C3]) Tryz.func4 rfl rfl (nb rfl) fun a F => ?_; refine sr fun K5 hK5 => qa F fun a F => nil (hK5 _ _ ?_); refine sr fun K6 hK6 => qm F fun a F => ?_; obtain ⟨t7, q8, H⟩ := bind_some H; refine qc F Tryz.func8 (haulagelaw13_read.calls k (m := m + 4) (pl hm0) B h4 (pl hm0) (m + 1) lm (m + 2) lm (m + 3) lm _ q8) ?_; rintro e w10 ⟨c9, p13, p15, rfl, E11, B, h14, h16⟩; refine rt fun a F => ?_; replace E := E.n E11; refine qm F fun a F => ?_; refine qx F fun a F => ?_; refine qx F fun a F => ?_; refine qx F fun a F => ?_; refine qa F fun a F => qa F fun a F => qa F fun a F => nil (hK6 _ _ ?_); replace F : Fr a 33 [(3, .pointer p13), (4, .pointer p15), (5, .bool t7.2.2)] := F.sub ⟨rfl, rfl, rfl, trivial⟩; refine sq fun K18 hK18 => ?_; refine sq fun K19 hK19 => ?_; have J22 : ∀ (c23 : Nat → Nat) (w24 : World) (a : Act) (b21 : Bool), Fr a 33 [(3, .pointer p13), (4, .pointer p15), (5, .bool t7.2.2), (19, .bool b21)] → Ev (fun x => False ∨ m ≤ x) c0 w0 c23 w24 → CB (m + 4) c23 w24 → TB (m + 1) c23 w24 p13 t7.1 → TB3 (m + 2) (m + 3) c23 w24 p15 t7.2.1 → haulagelaw13_TableReads.j1 k t7 b21 = some r → K19 a w24 := by
  intro c23 w24 a b21 F E B h14 h16 H; unfold haulagelaw13_TableReads.j1 at H; refine hK19 _ _ ?_
  by_cases hb25 : b21 = true
  ·replace H := ip hb25 H; refine wct (fb F hb25) ?_; refine sr fun K26 hK26 => qm F fun a F => qa F fun a F => nil (hK26 _ _ ?_); refine wp_ret ?_; refine thenR ?_; obtain rfl := si H; refine out1 F rfl rfl ?_; exact ⟨cf (ct m) c23, rfl, E.lv B0, cfb⟩
  replace H := im hb25 H; refine wcf (fb F (bfalse hb25)) (wp_skip (hK18 _ _ ?_)); refine sr fun K27 hK27 => qm F fun a F => qm F fun a F => ?_; refine qv F (r_build (v := .agg #[.int .i64 3, .int .i64 0, .int .i64 0, .slice none 0 0, .slice none 0 0, .int .i64 0, .slice none 0 0]) F [(0, .int .i64 3)] (by exact ⟨rfl, rfl, trivial⟩) (bd_33_i64_0 _)) fun a F => ?_; obtain ⟨t28, q29, H⟩ := bind_some H; refine qc F Tryz.func11 (haulagelaw13_does.calls k (m := m + 4) (a10 := haulagelaw13_Step.mk 3 0 (api_Op.mk 0 [] [] 0) []) (pl hm0) B h14 h16 (SL.nil (j := 0) (i := 0)) (SL.nil (j := 0) (i := 0)) (SL.nil (j := 0) (i := 0)) ⟨(pl hm0), lm⟩ ⟨(pl hm0), lm, mm⟩ ⟨(pl hm0), lm, mm, mm⟩ ⟨(pl hm0), ne_zm, ne_zm, ne_zm⟩ ⟨(pl hm0), ne_zm, ne_zm, ne_zm⟩ ⟨(pl hm0), ne_zm, ne_zm, ne_zm⟩ _ q29) ?_; rintro e w31 ⟨c30, rfl, E32, B, h34, h35⟩; refine rt fun a F => ?_; replace E := E.trans E32 (fun x (q : x = m + 1 ∨ x = m + 2 ∨ x = m + 3) => q.elim (fun q => Or.inr (le_col q)) (fun q => q.elim (fun q => Or.inr (le_col q)) (fun q => Or.inr (le_col q)))); refine qa F fun a F => nil (hK27 _ _ ?_); refine sr fun K37 hK37 => qm F fun a F => qm F fun a F => ?_; refine qv F (r_build (v := .agg #[.int .i64 4, .int .i64 0, .int .i64 0, .slice none 0 0, .slice none 0 0, .int .i64 0, .slice none 0 0]) F [(0, .int .i64 4)] (by exact ⟨rfl, rfl, trivial⟩) (bd_33_i64_0 _)) fun a F => ?_; obtain ⟨t38, q39, H⟩ := bind_some H; refine qc F Tryz.func11 (haulagelaw13_does.calls k (m := m + 4) (a10 := haulagelaw13_Step.mk 4 0 (api_Op.mk 0 [] [] 0) []) (pl hm0) B h34 h35 (SL.nil (j := 0) (i := 0)) (SL.nil (j := 0) (i := 0)) (SL.nil (j := 0) (i := 0)) ⟨(pl hm0), lm⟩ ⟨(pl hm0), lm, mm⟩ ⟨(pl hm0), lm, mm, mm⟩ ⟨(pl hm0), ne_zm, ne_zm, ne_zm⟩ ⟨(pl hm0), ne_zm, ne_zm, ne_zm⟩ ⟨(pl hm0), ne_zm, ne_zm, ne_zm⟩ _ q39) ?_; rintro e w41 ⟨c40, rfl, E42, B, h44, h45⟩; refine rt fun a F => ?_; replace E := E.trans E42 (fun x (q : x = m + 1 ∨ x = m + 2 ∨ x = m + 3) => q.elim (fun q => Or.inr (le_col q)) (fun q => q.elim (fun q => Or.inr (le_col q)) (fun q => Or.inr (le_col q)))); refine qa F fun a F => nil (hK37 _ _ ?_); replace F : Fr a 33 [(6, .bool t28.1), (7, .bool t38.1)] := F.sub ⟨rfl, rfl, trivial⟩; refine sr fun K47 hK47 => qm F fun a F => qm F fun a F => ?_
  by_cases hb48 : t28.1 = true
  ·replace H := ip hb48 H; refine qy F hb48 ?_; refine qm F fun a F => ?_; refine qv F (r_pick_t F rfl hb48 rfl) fun a F => ?_; refine qa F fun a F => nil (hK47 _ _ ?_); refine wp_ret ?_; obtain rfl := si H; refine out1 F rfl rfl ?_; exact ⟨cf (ct m) c40, rfl, E.lv B0, cfb⟩
  replace H := im hb48 H; refine qn F (bfalse hb48) fun a F => ?_; refine qv F (r_pick_f F rfl (bfalse hb48) rfl) fun a F => ?_; refine qa F fun a F => nil (hK47 _ _ ?_); refine wp_ret ?_; obtain rfl := si H; refine out1 F rfl rfl ?_; exact ⟨cf (ct m) c40, rfl, E.lv B0, cfb⟩
 refine reg ?_; refine qm F fun a F => ?_; refine qv F (r_not F rfl) fun a F => ?_; refine qm F fun a F => ?_
 by_cases hb20 : t7.2.2 = true
 ·replace H := ip hb20 H; refine qy F (congrArg not hb20) ?_; refine qm F fun a F => ?_; refine qy F (congrArg not hb20) ?_; refine qv F (r_peqlA F Tryz.underlying26 rfl rfl (TB3.isNone h16)) fun a F => ?_; refine qv F (r_pick_f F rfl (congrArg not hb20) rfl) fun a F => ?_; refine nil ?_; exact J22 c9 w10 a (Option.isNone t7.2.1) (F.sub ⟨rfl, rfl, rfl, rfl, trivial⟩) E B h14 h16 H
 replace H := im hb20 H; refine qn F (congrArg not (bfalse hb20)) fun a F => qn F (congrArg not (bfalse hb20)) fun a F => ?_; refine qv F (r_pick_t F rfl (congrArg not (bfalse hb20)) rfl) fun a F => ?_; refine nil ?_; exact J22 c9 w10 a true (F.sub ⟨rfl, rfl, rfl, rfl, trivial⟩) E B h14 h16 H
end Go.Proofs.YtcolmmjcdlmcoaaGreat.G
namespace Go.Proofs.YtcolmmjcdlmcoaaGreat.G
open Go Go.ChangeShapes Go.WideShapes
set_option linter.unusedVariables false
set_option linter.unusedSimpArgs false
theorem bulk_one {H : Type} (d : DataW H) : 1 ≤ Rows.uptoBulk d := by
 cases d with
 | lit l => cases l <;> simp [Rows.uptoBulk]
 | nil => simp [Rows.uptoBulk]
 | ptr d => simp [Rows.uptoBulk]
 | slice elems spare => simp [Rows.uptoBulk]
 | agg parts => simp [Rows.uptoBulk]
 | iface t d => simp [Rows.uptoBulk]
 | map entries => simp [Rows.uptoBulk]
 | held h => simp [Rows.uptoBulk]
theorem bulk_slice {H : Type} (elems spare : List (DataW H)) : Rows.uptoBulkAll elems + 1 ≤ Rows.uptoBulk (.slice elems spare) := by
 simp only [Rows.uptoBulk]
 omega
theorem bulk_all {H : Type} : ∀ l : List (DataW H), Rows.uptoBulkAll l = (l.map Rows.uptoBulk).sum
 | [] => by simp [Rows.uptoBulkAll]
 | d :: l => by simp [Rows.uptoBulkAll, bulk_all l]
def c0 : Nat → Nat := fun _ => 0
def Opens {α : Type} (P : Program) (w : World) (t : TypeId) (e : K α) (wt : α → Nat) (ok : α → Prop) : Prop :=
 ∀ (H : Type) (enc : TypeId × Value → H) (fuel : Nat) (cs : List Value) (x : DataW H × List MemPlace), DataW.trod enc P w 0 (fun _ => true) true fuel t cs = some x → ∃ y, e.rep 0 c0 w cs y ∧ wt y ≤ Rows.uptoBulk x.1 ∧ ok y
section
variable {α : Type} {P : Program} {w : World} {t u : TypeId} {e : K α} {wt : α → Nat} {ok : α → Prop}
theorem opens_int {k : IntKind} (ht : P.underlying t = some (.int k)) : Opens P w t (Kint k) (fun _ => 1) (fun n => (Lit.int k n).wf = true) := by
 intro H enc fuel cs x h
 obtain ⟨n, rfl, rfl, hw⟩ := DataW.trod_int ht h
 exact ⟨n, rfl, bulk_one _, hw⟩
theorem at_cell {p : Addr} {v : Value} (h : w.cell? p = some v) : p = ⟨p.block, p.off, none⟩ ∧ ∃ cur ty fz, w.heap[p.block]? = some (.cells cur ty fz) ∧ cur[p.off]? = some v := by
 obtain ⟨b, off, spot⟩ := p
 simp only [World.cell?] at h
 split at h
 ·rename_i c ty fz hb
  cases spot with
  | some s => simp at h
  | none => exact ⟨rfl, c, ty, fz, hb, by simpa using h⟩
 ·cases h
theorem at_cells {p : Addr} {n : Nat} {cs : List Value} (hn : cs.length = n) (hp : 0 < n) (h : ∀ i, i < n → w.cell? (p.add i) = cs[i]?) : AT false 0 c0 w p cs := by
 have h0 := h 0 hp
 have e0 : p.add 0 = p := by simp [Addr.add]
 rw [e0, List.getElem?_eq_getElem (by omega)] at h0
 obtain ⟨ep, cur, ty, fz, hb, hc⟩ := at_cell h0
 refine ⟨p.block, p.off, cur, ty, fz, ep, hb, rfl, fun k hk => ?_, fun q => by cases q⟩
 have hk' := h k (by omega)
 rw [ep, add_eq] at hk'
 simp only [World.cell?, hb] at hk'
 simpa using hk'
theorem sum_le {β γ : Type} (f : β → Nat) (g : γ → Nat) : ∀ (l : List β) (m : List γ), l.length = m.length → (∀ i (h : i < l.length) (h' : i < m.length), f l[i] ≤ g m[i]) → (l.map f).sum ≤ (m.map g).sum
 | [], [], _, _ => Nat.le_refl _
 | [], _ :: _, h, _ => by simp at h
 | _ :: _, [], h, _ => by simp at h
 | a :: l, b :: m, h, hh => by
  simp only [List.map_cons, List.sum_cons]
  have h0 := hh 0 (by simp) (by simp)
  simp only [List.getElem_cons_zero] at h0
  have := sum_le f g l m (by simpa using h) (fun i h1 h2 => by
   have := hh (i + 1) (by simp; omega) (by simp; omega)
   simpa using this)
  omega
theorem open_sl [Inhabited α] (ht : P.underlying t = some (.slice u)) (hc : P.cellsOf u = e.sz) (hu : Opens P w u e wt ok) {H : Type} {enc : TypeId × Value → H} {fuel : Nat} {cs : List Value} {x : DataW H × List MemPlace}
  (h : DataW.trod enc P w 0 (fun _ => true) true fuel t cs = some x) :
  ∃ A cap xs, cs = [.slice A xs.length cap] ∧ SL false e 0 0 c0 w A cap xs ∧ (xs.map wt).sum + 1 ≤ Rows.uptoBulk x.1 ∧ ∀ y ∈ xs, ok y := by
 rcases Deep.open_slice ht h with ⟨rfl, rfl⟩ | ⟨a, len, cap, m, n, D, Pl, rfl, _, hl, hm, hmm, rfl, hx⟩
 ·exact ⟨none, 0, [], rfl, SL.nil, by simp [Rows.uptoBulk], fun y hy => by cases hy⟩
 simp only [if_true] at hmm
 subst hmm
 have hp := e.pos
 rw [hc] at hx
 have each : ∀ i, i < m → ∃ y : List Value × α, (y.1.length = e.sz ∧ ∀ k, k < e.sz → w.cell? ((a.add (i * e.sz)).add k) = y.1[k]?) ∧ e.rep 0 c0 w y.1 y.2 ∧ wt y.2 ≤ Rows.uptoBulk (D i) ∧ ok y.2 := by
  intro i hi
  obtain ⟨cs', h1, h2⟩ := hx i hi
  obtain ⟨_, g1, g2⟩ := World.cells?_some h1
  obtain ⟨y, g3, g4, g5⟩ := hu H enc n cs' _ h2
  exact ⟨(cs', y), ⟨g1, g2⟩, g3, g4, g5⟩
 obtain ⟨y, hy⟩ := Deep.choose_lt each
 let V : Nat → Value := fun q => (y (q / e.sz)).1.getD (q % e.sz) default
 have hV : ∀ i k, k < e.sz → V (i * e.sz + k) = (y i).1.getD k default := by
  intro i k hk
  show (y ((i * e.sz + k) / e.sz)).1.getD ((i * e.sz + k) % e.sz) default = _
  rw [Nat.mul_comm, Nat.mul_add_div hp, Nat.div_eq_of_lt hk, Nat.add_zero, Nat.mul_add_mod, Nat.mod_eq_of_lt hk]
 let cs := (List.range (m * e.sz)).map V
 have hcs : cs.length = m * e.sz := by simp [cs]
 have hcell : ∀ q, q < m * e.sz → w.cell? (a.add q) = cs[q]? := by
  intro q hq
  have hi : q / e.sz < m := (Nat.div_lt_iff_lt_mul hp).2 hq
  have hk : q % e.sz < e.sz := Nat.mod_lt _ hp
  obtain ⟨⟨g1, g2⟩, _⟩ := hy _ hi
  have g := g2 _ hk
  have e1 : (a.add (q / e.sz * e.sz)).add (q % e.sz) = a.add q := by
   have e2 : q / e.sz * e.sz + q % e.sz = q := Nat.div_add_mod' q e.sz
   obtain ⟨b, off, s⟩ := a
   simp only [Addr.add]
   split <;> split <;> split <;> simp_all <;> omega
  rw [e1] at g
  rw [g]
  simp only [cs, List.getElem?_map, List.getElem?_range hq, Option.map_some]
  show _ = some ((y (q / e.sz)).1.getD (q % e.sz) default)
  rw [List.getD_eq_getElem?_getD, List.getElem?_eq_getElem (by omega)]
  rfl
 refine ⟨some a, m, (List.range len).map fun i => (y i).2, by simp, ⟨cs, by simpa using hl, hm, hcs, ?_, fun n hn => ?_⟩, ?_, ?_⟩
 ·rcases Nat.eq_zero_or_pos (m * e.sz) with q | q
  ·left; exact List.length_eq_zero_iff.1 (by omega)
  ·right; exact ⟨a, rfl, at_cells hcs q hcell⟩
 ·simp only [List.length_map, List.length_range] at hn
  obtain ⟨⟨g1, _⟩, g3, _, _⟩ := hy n (by omega)
  have e1 : (cs.drop (n * e.sz)).take e.sz = (y n).1 := by
   apply List.ext_getElem?
   intro k
   by_cases hk : k < e.sz
   ·have hq : n * e.sz + k < m * e.sz := by
     have : (n + 1) * e.sz ≤ m * e.sz := Nat.mul_le_mul_right _ (by omega)
     rw [Nat.succ_mul] at this; omega
    rw [List.getElem?_take_of_lt hk, List.getElem?_drop]
    simp only [cs, List.getElem?_map, List.getElem?_range hq, Option.map_some]
    rw [hV n k hk, List.getD_eq_getElem?_getD, List.getElem?_eq_getElem (by omega)]
    rfl
   ·rw [List.getElem?_eq_none (by simp; omega), List.getElem?_eq_none (by omega)]
  rw [e1]
  simpa using g3
 ·refine Nat.le_trans (Nat.succ_le_succ ?_) (bulk_slice _ _)
  rw [bulk_all]
  rw [List.map_map, List.map_map]
  have := sum_le (fun i => wt (y i).2) (fun i => Rows.uptoBulk (D i)) (List.range len) (List.range len) rfl (fun i h1 h2 => by
   simp only [List.length_range] at h1
   simp only [List.getElem_range]
   exact (hy i (by omega)).2.2.1)
  exact this
 ·intro z hz
  obtain ⟨i, hi, rfl⟩ := List.mem_map.1 hz
  exact (hy i (by have := List.mem_range.1 hi; omega)).2.2.2
end
end Go.Proofs.YtcolmmjcdlmcoaaGreat.G
namespace Go.Proofs.YtcolmmjcdlmcoaaGreat.G
open Go Go.ChangeShapes Go.WideShapes
set_option linter.unusedVariables false
theorem row_own : ownKnob Tryz.prog.godebug = none := by kernel_rfl
theorem row_laidOut : laidOutB Tryz.prog = true := by kernel_rfl
def byteok (n : Int) : Prop := (Lit.int .u8 n).wf = true
theorem byteok.range {n : Int} (h : byteok n) : 0 ≤ n ∧ n ≤ 255 := by simpa [byteok, Lit.wf, IntKind.min, IntKind.max, IntKind.signed, IntKind.bits] using h
theorem len_sum {α : Type} (f : α → Nat) (hf : ∀ x, 1 ≤ f x) : ∀ xs : List α, xs.length ≤ (xs.map f).sum
 | [] => Nat.le_refl _
 | x :: xs => by have := len_sum f hf xs; have := hf x; simp only [List.map_cons, List.sum_cons, List.length_cons]; omega
theorem cells_5 : Tryz.prog.cellsOf 5 = 1 := by kernel_rfl
theorem arg_key {H : Type} {enc : TypeId × Value → H} {w : World} {v : Value} {d : DataW H} {p : List MemPlace} (hv : ∃ a len cap, v = .slice a len cap) (h : DataW.Trod enc Tryz.prog w 0 (fun _ => true) true 29 v d p) :
  ∃ A C xs, v = .slice A xs.length C ∧ SL false (Kint .u8) 0 0 c0 w A C xs ∧ (xs.map (fun _ => 1)).sum + 1 ≤ Rows.uptoBulk d ∧ ∀ o ∈ xs, (fun n => (Lit.int .u8 n).wf = true) o := by
 obtain ⟨a, len, cap, rfl⟩ := hv
 obtain ⟨fuel, hf⟩ := h
 obtain ⟨A, C, xs, e, h1, h2, h3⟩ := open_sl (e := (Kint .u8)) Tryz.underlying29 cells_5 (opens_int Tryz.underlying5) hf
 refine ⟨A, C, xs, ?_, h1, h2, h3⟩
 have e' : [Value.slice a len cap] = [.slice A xs.length C] := e
 exact List.head_eq_of_cons_eq e'
end Go.Proofs.YtcolmmjcdlmcoaaGreat.G
namespace Go.Proofs.YtcolmmjcdlmcoaaGreat.G
open Go
set_option linter.unusedVariables false
set_option linter.unusedSimpArgs false
abbrev Ent := ByteArray × table_cell
def Tr.list : Tr → List Ent
 | .nil => []
 | .node l r k v _ _ => l.list ++ (k, v) :: r.list
def Tr.hgt : Tr → Nat
 | .nil => 0
 | .node l r _ _ _ _ => 1 + max l.hgt r.hgt
def Tr.WF : Tr → Prop
 | .nil => True
 | .node l r k v s d => l.WF ∧ r.WF ∧ s = ((Tr.node l r k v s d).list.length : Int) ∧ d = ((Tr.node l r k v s d).hgt : Int)
theorem Tr.hgt_le : ∀ t : Tr, t.hgt ≤ t.list.length
 | .nil => Nat.le_refl _
 | .node l r k v s d => by
  have := hgt_le l; have := hgt_le r
  simp only [Tr.hgt, Tr.list, List.length_append, List.length_cons]; omega
theorem len_eq {t : Tr} (h : t.WF) : tree_Tree_Len.f t = some (t.list.length : Int) := by
 cases t with
 | nil => rfl
 | node l r k v s d => show (if (Tr.node l r k v s d).isNil = true then some 0 else some s) = _; rw [if_neg (by simp [Tr.isNil])]; exact congrArg some h.2.2.1
theorem dep_eq {t : Tr} (h : t.WF) : tree_Tree_Depth.f t = some (t.hgt : Int) := by
 cases t with
 | nil => rfl
 | node l r k v s d => show (if (Tr.node l r k v s d).isNil = true then some 0 else some d) = _; rw [if_neg (by simp [Tr.isNil])]; exact congrArg some h.2.2.2
theorem wr {n : Int} (h0 : -1000000000000000000 ≤ n) (h1 : n ≤ 1000000000000000000) : IntKind.i64.wrap n = n := by rw [IntKind.wrap_i64]; omega
def big : Nat := 1099511627776
theorem node_eq {l r : Tr} {k : ByteArray} {v : table_cell} (hl : l.WF) (hr : r.WF) (hb : l.list.length + r.list.length < big) :
  ∃ t, tree_node.f l k v r = some t ∧ t.WF ∧ t.list = l.list ++ (k, v) :: r.list ∧ (∃ s d, t = .node l r k v s d) := by
 have h1 := l.hgt_le; have h2 := r.hgt_le
 unfold big at hb
 refine ⟨.node l r k v (l.list.length + 1 + r.list.length) (1 + max l.hgt r.hgt), ?_, ⟨hl, hr, ?_, ?_⟩, rfl, _, _, rfl⟩
 ·simp only [tree_node.f, len_eq hl, len_eq hr, dep_eq hl, dep_eq hr, Option.bind_some]
  rw [wr (n := (l.list.length : Int) + 1) (by omega) (by omega), wr (by omega) (by omega), wr (by omega) (by omega)]
  simp; omega
 ·simp only [Tr.list, List.length_append, List.length_cons]; omega
 ·simp only [Tr.hgt]; omega
theorem turnL {l r : Tr} {k : ByteArray} {v : table_cell} {s d : Int} (hl : l.WF) (hr : r.WF) (hn : r.list ≠ []) (hb : l.list.length + r.list.length < big) :
  ∃ t, tree_turnLeft.f (.node l r k v s d) = some t ∧ t.WF ∧ t.list = l.list ++ (k, v) :: r.list := by
 cases r with
 | nil => exact absurd rfl hn
 | node rl rr rk rv rs rd =>
  obtain ⟨h1, h2, _⟩ := hr
  simp only [Tr.list, List.length_append, List.length_cons] at hb
  obtain ⟨a, ea, wa, la, _⟩ := node_eq (k := k) (v := v) hl h1 (by omega)
  obtain ⟨b, eb, wb, lb, _⟩ := node_eq (k := rk) (v := rv) wa h2 (by rw [la]; simp only [List.length_append, List.length_cons]; omega)
  refine ⟨b, ?_, wb, ?_⟩
  ·simp only [tree_turnLeft.f, Tr.cs, ea, eb, Option.bind_some]
  ·rw [lb, la]; simp [Tr.list]
theorem turnR {l r : Tr} {k : ByteArray} {v : table_cell} {s d : Int} (hl : l.WF) (hr : r.WF) (hn : l.list ≠ []) (hb : l.list.length + r.list.length < big) :
  ∃ t, tree_turnRight.f (.node l r k v s d) = some t ∧ t.WF ∧ t.list = l.list ++ (k, v) :: r.list := by
 cases l with
 | nil => exact absurd rfl hn
 | node rl rr rk rv rs rd =>
  obtain ⟨h1, h2, _⟩ := hl
  simp only [Tr.list, List.length_append, List.length_cons] at hb
  obtain ⟨a, ea, wa, la, _⟩ := node_eq (k := k) (v := v) h2 hr (by omega)
  obtain ⟨b, eb, wb, lb, _⟩ := node_eq (k := rk) (v := rv) h1 wa (by rw [la]; simp only [List.length_append, List.length_cons]; omega)
  refine ⟨b, ?_, wb, ?_⟩
  ·simp only [tree_turnRight.f, Tr.cs, ea, eb, Option.bind_some]
  ·rw [lb, la]; simp [Tr.list]
theorem hgt_pos {t : Tr} (h : 0 < t.hgt) : t.list ≠ [] := by
 cases t with
 | nil => simp [Tr.hgt] at h
 | node l r k v s d => simp [Tr.list]
theorem join_eq : ∀ (n : Nat) (l r : Tr) (k : ByteArray) (v : table_cell), l.hgt + r.hgt < n → l.WF → r.WF → l.list.length + r.list.length + 1 < big →
  ∃ t, tree_join.f n l k v r = some t ∧ t.WF ∧ t.list = l.list ++ (k, v) :: r.list
 | 0, _, _, _, _, h, _, _, _ => absurd h (by omega)
 | n + 1, l, r, k, v, hn, hl, hr, hb => by
  have h1 := l.hgt_le; have h2 := r.hgt_le
  have hb' := hb
  unfold big at hb'
  simp only [tree_join.f, dep_eq hl, dep_eq hr, Option.bind_some]
  rw [wr (n := (r.hgt : Int) + 1) (by omega) (by omega), wr (n := (l.hgt : Int) + 1) (by omega) (by omega)]
  by_cases c1 : (r.hgt : Int) + 1 < l.hgt
  ·rw [if_pos c1]
   cases l with
   | nil => simp [Tr.hgt] at c1; omega
   | node ll lr lk lv ls ld =>
    obtain ⟨wl, wr', _, _⟩ := hl
    simp only [Tr.hgt] at hn
    simp only [Tr.list, List.length_append, List.length_cons] at hb
    obtain ⟨u, eu, wu, lu⟩ := join_eq n lr r k v (by omega) wr' hr (by omega)
    simp only [Tr.cs, eu, Option.bind_some]
    have hul : u.list.length = lr.list.length + r.list.length + 1 := by rw [lu]; simp; omega
    cases u with
    | nil => simp [Tr.list] at lu
    | node ul ur uk uv us ud =>
     have wu' := wu
     obtain ⟨wul, wur, hus, hud⟩ := wu
     simp only [dep_eq wl, dep_eq wul, dep_eq wur, Option.bind_some]
     have h3 := ll.hgt_le
     unfold big at hb
     rw [wr (n := (ll.hgt : Int) + 1) (by omega) (by omega)]
     have hull : ul.list.length + ur.list.length + 1 = lr.list.length + r.list.length + 1 := by rw [← hul]; simp [Tr.list]; omega
     split
     ·split
      ·rename_i c3
       obtain ⟨x, ex, wx, lx⟩ := turnR (k := uk) (v := uv) (s := us) (d := ud) wul wur (hgt_pos (by omega)) (by unfold big; omega)
       obtain ⟨y, ey, wy, ly, s', d', hy⟩ := node_eq (k := lk) (v := lv) wl wx (by rw [lx]; simp only [List.length_append, List.length_cons]; unfold big; omega)
       subst hy
       obtain ⟨z, ez, wz, lz⟩ := turnL (k := lk) (v := lv) (s := s') (d := d') wl wx (by rw [lx]; simp) (by rw [lx]; simp only [List.length_append, List.length_cons]; unfold big; omega)
       refine ⟨z, by simp only [ex, ey, ez, Option.bind_some], wz, ?_⟩
       have e1 : x.list = lr.list ++ (k, v) :: r.list := by rw [lx, ← lu]; simp [Tr.list]
       rw [lz, e1]; simp [Tr.list]
      ·obtain ⟨y, ey, wy, ly, s', d', hy⟩ := node_eq (k := lk) (v := lv) wl wu' (by rw [hul]; unfold big; omega)
       subst hy
       obtain ⟨z, ez, wz, lz⟩ := turnL (k := lk) (v := lv) (s := s') (d := d') wl wu' (by simp [Tr.list]) (by rw [hul]; unfold big; omega)
       refine ⟨z, by simp only [ey, ez, Option.bind_some], wz, ?_⟩
       rw [lz, lu]; simp [Tr.list]
     ·obtain ⟨y, ey, wy, ly, _⟩ := node_eq (k := lk) (v := lv) wl wu' (by rw [hul]; unfold big; omega)
      refine ⟨y, by simp only [ey, Option.bind_some], wy, ?_⟩
      rw [ly, lu]; simp [Tr.list]
  ·rw [if_neg c1]
   by_cases c2 : (l.hgt : Int) + 1 < r.hgt
   ·rw [if_pos c2]
    cases r with
    | nil => simp [Tr.hgt] at c2; omega
    | node rl rr rk rv rs rd =>
     obtain ⟨wl, wr', _, _⟩ := hr
     simp only [Tr.hgt] at hn
     simp only [Tr.list, List.length_append, List.length_cons] at hb
     obtain ⟨u, eu, wu, lu⟩ := join_eq n l rl k v (by omega) hl wl (by omega)
     simp only [Tr.cs, eu, Option.bind_some]
     have hul : u.list.length = l.list.length + rl.list.length + 1 := by rw [lu]; simp; omega
     cases u with
     | nil => simp [Tr.list] at lu
     | node ul ur uk uv us ud =>
      have wu' := wu
      obtain ⟨wul, wur, hus, hud⟩ := wu
      simp only [dep_eq wr', dep_eq wul, dep_eq wur, Option.bind_some]
      have h3 := rr.hgt_le
      unfold big at hb
      rw [wr (n := (rr.hgt : Int) + 1) (by omega) (by omega)]
      have hull : ul.list.length + ur.list.length + 1 = l.list.length + rl.list.length + 1 := by rw [← hul]; simp [Tr.list]; omega
      split
      ·split
       ·rename_i c3
        obtain ⟨x, ex, wx, lx⟩ := turnL (k := uk) (v := uv) (s := us) (d := ud) wul wur (hgt_pos (by omega)) (by unfold big; omega)
        obtain ⟨y, ey, wy, ly, s', d', hy⟩ := node_eq (k := rk) (v := rv) wx wr' (by rw [lx]; simp only [List.length_append, List.length_cons]; unfold big; omega)
        subst hy
        obtain ⟨z, ez, wz, lz⟩ := turnR (k := rk) (v := rv) (s := s') (d := d') wx wr' (by rw [lx]; simp) (by rw [lx]; simp only [List.length_append, List.length_cons]; unfold big; omega)
        refine ⟨z, by simp only [ex, ey, ez, Option.bind_some], wz, ?_⟩
        have e1 : x.list = l.list ++ (k, v) :: rl.list := by rw [lx, ← lu]; simp [Tr.list]
        rw [lz, e1]; simp [Tr.list]
       ·obtain ⟨y, ey, wy, ly, s', d', hy⟩ := node_eq (k := rk) (v := rv) wu' wr' (by rw [hul]; unfold big; omega)
        subst hy
        obtain ⟨z, ez, wz, lz⟩ := turnR (k := rk) (v := rv) (s := s') (d := d') wu' wr' (by simp [Tr.list]) (by rw [hul]; unfold big; omega)
        refine ⟨z, by simp only [ey, ez, Option.bind_some], wz, ?_⟩
        rw [lz, lu]; simp [Tr.list]
      ·obtain ⟨y, ey, wy, ly, _⟩ := node_eq (k := rk) (v := rv) wu' wr' (by rw [hul]; unfold big; omega)
       refine ⟨y, by simp only [ey, Option.bind_some], wy, ?_⟩
       rw [ly, lu]; simp [Tr.list]
   ·rw [if_neg c2]
    obtain ⟨y, ey, wy, ly, _⟩ := node_eq (k := k) (v := v) hl hr (by omega)
    exact ⟨y, by simp only [ey, Option.bind_some], wy, ly⟩
def lt (a b : ByteArray) : Bool := Op.bytesLess a.toList b.toList
theorem nan_eq (a : ByteArray) : cmp_isNaN.f a = some false := by simp [cmp_isNaN.f]
theorem compare_eq (a b : ByteArray) : cmp_Compare.f a b = some (if lt a b = true then -1 else if (a.toList == b.toList) = true then 0 else 1) := by
 simp only [cmp_Compare.f, nan_eq, Option.bind_some]
 rw [if_neg (by simp), if_neg (by simp)]
 unfold lt
 split
 ·rfl
 ·rename_i h
  simp [h]
  split <;> rfl
theorem bl_irr : ∀ x : List UInt8, Op.bytesLess x x = false
 | [] => rfl
 | a :: x => by simp [Op.bytesLess, bl_irr x]
theorem bl_tri : ∀ x y : List UInt8, Op.bytesLess x y = false → Op.bytesLess y x = false → x = y
 | [], [], _, _ => rfl
 | [], _ :: _, h, _ => by simp [Op.bytesLess] at h
 | _ :: _, [], _, h => by simp [Op.bytesLess] at h
 | a :: x, b :: y, h1, h2 => by
  simp only [Op.bytesLess, Bool.or_eq_false_iff, Bool.and_eq_false_iff, decide_eq_false_iff_not, beq_eq_false_iff_ne] at h1 h2
  have hab : a = b := by
   have g1 := h1.1; have g2 := h2.1
   simp only [UInt8.lt_iff_toNat_lt] at g1 g2
   exact UInt8.toNat_inj.1 (by omega)
  subst hab
  have e1 := h1.2.resolve_left (fun q => q rfl)
  have e2 := h2.2.resolve_left (fun q => q rfl)
  rw [bl_tri x y e1 e2]
theorem bl_tr : ∀ x y z : List UInt8, Op.bytesLess x y = true → Op.bytesLess y z = true → Op.bytesLess x z = true
 | x, [], [], _, h => by simp [Op.bytesLess] at h
 | x, b :: y, [], _, h => by simp [Op.bytesLess] at h
 | [], [], c :: z, h, _ => by simp [Op.bytesLess] at h
 | a :: x, [], c :: z, h, _ => by simp [Op.bytesLess] at h
 | [], b :: y, c :: z, _, _ => rfl
 | a :: x, b :: y, c :: z, h1, h2 => by
  simp only [Op.bytesLess, Bool.or_eq_true, Bool.and_eq_true, decide_eq_true_eq, beq_iff_eq] at h1 h2 ⊢
  simp only [UInt8.lt_iff_toNat_lt] at h1 h2 ⊢
  rcases h1 with h1 | ⟨rfl, h1⟩
  ·rcases h2 with h2 | ⟨rfl, h2⟩
   ·left; omega
   ·left; exact h1
  ·rcases h2 with h2 | ⟨rfl, h2⟩
   ·left; exact h2
   ·right; exact ⟨rfl, bl_tr x y z h1 h2⟩
theorem toList_inj {a b : ByteArray} (h : a.toList = b.toList) : a = b := by
 rw [ByteArray.toList_eq, ByteArray.toList_eq] at h
 cases a; cases b
 simp only [ByteArray.mk.injEq]
 exact Array.toList_inj.1 h
theorem lt_irr (a : ByteArray) : lt a a = false := bl_irr _
theorem lt_tr {a b c : ByteArray} (h1 : lt a b = true) (h2 : lt b c = true) : lt a c = true := bl_tr _ _ _ h1 h2
theorem lt_tri {a b : ByteArray} (h1 : lt a b = false) (h2 : lt b a = false) : a = b := toList_inj (bl_tri _ _ h1 h2)
def Ord (L : List Ent) : Prop := L.Pairwise fun x y => lt x.1 y.1 = true
def ins (k : ByteArray) (v : table_cell) : List Ent → List Ent
 | [] => [(k, v)]
 | (a, x) :: L => if lt k a = true then (k, v) :: (a, x) :: L else if lt a k = true then (a, x) :: ins k v L else (k, v) :: L
def del (k : ByteArray) : List Ent → List Ent
 | [] => []
 | (a, x) :: L => if lt k a = true then (a, x) :: L else if lt a k = true then (a, x) :: del k L else L
def look (k : ByteArray) : List Ent → Option table_cell
 | [] => none
 | (a, x) :: L => if lt k a = true then none else if lt a k = true then look k L else some x
theorem Ord.split {A B : List Ent} {x : Ent} (h : Ord (A ++ x :: B)) : Ord A ∧ Ord B ∧ (∀ y ∈ A, lt y.1 x.1 = true) ∧ (∀ y ∈ B, lt x.1 y.1 = true) := by
 unfold Ord at h ⊢
 rw [List.pairwise_append] at h
 obtain ⟨h1, h2, h3⟩ := h
 rw [List.pairwise_cons] at h2
 exact ⟨h1, h2.2, fun y hy => h3 y hy x (by simp), h2.1⟩
theorem lt_asym {a b : ByteArray} (h : lt a b = true) : lt b a = false := by
 cases hb : lt b a with
 | false => rfl
 | true => have := lt_tr h hb; rw [lt_irr] at this; cases this
theorem ins_left {k : ByteArray} {v : table_cell} {x : Ent} {B : List Ent} (hk : lt k x.1 = true) : ∀ A : List Ent, ins k v (A ++ x :: B) = ins k v A ++ x :: B
 | [] => by simp [ins, hk]
 | (a, y) :: A => by
  simp only [List.cons_append, ins]
  split
  ·rfl
  ·split
   ·rw [ins_left hk A]; rfl
   ·rfl
theorem ins_right {k : ByteArray} {v : table_cell} {x : Ent} {B : List Ent} (hk : lt x.1 k = true) : ∀ A : List Ent, (∀ y ∈ A, lt y.1 x.1 = true) → ins k v (A ++ x :: B) = A ++ x :: ins k v B
 | [], _ => by simp [ins, hk, lt_asym hk]
 | (a, y) :: A, h => by
  have h1 : lt a k = true := lt_tr (h (a, y) (by simp)) hk
  simp only [List.cons_append, ins, h1, lt_asym h1]
  rw [ins_right hk A (fun y hy => h y (by simp [hy]))]
  simp
theorem ins_here {k : ByteArray} {v y : table_cell} {B : List Ent} : ∀ A : List Ent, (∀ y ∈ A, lt y.1 k = true) → ins k v (A ++ (k, y) :: B) = A ++ (k, v) :: B
 | [], _ => by simp [ins, lt_irr]
 | (a, y) :: A, h => by
  have h1 : lt a k = true := h (a, y) (by simp)
  simp only [List.cons_append, ins, h1, lt_asym h1]
  rw [ins_here A (fun y hy => h y (by simp [hy]))]
  simp
theorem ins_len (k : ByteArray) (v : table_cell) : ∀ L : List Ent, (ins k v L).length ≤ L.length + 1
 | [] => by simp [ins]
 | (a, x) :: L => by
  have := ins_len k v L
  simp only [ins]
  split
  ·simp
  ·split <;> simp <;> omega
theorem put_eq : ∀ (n : Nat) (t : Tr) (k : ByteArray) (v : table_cell), 2 * t.list.length + 3 < n → t.WF → Ord t.list → t.list.length + 1 < big →
  ∃ u, tree_Tree_Put.f n t k v = some u ∧ u.WF ∧ u.list = ins k v t.list
 | 0, _, _, _, h, _, _, _ => absurd h (by omega)
 | n + 1, t, k, v, hn, ht, ho, hb => by
  cases t with
  | nil =>
   obtain ⟨u, eu, wu, lu, _⟩ := node_eq (l := .nil) (r := .nil) (k := k) (v := v) trivial trivial (by simp [Tr.list, big])
   refine ⟨u, ?_, wu, by rw [lu]; rfl⟩
   simp only [tree_Tree_Put.f, eu, Option.bind_some]
   rw [if_pos (by rfl)]
  | node l r a x s d =>
   obtain ⟨wl, wr', _, _⟩ := ht
   obtain ⟨ol, or', hA, hB⟩ := Ord.split (show Ord (l.list ++ (a, x) :: r.list) from ho)
   simp only [Tr.list, List.length_append, List.length_cons] at hn hb
   simp only [tree_Tree_Put.f, Tr.cs, compare_eq, Option.bind_some]
   rw [if_neg (by simp [Tr.isNil])]
   cases h1 : lt k a with
   | true =>
    obtain ⟨u, eu, wu, lu⟩ := put_eq n l k v (by omega) wl ol (by omega)
    have hu := ins_len k v l.list; rw [← lu] at hu
    have g1 := u.hgt_le; have g2 := r.hgt_le
    obtain ⟨z, ez, wz, lz⟩ := join_eq n u r a x (by omega) wu wr' (by omega)
    refine ⟨z, ?_, wz, ?_⟩
    ·simp [eu, ez]
    ·rw [lz, lu]; exact (ins_left (x := (a, x)) h1 l.list).symm
   | false =>
    cases h2 : lt a k with
    | true =>
     have hne : (k.toList == a.toList) = false := by
      cases q : (k.toList == a.toList) with
      | false => rfl
      | true => have := toList_inj (eq_of_beq q); subst this; rw [lt_irr] at h2; cases h2
     obtain ⟨u, eu, wu, lu⟩ := put_eq n r k v (by omega) wr' or' (by omega)
     have hu := ins_len k v r.list; rw [← lu] at hu
     have g1 := u.hgt_le; have g2 := l.hgt_le
     obtain ⟨z, ez, wz, lz⟩ := join_eq n l u a x (by omega) wl wu (by omega)
     refine ⟨z, ?_, wz, ?_⟩
     ·simp [hne, eu, ez]
     ·rw [lz, lu]; exact (ins_right (x := (a, x)) h2 l.list hA).symm
    | false =>
     have he := lt_tri h1 h2
     subst he
     obtain ⟨z, ez, wz, lz, _⟩ := node_eq (k := k) (v := v) wl wr' (by omega)
     refine ⟨z, ?_, wz, ?_⟩
     ·simp [ez]
     ·rw [lz]; exact (ins_here l.list hA).symm
theorem keq {a b : ByteArray} : (a.toList == b.toList) = decide (a = b) := by
 by_cases h : a = b
 ·subst h; simp
 ·rw [decide_eq_false h]
  cases q : (a.toList == b.toList) with
  | false => rfl
  | true => exact absurd (toList_inj (eq_of_beq q)) h
theorem mem_ins {k : ByteArray} {v : table_cell} {y : Ent} : ∀ L : List Ent, y ∈ ins k v L → y = (k, v) ∨ y ∈ L
 | [], h => by simp only [ins, List.mem_singleton] at h; exact Or.inl h
 | (a, x) :: L, h => by
  simp only [ins] at h
  split at h
  ·simp only [List.mem_cons] at h ⊢; exact h
  ·split at h
   ·simp only [List.mem_cons] at h ⊢
    rcases h with h | h
    ·exact Or.inr (Or.inl h)
    ·rcases mem_ins L h with h | h
     ·exact Or.inl h
     ·exact Or.inr (Or.inr h)
   ·simp only [List.mem_cons] at h ⊢
    rcases h with h | h
    ·exact Or.inl h
    ·exact Or.inr (Or.inr h)
theorem mem_del {k : ByteArray} {y : Ent} : ∀ L : List Ent, y ∈ del k L → y ∈ L
 | [], h => by simp [del] at h
 | (a, x) :: L, h => by
  simp only [del] at h
  split at h
  ·exact h
  ·split at h
   ·simp only [List.mem_cons] at h ⊢
    rcases h with h | h
    ·exact Or.inl h
    ·exact Or.inr (mem_del L h)
   ·exact List.mem_cons_of_mem _ h
theorem ins_ord {k : ByteArray} {v : table_cell} : ∀ L : List Ent, Ord L → Ord (ins k v L)
 | [], _ => by simp [ins, Ord]
 | (a, x) :: L, h => by
  have h' := h
  unfold Ord at h'
  rw [List.pairwise_cons] at h'
  simp only [ins]
  split
  ·rename_i c
   unfold Ord
   rw [List.pairwise_cons]
   refine ⟨?_, h⟩
   intro y hy
   rcases List.mem_cons.1 hy with rfl | hy
   ·exact c
   ·exact lt_tr c (h'.1 y hy)
  ·split
   ·rename_i c1 c
    unfold Ord
    rw [List.pairwise_cons]
    refine ⟨?_, ins_ord L h'.2⟩
    intro y hy
    rcases mem_ins L hy with rfl | hy
    ·exact c
    ·exact h'.1 y hy
   ·rename_i c1 c2
    have he : k = a := lt_tri (by simpa using c1) (by simpa using c2)
    subst he
    unfold Ord
    rw [List.pairwise_cons]
    exact ⟨h'.1, h'.2⟩
theorem del_ord {k : ByteArray} : ∀ L : List Ent, Ord L → Ord (del k L)
 | [], _ => by simp [del, Ord]
 | (a, x) :: L, h => by
  have h' := h
  unfold Ord at h'
  rw [List.pairwise_cons] at h'
  simp only [del]
  split
  ·exact h
  ·split
   ·unfold Ord
    rw [List.pairwise_cons]
    exact ⟨fun y hy => h'.1 y (mem_del L hy), del_ord L h'.2⟩
   ·exact h'.2
theorem del_len (k : ByteArray) : ∀ L : List Ent, (del k L).length ≤ L.length
 | [] => by simp [del]
 | (a, x) :: L => by
  have := del_len k L
  simp only [del]
  split
  ·simp
  ·split <;> simp <;> omega
theorem look_left {k : ByteArray} {x : Ent} {B : List Ent} (hk : lt k x.1 = true) : ∀ A : List Ent, look k (A ++ x :: B) = look k A
 | [] => by simp [look, hk]
 | (a, y) :: A => by
  simp only [List.cons_append, look]
  rw [look_left hk A]
theorem look_right {k : ByteArray} {x : Ent} {B : List Ent} (hk : lt x.1 k = true) : ∀ A : List Ent, (∀ y ∈ A, lt y.1 x.1 = true) → look k (A ++ x :: B) = look k B
 | [], _ => by simp [look, hk, lt_asym hk]
 | (a, y) :: A, h => by
  have h1 : lt a k = true := lt_tr (h (a, y) (by simp)) hk
  simp only [List.cons_append, look, h1, lt_asym h1]
  rw [look_right hk A (fun y hy => h y (by simp [hy]))]
  simp
theorem look_here {k : ByteArray} {y : table_cell} {B : List Ent} : ∀ A : List Ent, (∀ y ∈ A, lt y.1 k = true) → look k (A ++ (k, y) :: B) = some y
 | [], _ => by simp [look, lt_irr]
 | (a, y) :: A, h => by
  have h1 : lt a k = true := h (a, y) (by simp)
  simp only [List.cons_append, look, h1, lt_asym h1]
  rw [look_here A (fun y hy => h y (by simp [hy]))]
  simp
theorem look_mem {k : ByteArray} {x : table_cell} : ∀ L : List Ent, look k L = some x → (k, x) ∈ L
 | [], h => by simp [look] at h
 | (a, y) :: L, h => by
  simp only [look] at h
  split at h
  ·cases h
  ·split at h
   ·exact List.mem_cons_of_mem _ (look_mem L h)
   ·rename_i c1 c2
    have he : k = a := lt_tri (by simpa using c1) (by simpa using c2)
    subst he
    cases h
    simp
theorem keqb {k a : ByteArray} (h : lt a k = true) : (k.toList == a.toList) = false := by
 cases q : (k.toList == a.toList) with
 | false => rfl
 | true => have := toList_inj (eq_of_beq q); subst this; rw [lt_irr] at h; cases h
theorem loop_next {S X : Type} {f : S → Option (Ctl S X)} {n : Nat} {s s' : S} (h : f s = some (.next s')) : loop f (n + 1) s = loop f n s' := by
 show (f s).bind _ = _; rw [h]; rfl
theorem loop_done {S X : Type} {f : S → Option (Ctl S X)} {n : Nat} {s : S} {x : X} (h : f s = some (.done x)) : loop f (n + 1) s = some x := by
 show (f s).bind _ = _; rw [h]; rfl
def gotQ (o : Option table_cell) : table_cell × Bool := match o with
 | some x => (x, true)
 | none => (table_cell.mk [] 0, false)
theorem get_eq : ∀ (n : Nat) (t : Tr) (k : ByteArray), t.hgt < n → Ord t.list →
  tree_Tree_Get.f n t k = some (gotQ (look k t.list)) := by
 have key : ∀ (n : Nat) (t : Tr) (k : ByteArray), t.hgt < n → Ord t.list →
  loop (tree_Tree_Get.b1 k) n t = some ((look k t.list).elim (Sum.inl ()) fun x => Sum.inr (x, true)) := by
  intro n
  induction n with
  | zero => intro t k h; omega
  | succ n ih =>
   intro t k hn ho
   cases t with
   | nil => rfl
   | node l r a x s d =>
    obtain ⟨ol, or', hA, hB⟩ := Ord.split (show Ord (l.list ++ (a, x) :: r.list) from ho)
    simp only [Tr.hgt] at hn
    simp only [Tr.list]
    cases h1 : lt k a with
    | true =>
     rw [look_left (x := (a, x)) h1 l.list, loop_next (s' := l)]
     ·exact ih l k (by omega) ol
     ·unfold tree_Tree_Get.b1
      rw [if_neg (by simp [Tr.isNil])]
      simp [Tr.cs, compare_eq, h1]
    | false =>
     cases h2 : lt a k with
     | true =>
      rw [look_right (x := (a, x)) h2 l.list hA, loop_next (s' := r)]
      ·exact ih r k (by omega) or'
      ·unfold tree_Tree_Get.b1
       rw [if_neg (by simp [Tr.isNil])]
       simp [Tr.cs, compare_eq, h1, keqb h2]
     | false =>
      have he := lt_tri h1 h2
      subst he
      rw [look_here l.list hA, loop_done (x := Sum.inr (x, true))]
      ·rfl
      ·unfold tree_Tree_Get.b1
       rw [if_neg (by simp [Tr.isNil])]
       simp [Tr.cs, compare_eq, h1]
 intro n t k hn ho
 unfold tree_Tree_Get.f
 show (loop (tree_Tree_Get.b1 k) n t).bind _ = _
 rw [key n t k hn ho]
 cases look k t.list <;> rfl
section
variable {σ X : Type} (g : σ → ByteArray → table_cell → Option (Ctl σ X))
def foldC : List Ent → σ → Option (Ctl σ X)
 | [], s => some (.next s)
 | (k, v) :: L, s => thenC (g s k v) fun s => foldC L s
theorem thenC_assoc (y : Option (Ctl σ X)) (f h : σ → Option (Ctl σ X)) : thenC (thenC y f) h = thenC y fun s => thenC (f s) h := by
 cases y with
 | none => rfl
 | some c => cases c <;> rfl
theorem foldC_app : ∀ (A B : List Ent) (s : σ), foldC g (A ++ B) s = thenC (foldC g A s) fun s => foldC g B s
 | [], B, s => rfl
 | (k, v) :: A, B, s => by
  show thenC (g s k v) (fun s => foldC g (A ++ B) s) = thenC (thenC (g s k v) fun s => foldC g A s) fun s => foldC g B s
  rw [thenC_assoc]
  congr 1; funext s; exact foldC_app A B s
theorem up_eq : ∀ (t : Tr) (s : σ), Tr.up g t s = foldC g t.list s
 | .nil, s => rfl
 | .node l r k v _ _, s => by
  show thenC (Tr.up g l s) _ = foldC g (l.list ++ (k, v) :: r.list) s
  rw [foldC_app, up_eq l s]
  congr 1; funext s'
  show thenC _ _ = thenC _ _
  congr 1; funext s''; exact up_eq r s''
def above (key : ByteArray) (L : List Ent) : List Ent := L.filter fun e => !lt e.1 key
end
abbrev Fuel (k : Nat) : Prop := 1099511627776 ≤ k
theorem bind_eq {α β : Type} {x : Option α} {f : α → Option β} {a : α} (h : x = some a) : x.bind f = f a := by rw [h]; rfl
theorem shr7 (n : Nat) : shr .i64 (n : Int) 7 = ((n / 128 : Nat) : Int) := by
 unfold shr
 have : (2 : Int) ^ (min (7 : Int).toNat IntKind.i64.bits) = 128 := by decide
 rw [this, Int.fdiv_eq_ediv_of_nonneg _ (by omega)]
 omega
theorem shr7u (n : Nat) : shr .u64 (n : Int) 7 = ((n / 128 : Nat) : Int) := by
 unfold shr
 have : (2 : Int) ^ (min (7 : Int).toNat IntKind.u64.bits) = 128 := by decide
 rw [this, Int.fdiv_eq_ediv_of_nonneg _ (by omega)]
 omega
def nmF : Nat → Nat → Nat
 | 0, _ => 0
 | f + 1, n => if n ≤ 127 then 0 else nmF f (n / 128) + 1
def nm (n : Nat) : Nat := 1 + nmF 9 n
theorem nmF_le : ∀ f n, nmF f n ≤ f
 | 0, _ => Nat.le_refl _
 | f + 1, n => by
  have := nmF_le f (n / 128)
  unfold nmF; split <;> omega
theorem num_loop : ∀ (f n s k : Nat), n < 128 ^ f → f < k → s + f < 1000 → loop (fun (s_ : Int × Int) => table_num.b1 s_.1 s_.2) k ((n : Int), (s : Int)) = some ((s + nmF f n : Nat) : Int)
 | _, _, _, 0, _, h, _ => absurd h (by omega)
 | 0, n, s, k + 1, h, _, _ => by
  have : n = 0 := by simpa using h
  subst this
  rw [loop_done (x := (s : Int))]
  ·simp [nmF]
  ·simp [table_num.b1]
 | f + 1, n, s, k + 1, h, hk, hs => by
  by_cases c : n ≤ 127
  ·rw [loop_done (x := (s : Int))]
   ·simp [nmF, c]
   ·unfold table_num.b1; rw [if_neg (by omega)]
  ·have hd : n / 128 < 128 ^ f := by rw [Nat.pow_succ] at h; omega
   rw [loop_next (s' := (((n / 128 : Nat) : Int), ((s + 1 : Nat) : Int)))]
   ·rw [num_loop f (n / 128) (s + 1) k hd (by omega) (by omega)]
    simp only [nmF, if_neg c]; congr 2; omega
   ·unfold table_num.b1
    rw [if_pos (by omega), shr7, wr (by omega) (by omega)]
    congr 3
theorem num_eq {k n : Nat} (hk : Fuel k) (hn : n < 9223372036854775808) : table_num.f k (n : Int) = some (nm n : Int) := by
 unfold table_num.f
 rw [show ((n : Int), (1 : Int)) = ((n : Int), ((1 : Nat) : Int)) from rfl, bind_eq (num_loop 9 n 1 k (by omega) (by omega) (by omega))]
 rfl
def lg (k : ByteArray) (c : table_cell) : Int := nm k.size + k.size + nm c.value.length + c.value.length + nm c.rev.toNat
def sz (L : List Ent) : Int := (L.map fun e => lg e.1 e.2).sum
structure Inv (L : List Ent) (r : Nat) : Prop where
 ord : Ord L
 len : L.length ≤ r
 ent : ∀ e ∈ L, 1 ≤ e.1.size ∧ e.1.size ≤ 64 ∧ e.2.value.length ≤ 256 ∧ 1 ≤ e.2.rev ∧ e.2.rev ≤ r
theorem nm_le (n : Nat) : 1 ≤ nm n ∧ nm n ≤ 10 := by have := nmF_le 9 n; unfold nm; omega
theorem lg_le {k : ByteArray} {c : table_cell} (h1 : k.size ≤ 64) (h2 : c.value.length ≤ 256) : 0 ≤ lg k c ∧ lg k c ≤ 400 := by
 have := nm_le k.size; have := nm_le c.value.length; have := nm_le c.rev.toNat
 unfold lg; omega
theorem sz_le : ∀ {L : List Ent} {r : Nat}, (∀ e ∈ L, 1 ≤ e.1.size ∧ e.1.size ≤ 64 ∧ e.2.value.length ≤ 256 ∧ 1 ≤ e.2.rev ∧ e.2.rev ≤ (r : Int)) → 0 ≤ sz L ∧ sz L ≤ 400 * L.length
 | [], _, _ => by simp [sz]
 | e :: L, r, h => by
  have h1 := sz_le (L := L) (r := r) (fun x hx => h x (by simp [hx]))
  have h2 := h e (by simp)
  have h3 := lg_le h2.2.1 h2.2.2.1
  simp only [sz, List.map_cons, List.sum_cons, List.length_cons] at h1 ⊢
  omega
theorem long_eq {k : Nat} (hk : Fuel k) {key : ByteArray} {c : table_cell} (h1 : key.size ≤ 64) (h2 : c.value.length ≤ 256) (h3 : 0 ≤ c.rev) (h4 : c.rev ≤ 1099511627776) : table_long.f k key c = some (lg key c) := by
 have e3 : (c.rev : Int) = ((c.rev.toNat : Nat) : Int) := by omega
 have := nm_le key.size; have := nm_le c.value.length; have := nm_le c.rev.toNat
 unfold table_long.f
 rw [bind_eq (num_eq hk (n := key.size) (by omega)), bind_eq (num_eq hk (n := c.value.length) (by omega)), e3, bind_eq (num_eq hk (n := c.rev.toNat) (by omega))]
 rw [wr (n := (nm key.size : Int) + key.size) (by omega) (by omega), wr (n := (nm key.size : Int) + key.size + nm c.value.length) (by omega) (by omega), wr (n := (nm key.size : Int) + key.size + nm c.value.length + c.value.length) (by omega) (by omega), wr (by omega) (by omega)]
 rfl
theorem sz_cons (e : Ent) (L : List Ent) : sz (e :: L) = lg e.1 e.2 + sz L := by simp [sz]
theorem sz_ins (k : ByteArray) (v : table_cell) : ∀ L : List Ent, sz (ins k v L) = sz L + lg k v - (look k L).elim 0 (fun o => lg k o)
 | [] => by simp [ins, look, sz]
 | (a, x) :: L => by
  simp only [ins, look]
  split
  ·simp only [sz_cons, Option.elim]; omega
  ·split
   ·rw [sz_cons, sz_cons, sz_ins k v L]; omega
   ·rename_i c1 c2
    have he : k = a := lt_tri (by simpa using c1) (by simpa using c2)
    subst he
    simp only [sz_cons, Option.elim]; omega
theorem Inv.look {L : List Ent} {r : Nat} (h : Inv L r) {k : ByteArray} {c : table_cell} (hl : look k L = some c) : 1 ≤ k.size ∧ k.size ≤ 64 ∧ c.value.length ≤ 256 ∧ 1 ≤ c.rev ∧ c.rev ≤ r := h.ent _ (look_mem L hl)
theorem Inv.ins {L : List Ent} {r : Nat} (h : Inv L r) {k : ByteArray} {v : List Int} (h1 : 1 ≤ k.size) (h2 : k.size ≤ 64) (h3 : v.length ≤ 256) : Inv (ins k ⟨v, r + 1⟩ L) (r + 1) := by
 refine ⟨ins_ord L h.ord, ?_, fun e he => ?_⟩
 ·have := ins_len k ⟨v, r + 1⟩ L; have := h.len; omega
 ·rcases mem_ins L he with rfl | he
  ·exact ⟨h1, h2, h3, by show (1 : Int) ≤ (r : Int) + 1; omega, by show (r : Int) + 1 ≤ ((r + 1 : Nat) : Int); omega⟩
  ·have := h.ent e he; refine ⟨this.1, this.2.1, this.2.2.1, this.2.2.2.1, ?_⟩; have := this.2.2.2.2; omega
theorem Inv.del {L : List Ent} {r : Nat} (h : Inv L r) (k : ByteArray) : Inv (del k L) (r + 1) := by
 refine ⟨del_ord L h.ord, ?_, fun e he => ?_⟩
 ·have := del_len k L; have := h.len; omega
 ·have := h.ent e (mem_del L he); refine ⟨this.1, this.2.1, this.2.2.1, this.2.2.2.1, ?_⟩; have := this.2.2.2.2; omega
theorem Inv.up {L : List Ent} {r : Nat} (h : Inv L r) : Inv L (r + 1) := by
 refine ⟨h.ord, by have := h.len; omega, fun e he => ?_⟩
 have := h.ent e he; refine ⟨this.1, this.2.1, this.2.2.1, this.2.2.2.1, ?_⟩; have := this.2.2.2.2; omega
def Rep (t : Option Tab) (L : List Ent) (r : Nat) : Prop := ∃ rows, t = some ⟨rows, r, sz L⟩ ∧ rows.WF ∧ rows.list = L ∧ Inv L r
def told (r : Int) (k : ByteArray) (o : Option table_cell) : api_Answer := match o with
 | some c => ⟨true, sb k, c.value, c.rev, r⟩
 | none => ⟨false, [], [], 0, r⟩
def zeroA : api_Answer := ⟨false, [], [], 0, 0⟩
def keyok (o : api_Op) : Bool := decide (0 < o.Key.length) && decide (o.Key.length ≤ 64)
def right (o : api_Op) : Bool :=
 if o.Kind = 4 then keyok o && decide (o.Value.length ≤ 256) && decide (0 ≤ o.Rev) && decide (o.Rev ≤ 1099511627776)
 else if o.Kind = 2 then keyok o && decide (o.Value.length ≤ 256) && decide (o.Rev = 0)
 else if o.Kind = 5 then decide (o.Key.length ≤ 65) && decide (o.Value.length = 0) && decide (o.Rev = 0)
 else if o.Kind = 1 ∨ o.Kind = 3 then keyok o && decide (o.Value.length = 0) && decide (o.Rev = 0)
 else false
theorem bs_size (l : List Int) : (bs l).size = l.length := by simp [bs, ByteArray.size]
def okE (e : Ent) : Prop := e.1.size ≤ 64 ∧ e.2.value.length ≤ 256 ∧ 0 ≤ e.2.rev ∧ e.2.rev ≤ 1099511627776
theorem sz_ok : ∀ {L : List Ent}, (∀ e ∈ L, okE e) → 0 ≤ sz L ∧ sz L ≤ 400 * L.length
 | [], _ => by simp [sz]
 | e :: L, h => by
  have h1 := sz_ok (L := L) (fun x hx => h x (by simp [hx]))
  have h2 := h e (by simp)
  have h3 := lg_le h2.1 h2.2.1
  simp only [sz, List.map_cons, List.sum_cons, List.length_cons] at h1 ⊢
  omega
theorem set_put0 {k : Nat} (hk : Fuel k) {rows : Tr} {L : List Ent} {R : Int} (hlen : L.length < 10000000000) (hw : rows.WF) (hl : rows.list = L) (ho : Ord L) (hE : ∀ e ∈ L, okE e) {key : ByteArray} {c : table_cell} (hc : okE (key, c)) :
  ∃ u, table_Table_set.f k (some ⟨rows, R, sz L⟩) key c true = some (some ⟨u, R, sz (ins key c L)⟩) ∧ u.WF ∧ u.list = ins key c L := by
 subst hl
 have hh := rows.hgt_le
 obtain ⟨u, eu, wu, lu⟩ := put_eq k rows key c (by have : 1099511627776 ≤ k := hk; omega) hw ho (by unfold big; omega)
 have hsz := sz_ok hE
 have hlg := lg_le (k := key) (c := c) hc.1 hc.2.1
 have hlk : 0 ≤ (look key rows.list).elim 0 (fun o => lg key o) ∧ (look key rows.list).elim 0 (fun o => lg key o) ≤ 400 := by
  cases h : look key rows.list with
  | none => simp
  | some x => have := hE _ (look_mem _ h); exact lg_le (k := key) (c := x) this.1 this.2.1
 have hput : table_Table_set.j1 k key c true ⟨rows, R, sz rows.list⟩ (sz rows.list - (look key rows.list).elim 0 (fun o => lg key o)) = some (some ⟨u, R, sz (ins key c rows.list)⟩) := by
  unfold table_Table_set.j1
  rw [if_pos rfl, bind_eq eu, bind_eq (long_eq hk (key := key) (c := c) hc.1 hc.2.1 hc.2.2.1 hc.2.2.2)]
  rw [sz_ins]
  rw [wr (by omega) (by omega)]
  simp only [Option.some.injEq, Tab.mk.injEq, true_and]; omega
 refine ⟨u, ?_, wu, lu⟩
 unfold table_Table_set.f
 simp only [Option.bind_some]
 rw [bind_eq (get_eq k rows key (by have : 1099511627776 ≤ k := hk; omega) ho)]
 cases h : look key rows.list with
 | none =>
  rw [h] at hput
  simp only [Option.elim, Int.sub_zero] at hput
  rw [if_neg (by simp [gotQ])]
  exact hput
 | some x =>
  have hx := hE _ (look_mem _ h)
  rw [h] at hput
  simp only [Option.elim] at hput
  have hL : table_long.f k key (gotQ (some x)).1 = some (lg key x) := long_eq hk (c := x) hx.1 hx.2.1 hx.2.2.1 hx.2.2.2
  rw [if_pos (show (gotQ (some x)).2 = true from rfl), bind_eq hL]
  have := lg_le (k := key) (c := x) hx.1 hx.2.1
  rw [wr (by omega) (by omega)]
  exact hput
def act (L : List Ent) (r : Nat) (o : api_Op) : api_Answer × Int × List Ent × Nat :=
 if right o = false then (zeroA, 131, L, r)
 else if o.Kind = 5 then ((match above (bs o.Key) L with | [] => told r .empty none | (k, v) :: _ => told r k (some v)), 0, L, r)
 else if o.Kind = 1 then (told r (bs o.Key) (look (bs o.Key) L), 0, L, r)
 else if o.Kind = 3 then (told ((r : Int) + 1) (bs o.Key) (look (bs o.Key) L), 0, del (bs o.Key) L, r + 1)
 else if o.Kind = 2 ∨ (look (bs o.Key) L).elim 0 (fun c => c.rev) = o.Rev then ({ told ((r : Int) + 1) (bs o.Key) (look (bs o.Key) L) with Done := true }, 0, ins (bs o.Key) ⟨o.Value, r + 1⟩ L, r + 1)
 else ({ told ((r : Int) + 1) (bs o.Key) (look (bs o.Key) L) with Done := false }, 0, L, r + 1)
theorem rd_eq {α : Type} [Inhabited α] {xs : List α} {i : Nat} (h : i < xs.length) : rd xs (i : Int) = xs[i] := by
 unfold rd
 rw [Int.toNat_natCast, List.getD_eq_getElem?_getD, List.getElem?_eq_getElem h]
 rfl
theorem wrS (i : Nat) (h : i < 1000000000000) : IntKind.i64.wrap ((i : Int) + 1) = ((i + 1 : Nat) : Int) := by rw [wr (by omega) (by omega)]; omega
abbrev St := List Ent × Nat
def stepS (s : St) (o : api_Op) : St := (act s.1 s.2 o).2.2
def run (s : St) (ops : List api_Op) : St := ops.foldl stepS s
abbrev RepS (t : Option Tab) (s : St) : Prop := Rep t s.1 s.2
theorem loop_inv {S X : Type} {f : S → Option (Ctl S X)} {I : Nat → S → Prop} {P : X → Prop} {N : Nat}
  (step : ∀ i s, i < N → I i s → (∃ s', f s = some (.next s') ∧ I (i + 1) s') ∨ (∃ x, f s = some (.done x) ∧ P x))
  (last : ∀ s, I N s → ∃ x, f s = some (.done x) ∧ P x) : ∀ (n i : Nat) (s : S) (m : Nat), I i s → i + n = N → n < m → ∃ x, loop f m s = some x ∧ P x
 | _, _, _, 0, _, _, h => absurd h (by omega)
 | 0, i, s, m + 1, hI, hN, _ => by
  obtain rfl : i = N := by omega
  obtain ⟨x, h1, h2⟩ := last s hI
  exact ⟨x, loop_done h1, h2⟩
 | n + 1, i, s, m + 1, hI, hN, hm => by
  rcases step i s (by omega) hI with ⟨s', h1, h2⟩ | ⟨x, h1, h2⟩
  ·rw [loop_next h1]
   exact loop_inv step last n (i + 1) s' m h2 (by omega) (by omega)
  ·exact ⟨x, loop_done h1, h2⟩
def fmP : Nat → Nat → List Int
 | 0, _ => []
 | f + 1, n => if n ≤ 127 then [] else bor .u8 (IntKind.u8.wrap n) 128 :: fmP f (n / 128)
def fmL : Nat → Nat → Nat
 | 0, n => n
 | f + 1, n => if n ≤ 127 then n else fmL f (n / 128)
def fm (n : Nat) : List Int := fmP 9 n ++ [IntKind.u8.wrap (fmL 9 n)]
theorem fmP_len : ∀ f n, (fmP f n).length = nmF f n
 | 0, _ => rfl
 | f + 1, n => by
  unfold fmP nmF
  split
  ·rfl
  ·rw [List.length_cons, fmP_len f]
theorem fm_len (n : Nat) : (fm n).length = nm n := by unfold fm nm; rw [List.length_append, fmP_len]; simp; omega
theorem form_loop : ∀ (f n k : Nat) (l : List Int), n < 128 ^ f → f < k → l.length + f < 1000 → loop (fun (s_ : Int × List Int) => parcel_form.b1 s_.1 s_.2) k ((n : Int), l) = some ((fmL f n : Int), l ++ fmP f n)
 | _, _, 0, _, _, h, _ => absurd h (by omega)
 | 0, n, k + 1, l, h, _, _ => by
  have : n = 0 := by simpa using h
  subst this
  rw [loop_done (x := ((0 : Int), l))]
  ·simp [fmP, fmL]
  ·simp [parcel_form.b1]
 | f + 1, n, k + 1, l, h, hk, hs => by
  by_cases c : n ≤ 127
  ·rw [loop_done (x := ((n : Int), l))]
   ·simp [fmP, fmL, c]
   ·unfold parcel_form.b1; rw [if_neg (by omega)]
  ·have hd : n / 128 < 128 ^ f := by rw [Nat.pow_succ] at h; omega
   rw [loop_next (s' := (((n / 128 : Nat) : Int), l ++ [bor .u8 (IntKind.u8.wrap n) 128]))]
   ·rw [form_loop f (n / 128) k _ hd (by omega) (by simp; omega)]
    simp [fmP, fmL, c]
   ·unfold parcel_form.b1
    rw [if_pos (by omega), if_pos (by simp; omega), shr7u]
theorem form_eq {k n : Nat} (hk : Fuel k) (hn : n < 9223372036854775808) : parcel_form.f k (n : Int) = some (fm n) := by
 have h24 : 1099511627776 ≤ k := hk
 have := nmF_le 9 n
 unfold parcel_form.f
 rw [if_pos (by decide), bind_eq (form_loop 9 n k _ (by omega) (by omega) (by simp))]
 unfold parcel_form.j2
 simp only [Int.toNat_zero, List.replicate_zero, List.nil_append]
 rw [if_pos (by rw [fmP_len]; simp; omega)]
 rfl
theorem wru {n : Int} (h0 : 0 ≤ n) (h1 : n < 9223372036854775808) : IntKind.u64.wrap n = n := by
 simp only [IntKind.wrap, IntKind.bits, IntKind.signed]; simp; omega
abbrev W (room : Int) (b : List Int) : Option Wri := some ⟨room, b, [], 0⟩
theorem lay_eq {room : Int} {b a : List Int} (h1 : (b.length + a.length : Nat) ≤ room) (h2 : room ≤ 1000000000000) : parcel_Writer_lay.f (W room b) a = some (W room (b ++ a)) := by
 unfold parcel_Writer_lay.f parcel_Writer_whole.f
 simp only [Option.isNone_some, Bool.false_eq_true, if_false, Option.bind_some, decide_true, if_true]
 rw [wr (by omega) (by omega), if_neg (by omega), if_pos (by omega)]
theorem Num_eq {k : Nat} (hk : Fuel k) {room : Int} {b : List Int} {n : Nat} (hn : n < 9223372036854775808) (h1 : (b.length + (fm n).length : Nat) ≤ room) (h2 : room ≤ 1000000000000) :
  parcel_Writer_Num.f k (W room b) (n : Int) = some (W room (b ++ fm n)) := by
 unfold parcel_Writer_Num.f
 rw [bind_eq (form_eq hk hn), bind_eq (lay_eq h1 h2)]
theorem concat_eq {k : Nat} (hk : Fuel k) {x y : List Int} (h : x.length + y.length < 2000000000000) : slices_Concat.f k [x, y] = some (x ++ y) := by
 have h24 : 1099511627776 ≤ k := hk
 obtain ⟨q, rfl⟩ : ∃ q, k = q + 1 + 1 + 1 := ⟨k - 3, by omega⟩
 unfold slices_Concat.f
 have e1 : loop (fun (s_ : Int × Int) => slices_Concat.b1 [x, y] s_.1 s_.2) (q + 1 + 1 + 1) (0, 0) = some ((x.length + y.length : Nat) : Int) := by
  rw [loop_next (s' := ((x.length : Int), (1 : Int)))]
  ·rw [loop_next (s' := (((x.length + y.length : Nat) : Int), (2 : Int)))]
   ·refine loop_done ?_
    simp [slices_Concat.b1]
   ·have r1 : rd [x, y] 1 = y := rfl
    have w1 : IntKind.i64.wrap ((x.length : Int) + (y.length : Int)) = ((x.length + y.length : Nat) : Int) := by rw [wr (by omega) (by omega)]; omega
    unfold slices_Concat.b1
    simp only [r1, w1]
    rw [if_pos (by simp), if_pos (by simp), if_neg (by omega)]
    rfl
  ·have r1 : rd [x, y] 0 = x := rfl
   have w1 : IntKind.i64.wrap (0 + (x.length : Int)) = (x.length : Int) := by rw [wr (by omega) (by omega)]; omega
   unfold slices_Concat.b1
   simp only [r1, w1]
   rw [if_pos (by simp), if_pos (by simp), if_neg (by omega)]
   rfl
 rw [bind_eq e1]
 unfold slices_Concat.j2
 have e2 : slices_Grow.f [] ((x.length + y.length : Nat) : Int) = some [] := by
  unfold slices_Grow.f; rw [if_pos ⟨by omega, by omega, rfl⟩]
 rw [bind_eq e2]
 have e3 : loop (fun (s_ : (List Int) × Int) => slices_Concat.b3 [x, y] s_.1 s_.2) (q + 1 + 1 + 1) ([], 0) = some (x ++ y) := by
  rw [loop_next (s' := (x, (1 : Int)))]
  ·rw [loop_next (s' := (x ++ y, (2 : Int)))]
   ·refine loop_done ?_
    simp [slices_Concat.b3]
   ·have r1 : rd [x, y] 1 = y := rfl
    unfold slices_Concat.b3
    simp only [r1]
    rw [if_pos (by simp), if_pos (by simp), if_pos (by omega)]
    rfl
  ·have r1 : rd [x, y] 0 = x := rfl
   unfold slices_Concat.b3
   simp only [r1]
   rw [if_pos (by simp), if_pos (by simp), if_pos (by simp; omega)]
   rfl
 rw [bind_eq e3]
 rfl
theorem Text_eq {k : Nat} (hk : Fuel k) {room : Int} {b a : List Int} (h1 : (b.length + (fm a.length).length + a.length : Nat) ≤ room) (h2 : room ≤ 1000000000000) :
  parcel_Writer_Text.f k (W room b) a = some (W room (b ++ (fm a.length ++ a))) := by
 have := fm_len a.length; have := nm_le a.length
 have e : ((b.length + (fm a.length ++ a).length : Nat) : Int) ≤ room := by rw [List.length_append]; omega
 unfold parcel_Writer_Text.f
 rw [wru (by omega) (by omega), bind_eq (form_eq hk (by omega)), bind_eq (concat_eq hk (by omega)), bind_eq (lay_eq e h2)]
def ef (e : Ent) : List Int := (fm e.1.size ++ sb e.1) ++ ((fm e.2.value.length ++ e.2.value) ++ fm e.2.rev.toNat)
theorem sb_len (k : ByteArray) : (sb k).length = k.size := by unfold sb; rw [List.length_map]; rfl
theorem ef_len (e : Ent) : ((ef e).length : Int) = lg e.1 e.2 := by
 unfold ef lg
 simp only [List.length_append, fm_len, sb_len]; omega
theorem bytes_fold {k : Nat} (hk : Fuel k) {room : Int} (h2 : room ≤ 1000000000000) {r : Nat} (hr : r ≤ 1099511627776) : ∀ (L : List Ent) (b : List Int), (∀ e ∈ L, 1 ≤ e.1.size ∧ e.1.size ≤ 64 ∧ e.2.value.length ≤ 256 ∧ 1 ≤ e.2.rev ∧ e.2.rev ≤ (r : Int)) → b.length + sz L ≤ room →
  foldC (fun (s_ : (Option Wri)) (k_ : ByteArray) (v_ : table_cell) => table_Table_Bytes.b1 k s_ k_ v_) L (W room b) = some (.next (W room (b ++ L.flatMap ef)))
 | [], b, _, _ => by simp [foldC]
 | e :: L, b, h, hb => by
  have he := h e (by simp)
  have h3 := sz_le (L := L) (r := r) (fun x hx => h x (by simp [hx]))
  rw [sz_cons] at hb
  have hl := ef_len e
  have hl' := hl
  unfold lg at hl'
  have f1 := fm_len e.1.size; have f2 := fm_len e.2.value.length; have f3 := fm_len e.2.rev.toNat
  have hs := sb_len e.1
  have hrev : e.2.rev = ((e.2.rev.toNat : Nat) : Int) := by omega
  have step : table_Table_Bytes.b1 k (W room b) e.1 e.2 = some (Ctl.next (W room (b ++ ef e))) := by
   unfold table_Table_Bytes.b1
   rw [if_pos (by omega), bind_eq (Text_eq hk (a := sb e.1) (by rw [hs]; omega) h2), bind_eq (Text_eq hk (a := e.2.value) (by simp only [List.length_append, hs]; omega) h2), hrev, wru (by omega) (by omega),
    bind_eq (Num_eq hk (n := e.2.rev.toNat) (by omega) (by simp only [List.length_append, hs]; omega) h2)]
   unfold ef
   rw [hs]
   simp only [List.append_assoc]
  show thenC (table_Table_Bytes.b1 k (W room b) e.1 e.2) _ = _
  rw [step]
  show foldC _ L (W room (b ++ ef e)) = _
  rw [bytes_fold hk h2 hr L (b ++ ef e) (fun x hx => h x (by simp [hx])) (by simp only [List.length_append]; omega)]
  simp
def form (s : St) : List Int := fm s.2 ++ fm s.1.length ++ s.1.flatMap ef
theorem done_eq {room : Int} {b : List Int} (h : b.length ≤ 1000000000000) : parcel_Writer_Done.f (W room b) = some (b, 0) := by
 unfold parcel_Writer_Done.f
 simp only [Option.isNone_some, Bool.false_eq_true, if_false, Option.bind_some, if_true, List.length_nil]
 rw [if_neg (by omega), if_pos (by omega)]
 simp
theorem RepS.inv {t : Option Tab} {s : St} (hT : RepS t s) : Inv s.1 s.2 := by obtain ⟨rows, _, _, _, hI⟩ := hT; exact hI
theorem size_eq0 {k : Nat} (hk : Fuel k) {t : Option Tab} {s : St} (hl0 : s.1.length < 2000000000) (hr : s.2 ≤ 1099511627776) (hT : RepS t s) : table_Table_Size.f k t = some (nm s.2 + nm s.1.length + sz s.1) := by
 obtain ⟨rows, rfl, hw, hl, hI⟩ := hT
 have hlen := hI.len
 have hsz := sz_le hI.ent
 have := nm_le s.2; have := nm_le s.1.length
 unfold table_Table_Size.f
 simp only [Option.isNone_some, Bool.false_eq_true, if_false, Option.bind_some]
 rw [bind_eq (num_eq hk (n := s.2) (by omega)), bind_eq (len_eq hw), hl, bind_eq (num_eq hk (n := s.1.length) (by omega)), wr (n := (nm s.2 : Int) + nm s.1.length) (by omega) (by omega), wr (by omega) (by omega)]
theorem flat_len : ∀ L : List Ent, ((L.flatMap ef).length : Int) = sz L
 | [] => rfl
 | e :: L => by rw [List.flatMap_cons, List.length_append, sz_cons, ← flat_len L, ← ef_len]; omega
theorem bytes_eq0 {k : Nat} (hk : Fuel k) {t : Option Tab} {s : St} (hl0 : s.1.length < 2000000000) (hr : s.2 ≤ 1099511627776) (hT : RepS t s) : table_Table_Bytes.f k t = some (form s) := by
 have hS := size_eq0 hk hl0 hr hT
 obtain ⟨rows, rfl, hw, hl, hI⟩ := hT
 have hlen := hI.len
 have hsz := sz_le hI.ent
 have h1 := nm_le s.2; have h2 := nm_le s.1.length
 have f1 := fm_len s.2; have f2 := fm_len s.1.length
 unfold table_Table_Bytes.f
 rw [if_neg (by simp), bind_eq hS]
 have e0 : parcel_New.f (nm s.2 + nm s.1.length + sz s.1) = some (W (nm s.2 + nm s.1.length + sz s.1) []) := by
  unfold parcel_New.f
  rw [Int.max_eq_left (by omega)]
 rw [bind_eq e0]
 simp only [Option.bind_some]
 rw [wru (by omega) (by omega), bind_eq (Num_eq hk (n := s.2) (by omega) (by simp only [List.length_nil]; omega) (by omega)), bind_eq (len_eq hw), hl, wru (by omega) (by omega),
  bind_eq (Num_eq hk (n := s.1.length) (by omega) (by simp only [List.length_append, List.length_nil]; omega) (by omega))]
 show (some (It.all rows)).bind _ = _
 rw [Option.bind_some]
 show (Tr.up _ rows _).bind _ = _
 rw [up_eq, hl, bind_eq (bytes_fold hk (by omega) hr s.1 _ hI.ent (by simp only [List.length_append, List.length_nil]; omega))]
 have hfl := flat_len s.1
 show (parcel_Writer_Done.f _).bind _ = _
 rw [bind_eq (done_eq (by simp only [List.length_append, List.length_nil]; omega))]
 simp [form]
theorem Rev_eq {t : Option Tab} {s : St} (hT : RepS t s) : table_Table_Rev.f t = some (s.2 : Int) := by
 obtain ⟨rows, rfl, hw, hl, hI⟩ := hT
 rfl
theorem Len_eq {t : Option Tab} {s : St} (hT : RepS t s) : table_Table_Len.f t = some (s.1.length : Int) := by
 obtain ⟨rows, rfl, hw, hl, hI⟩ := hT
 unfold table_Table_Len.f
 rw [if_neg (by simp)]
 show (tree_Tree_Len.f rows).bind _ = _
 rw [bind_eq (len_eq hw), hl]
def rowOf (e : Ent) : api_Row := ⟨sb e.1, e.2.value, e.2.rev⟩
theorem rows_fold : ∀ (L : List Ent) (b : List api_Row), (∀ e ∈ L, e.1.size ≤ 64 ∧ e.2.value.length ≤ 256) → b.length + L.length ≤ 2000000000 →
  foldC (X := Unit) (fun (s_ : List api_Row) (k_ : ByteArray) (v_ : table_cell) => table_Table_Rows.b1 s_ k_ v_) L b = some (.next (b ++ L.map rowOf))
 | [], b, _, _ => by simp [foldC]
 | e :: L, b, h, hb => by
  have he := h e (by simp)
  rw [List.length_cons] at hb
  have step : table_Table_Rows.b1 b e.1 e.2 = some (Ctl.next (b ++ [rowOf e])) := by
   unfold table_Table_Rows.b1 bytes_Clone.f
   rw [if_pos (by omega), if_pos (by omega), Option.bind_some, if_pos (by simp only [List.length_singleton]; omega)]
   rfl
  show thenC (table_Table_Rows.b1 b e.1 e.2) _ = _
  rw [step]
  show foldC _ L (b ++ [rowOf e]) = _
  rw [rows_fold L _ (fun x hx => h x (by simp [hx])) (by simp; omega)]
  simp
theorem Rows_eq0 {t : Option Tab} {s : St} (hl0 : s.1.length < 2000000000) (hT : RepS t s) : table_Table_Rows.f t = some (s.1.map rowOf) := by
 obtain ⟨rows, rfl, hw, hl, hI⟩ := hT
 have hlen := hI.len
 unfold table_Table_Rows.f
 rw [if_neg (by simp)]
 show (Tr.up _ rows _).bind _ = _
 rw [up_eq, hl, bind_eq (rows_fold s.1 [] (fun e he => ⟨(hI.ent e he).2.1, (hI.ent e he).2.2.1⟩) (by simp; omega))]
 rfl
theorem or128 : ∀ x : Fin 256, x.val ||| 128 = x.val % 128 + 128 := by decide +kernel
theorem and127 : ∀ x : Fin 256, x.val &&& 127 = x.val % 128 := by decide +kernel
theorem wr8 (n : Nat) : IntKind.u8.wrap (n : Int) = ((n % 256 : Nat) : Int) := by
 simp only [IntKind.wrap, IntKind.bits, IntKind.signed]; simp
theorem bv8 (n : Nat) (h : n < 256) : (BitVec.ofInt IntKind.u8.bits (n : Int)) = BitVec.ofNat 8 n := by
 show BitVec.ofInt 8 (n : Int) = _
 rw [BitVec.ofInt_natCast]
theorem bor8 (n : Nat) : bor .u8 (IntKind.u8.wrap (n : Int)) 128 = ((n % 128 + 128 : Nat) : Int) := by
 rw [wr8]
 unfold bor
 rw [bv8 (n % 256) (by omega)]
 show IntKind.u8.wrap ((BitVec.ofNat 8 (n % 256) ||| BitVec.ofInt 8 128).toNat : Int) = _
 have e : (BitVec.ofNat 8 (n % 256) ||| BitVec.ofInt 8 128).toNat = (n % 256) ||| 128 := by
  rw [BitVec.toNat_or, BitVec.toNat_ofNat]
  have : (BitVec.ofInt 8 128).toNat = 128 := by decide
  rw [this, Nat.mod_eq_of_lt (show n % 256 < 2 ^ 8 by omega)]
 rw [e, or128 ⟨n % 256, by omega⟩, wr8]
 congr 1
 show (n % 256 % 128 + 128) % 256 = n % 128 + 128
 omega
theorem band8 {c : Int} (h0 : 0 ≤ c) (h1 : c ≤ 255) : band .u8 c 127 = c % 128 := by
 obtain ⟨n, rfl⟩ := Int.eq_ofNat_of_zero_le h0
 unfold band
 rw [bv8 n (by omega)]
 show IntKind.u8.wrap ((BitVec.ofNat 8 n &&& BitVec.ofInt 8 127).toNat : Int) = _
 have e : (BitVec.ofNat 8 n &&& BitVec.ofInt 8 127).toNat = n &&& 127 := by
  rw [BitVec.toNat_and, BitVec.toNat_ofNat]
  have : (BitVec.ofInt 8 127).toNat = 127 := by decide
  rw [this, Nat.mod_eq_of_lt (show n < 2 ^ 8 by omega)]
 rw [e, and127 ⟨n, by omega⟩, wr8]
 show ((n % 128 % 256 : Nat) : Int) = (n : Int) % 128
 omega
theorem wr64 {n : Nat} (h : n < 2 ^ 64) : IntKind.u64.wrap (n : Int) = (n : Int) := by
 simp only [IntKind.wrap, IntKind.bits, IntKind.signed]; simp; omega
theorem shl64 {d k : Nat} (hk : k ≤ 9) (h : d * 2 ^ (7 * k) < 2 ^ 64) : shl .u64 (IntKind.u64.wrap (d : Int)) (7 * (k : Int)) = ((d * 2 ^ (7 * k) : Nat) : Int) := by
 have hd : d < 2 ^ 64 := Nat.lt_of_le_of_lt (Nat.le_mul_of_pos_right _ (Nat.two_pow_pos _)) h
 rw [wr64 hd]
 unfold shl
 have e1 : (7 * (k : Int)).toNat = 7 * k := by omega
 rw [e1, show min (7 * k) IntKind.u64.bits = 7 * k from Nat.min_eq_left (by show 7 * k ≤ 64; omega)]
 have e2 : (d : Int) * 2 ^ (7 * k) = ((d * 2 ^ (7 * k) : Nat) : Int) := by push_cast; rfl
 rw [e2, wr64 h]
theorem bor64 {a d k : Nat} (ha : a < 2 ^ (7 * k)) (h : a + d * 2 ^ (7 * k) < 2 ^ 64) : bor .u64 (a : Int) ((d * 2 ^ (7 * k) : Nat) : Int) = ((a + d * 2 ^ (7 * k) : Nat) : Int) := by
 unfold bor
 show IntKind.u64.wrap ((BitVec.ofInt 64 (a : Int) ||| BitVec.ofInt 64 ((d * 2 ^ (7 * k) : Nat) : Int)).toNat : Int) = _
 rw [BitVec.ofInt_natCast, BitVec.ofInt_natCast, BitVec.toNat_or, BitVec.toNat_ofNat, BitVec.toNat_ofNat, Nat.mod_eq_of_lt (by omega), Nat.mod_eq_of_lt (by omega)]
 have e : a ||| d * 2 ^ (7 * k) = a + d * 2 ^ (7 * k) := by
  rw [Nat.or_comm, Nat.mul_comm d, ← Nat.two_pow_add_eq_or_of_lt ha, Nat.add_comm]
 rw [e, wr64 h]
def acc (k : Nat) (n c : Int) : Int := bor .u64 n (shl .u64 (IntKind.u64.wrap (band .u8 c 127)) (7 * (k : Int)))
theorem acc_eq {k n c : Nat} (hk : k ≤ 9) (hc : c ≤ 255) (hn : n < 2 ^ (7 * k)) (ht : n + c % 128 * 2 ^ (7 * k) < 2 ^ 64) : acc k (n : Int) (c : Int) = ((n + c % 128 * 2 ^ (7 * k) : Nat) : Int) := by
 unfold acc
 rw [band8 (by omega) (by omega), show (c : Int) % 128 = ((c % 128 : Nat) : Int) by omega, shl64 hk (by omega), bor64 hn ht]
theorem rnum_nil (f : Int) (k : Nat) (n : Int) : rnum f [] k n = .inl ([], f) := rfl
theorem rnum_cons (f c : Int) (xs : List Int) (k : Nat) (n : Int) : rnum f (c :: xs) k n = if (k = 9 ∧ 1 < c) ∨ (0 < k ∧ c = 0) then .inr (0, xs, 11) else if c < 128 then .inr (acc k n c, xs, f) else rnum f xs (k + 1) (acc k n c) := rfl
theorem pow_step (k : Nat) : 2 ^ (7 * (k + 1)) = 128 * 2 ^ (7 * k) := by
 rw [Nat.mul_add, Nat.pow_add, Nat.mul_comm]
theorem tot (n m B : Nat) : n + m % 128 * B + m / 128 * (128 * B) = n + m * B := by
 have h : m % 128 * B + m / 128 * (128 * B) = m * B := by
  rw [← Nat.mul_assoc, ← Nat.add_mul, Nat.mul_comm (m / 128), Nat.mod_add_div]
 omega
theorem small {n d B : Nat} (hn : n < B) (hd : d < 128) : n + d * B < 128 * B := by
 have : d * B ≤ 127 * B := Nat.mul_le_mul_right B (by omega)
 omega
theorem k9 {k c n : Nat} (hk : k ≤ 9) (hn : n < 2 ^ (7 * k)) (hc : c < 128) (h9 : k = 9 → c ≤ 1) : n + c * 2 ^ (7 * k) < 2 ^ 64 := by
 by_cases h : k = 9
 ·subst h
  have : c * 2 ^ (7 * 9) ≤ 1 * 2 ^ (7 * 9) := Nat.mul_le_mul_right _ (h9 rfl)
  omega
 ·have h1 := small hn hc
  have h2 : 2 ^ (7 * k) ≤ 2 ^ 56 := Nat.pow_le_pow_right (by omega) (by omega)
  omega
theorem rnum_fm (ou : List Int) : ∀ (f m k n : Nat), m < 128 ^ (f + 1) → k + f ≤ 9 → n < 2 ^ (7 * k) → n + m * 2 ^ (7 * k) < 2 ^ 64 → (k = 0 ∨ 0 < m) →
  rnum 0 (fmP f m ++ (IntKind.u8.wrap (fmL f m) :: ou)) k (n : Int) = .inr (((n + m * 2 ^ (7 * k) : Nat) : Int), ou, 0) := by
 have base : ∀ (m k n : Nat), m < 128 → k ≤ 9 → n < 2 ^ (7 * k) → n + m * 2 ^ (7 * k) < 2 ^ 64 → (k = 0 ∨ 0 < m) → rnum 0 (IntKind.u8.wrap (m : Int) :: ou) k (n : Int) = .inr (((n + m * 2 ^ (7 * k) : Nat) : Int), ou, 0) := by
  intro m k n hm hk hn ht h0
  have e : IntKind.u8.wrap (m : Int) = (m : Int) := by rw [wr8]; congr 1; omega
  rw [e, rnum_cons, if_neg, if_pos (by omega), acc_eq hk (by omega) hn (by rw [Nat.mod_eq_of_lt hm]; exact ht), Nat.mod_eq_of_lt hm]
  rintro (⟨rfl, h⟩ | ⟨h1, h2⟩)
  ·have : 2 * 2 ^ (7 * 9) ≤ m * 2 ^ (7 * 9) := Nat.mul_le_mul_right _ (by omega)
   omega
  ·omega
 intro f
 induction f with
 | zero =>
  intro m k n hm hk hn ht h0
  exact base m k n (by simpa using hm) (by omega) hn ht h0
 | succ f ih =>
  intro m k n hm hk hn ht h0
  by_cases c : m ≤ 127
  ·have e1 : fmP (f + 1) m = [] := by simp [fmP, c]
   have e2 : fmL (f + 1) m = m := by simp [fmL, c]
   rw [e1, e2]
   exact base m k n (by omega) (by omega) hn ht h0
  ·have e1 : fmP (f + 1) m = ((m % 128 + 128 : Nat) : Int) :: fmP f (m / 128) := by
    conv => lhs; unfold fmP
    rw [if_neg c, bor8]
   have e2 : fmL (f + 1) m = fmL f (m / 128) := by
    conv => lhs; unfold fmL
    rw [if_neg c]
   rw [e1, e2, List.cons_append, rnum_cons, if_neg (by omega), if_neg (by omega)]
   have hmod : (m % 128 + 128) % 128 = m % 128 := by omega
   have hd : m % 128 * 2 ^ (7 * k) ≤ m * 2 ^ (7 * k) := Nat.mul_le_mul_right _ (Nat.mod_le _ _)
   rw [acc_eq (by omega) (by omega) hn (by rw [hmod]; omega), hmod]
   have hB := pow_step k
   have ht2 := tot n m (2 ^ (7 * k))
   rw [ih (m / 128) (k + 1) (n + m % 128 * 2 ^ (7 * k)) (by rw [Nat.pow_succ] at hm; omega) (by omega) (by rw [hB]; exact small hn (by omega)) (by rw [hB, ht2]; exact ht) (Or.inr (by omega)), hB, ht2]
theorem rnum_form {m : Nat} (hm : m < 2 ^ 64) (ou : List Int) : rnum 0 (fm m ++ ou) 0 0 = .inr ((m : Int), ou, 0) := by
 have := rnum_fm ou 9 m 0 0 (by omega) (by omega) (by decide) (by simpa using hm) (Or.inl rfl)
 unfold fm
 rw [List.append_assoc]
 simpa using this
def bytesR (l : List Int) : Prop := ∀ c ∈ l, 0 ≤ c ∧ c ≤ 255
theorem rnum_inv : ∀ (l : List Int) (k n : Nat), bytesR l → k ≤ 9 → n < 2 ^ (7 * k) →
  (∃ l', rnum 0 l k (n : Int) = .inl (l', 0)) ∨ (∃ rest, rnum 0 l k (n : Int) = .inr (0, rest, 11)) ∨
  ∃ m rest, rnum 0 l k (n : Int) = .inr (((n + m * 2 ^ (7 * k) : Nat) : Int), rest, 0) ∧ (k = 0 ∨ 0 < m) ∧ n + m * 2 ^ (7 * k) < 2 ^ 64 ∧ l = fmP (9 - k) m ++ (IntKind.u8.wrap (fmL (9 - k) m) :: rest)
 | [], k, n, _, _, _ => Or.inl ⟨[], rfl⟩
 | c :: xs, k, n, hb, hk, hn => by
  obtain ⟨h0, h1⟩ := hb c (by simp)
  obtain ⟨d, rfl⟩ := Int.eq_ofNat_of_zero_le h0
  rw [rnum_cons]
  by_cases bad : (k = 9 ∧ 1 < (d : Int)) ∨ (0 < k ∧ (d : Int) = 0)
  ·rw [if_pos bad]; exact Or.inr (Or.inl ⟨xs, rfl⟩)
  ·rw [if_neg bad]
   have hb9 : k = 9 → d ≤ 1 := fun e => by
    rcases Nat.lt_or_ge 1 d with g | g
    ·exact absurd (Or.inl ⟨e, by omega⟩) bad
    ·exact g
   have hb0 : k = 0 ∨ 0 < d := by
    rcases Nat.eq_zero_or_pos k with g | g
    ·exact Or.inl g
    ·right
     rcases Nat.eq_zero_or_pos d with g2 | g2
     ·exact absurd (Or.inr ⟨g, by omega⟩) bad
     ·exact g2
   by_cases c : d < 128
   ·rw [if_pos (by omega)]
    have ht := k9 hk hn c hb9
    right; right
    refine ⟨d, xs, ?_, hb0, ht, ?_⟩
    ·rw [acc_eq hk (by omega) hn (by rw [Nat.mod_eq_of_lt c]; exact ht), Nat.mod_eq_of_lt c]
    ·have e1 : fmP (9 - k) d = [] := by cases 9 - k with | zero => rfl | succ q => simp [fmP]; omega
     have e2 : fmL (9 - k) d = d := by cases 9 - k with | zero => rfl | succ q => simp [fmL]; omega
     rw [e1, e2, wr8, Nat.mod_eq_of_lt (by omega)]; rfl
   ·rw [if_neg (by omega)]
    have hk8 : k ≤ 8 := by
     rcases Nat.lt_or_ge k 9 with g | g
     ·omega
     ·have := hb9 (by omega); omega
    have ht : n + d % 128 * 2 ^ (7 * k) < 2 ^ 64 := k9 hk hn (by omega) (by omega)
    rw [acc_eq hk (by omega) hn ht]
    have hB := pow_step k
    rcases rnum_inv xs (k + 1) (n + d % 128 * 2 ^ (7 * k)) (fun x hx => hb x (by simp [hx])) (by omega) (by rw [hB]; exact small hn (by omega)) with h | h | ⟨m, rest, e, hm, htt, hl⟩
    ·exact Or.inl h
    ·exact Or.inr (Or.inl h)
    ·right; right
     have hm0 : 0 < m := by omega
     have hq1 : (d % 128 + 128 * m) % 128 = d % 128 := by omega
     have hq2 : (d % 128 + 128 * m) / 128 = m := by omega
     have T := tot n (d % 128 + 128 * m) (2 ^ (7 * k))
     rw [hq1, hq2] at T
     rw [hB] at e htt
     rw [T] at e htt
     refine ⟨d % 128 + 128 * m, rest, e, Or.inr (by omega), htt, ?_⟩
     have e9 : 9 - k = (9 - (k + 1)) + 1 := by omega
     have e1 : fmP (9 - k) (d % 128 + 128 * m) = (d : Int) :: fmP (9 - (k + 1)) m := by
      rw [e9]
      conv => lhs; unfold fmP
      rw [if_neg (by omega), bor8, hq1, hq2]
      congr 1; omega
     have e2 : fmL (9 - k) (d % 128 + 128 * m) = fmL (9 - (k + 1)) m := by
      rw [e9]
      conv => lhs; unfold fmL
      rw [if_neg (by omega), hq2]
     rw [e1, e2, hl]; rfl
end Go.Proofs.YtcolmmjcdlmcoaaGreat.G