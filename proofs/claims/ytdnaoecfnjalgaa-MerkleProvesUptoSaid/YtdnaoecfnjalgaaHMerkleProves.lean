/- The row of 'MerkleProves', its '..UptoSaid': whatever the input of bulk at most 1048576, the law returns true and the input reads as it did; its condition: that bulk. -/
import Derived.Test.YtdnaoecfnjalgaaHMerkleProvesA
import Derived.Test.YtdnaoecfnjalgaaHMerkleProvesC
import Derived.Test.YtdnaoecfnjalgaaHMerkleProvesB
import Derived.Test.YtdnaoecfnjalgaaRows
import Derived.Deep.Slices
import Derived.ChangeArms
import Derived.KernelRfl
import Derived.Laws.OwnMore
import Derived.Laws.Strings
import Derived.OpenShut
import Derived.WalkKit
import Derived.ProofKit
import Derived.JoinedCond
import Derived.Below
import Derived.ChangeOld
namespace Go.Proofs.Ytdnaoecfnjalgaa.G
open Go Go.RowKit
set_option linter.unusedVariables false
set_option linter.unusedSimpArgs false
set_option maxRecDepth 100000
set_option maxHeartbeats 40000000
theorem haulagelaw10_MerkleProves.calls (k : Nat) {m : Nat} {c0 : Nat → Nat} {w0 : World} {A2 : Option Addr} {C3 : Nat} {A7 : Option Addr} {C8 : Nat} {a1 : List haulagelaw10_Change} {a5 : Int} {a6 : List Int} (hm0 : 0 < m) (B0 : CB m c0 w0) (h4 : SL false K_haulagelaw10_Change 0 0 c0 w0 A2 C3 a1) (h9 : SL false (Kint .u8) 0 0 c0 w0 A7 C8 a6) (r : Bool) (H : haulagelaw10_MerkleProves.f k a1 a5 a6 = some r) : Calls Try.prog 3 #[.slice A2 a1.length C3, .int .i64 a5, .slice A7 a6.length C8] w0 (fun e w_ => ∃ (c_ : Nat → Nat), e = .returned (.bool r) ∧ Ev (fun x => False) c0 w0 c_ w_ ∧ CB m c_ w_) := by
 unfold haulagelaw10_MerkleProves.f at H; have B := B0.mono (show m ≤ m + 7 by omega); have E : Ev (fun x => False ∨ m ≤ x) c0 w0 c0 w0 := Ev.refl; refine enter (N := 93) (l := [.slice A2 a1.length C3, .int .i64 a5, .slice A7 a6.length C8]) Try.func3 rfl rfl (nb rfl) fun a F => ?_; refine sr fun K10 hK10 => qa F fun a F => nil (hK10 _ _ ?_); refine sq fun K11 hK11 => ?_; refine sr fun K12 hK12 => ?_; obtain ⟨t13, q14, H⟩ := bind_some H; refine qc F Try.func7 (haulagelaw10_awake.calls k (m := m + 7) (pl hm0) B _ q14) ?_; rintro e w16 ⟨c15, rfl, E17, B⟩; refine rt fun a F => ?_; replace h4 := h4.ev E17; replace h9 := h9.ev E17; replace E := E.n E17; refine qv F (r_not F rfl) fun a F => ?_; refine nil (hK12 _ _ ?_)
 by_cases hb20 : t13 = true
 ·replace H := ip hb20 H; refine wcf (fb F (congrArg not hb20)) (wp_skip (hK11 _ _ ?_)); refine sr fun K22 hK22 => qm F fun a F => ?_; obtain ⟨t23, q24, H⟩ := bind_some H; refine qc F Try.func8 (haulagelaw10_round.calls (m := m + 7) (pl hm0) B _ q24) ?_; rintro e w26 ⟨c25, rfl, E27, B⟩
  as_aux_lemma =>
  refine rt fun a F => ?_; replace h4 := h4.ev E27; replace h9 := h9.ev E27; replace E := E.n E27; refine qv F (r_add F rfl rfl) fun a F => ?_; refine qa F fun a F => nil (hK22 _ _ ?_); refine sr fun K30 hK30 => qm F fun a F => qm F fun a F => ?_; obtain ⟨t31, q32, H⟩ := bind_some H; refine qc F Try.func9 (haulagelaw10_grown.calls k (m := m + 7) (pl hm0) B h4 (m + 1) ⟨(pl hm0), lm⟩ (m + 2) ⟨(pl hm0), lm⟩ (m + 3) lm _ q32) ?_; rintro e w34 ⟨c33, p37, A39, C40, rfl, E35, B, h38, h41⟩; refine rt fun a F => ?_; replace h9 := h9.ev E35; replace E := E.n E35; refine qm F fun a F => ?_; refine qx F fun a F => ?_; refine qx F fun a F => ?_; refine qa F fun a F => qa F fun a F => nil (hK30 _ _ ?_); replace F : Fr a 93 [(2, .slice A7 a6.length C8), (7, .int .i64 (IntKind.i64.wrap (1 + t23))), (8, .pointer p37), (9, .slice A39 t31.2.length C40)] := F.sub ⟨rfl, rfl, rfl, rfl, trivial⟩; refine sq fun K43 hK43 => ?_; refine sr fun K44 hK44 => qm F fun a F => ?_; refine qv F (r_peqlA F Try.underlying26 rfl rfl (ME.isNone h38)) fun a F => ?_; refine nil (hK44 _ _ ?_)
  by_cases hb45 : (Option.isNone t31.1) = true
  ·replace H := ip hb45 H
   as_aux_lemma =>
   refine wct (fb F hb45) ?_; refine sr fun K46 hK46 => qa F fun a F => nil (hK46 _ _ ?_); refine wp_ret ?_; refine thenR ?_; obtain rfl := si H; refine out1 F rfl rfl ?_; exact ⟨cf (ct m) c33, rfl, E.lv B0, cfb⟩
  replace H := im hb45 H; refine wcf (fb F (bfalse hb45)) (wp_skip (hK43 _ _ ?_)); refine sr fun K47 hK47 => qm F fun a F => qm F fun a F => ?_; obtain ⟨t48, q49, H⟩ := bind_some H; refine qc F Try.func10 (merkle_Tree_Prove.calls k (m := m + 7) (pl hm0) B h38 h9 lm ⟨lm, mm⟩ _ q49) ?_; rintro e w51 ⟨c50, A54, C55, cs57, rfl, E52, B, h56, h58⟩; refine rt fun a F => ?_; replace h9 := h9.ev E52; replace h38 := h38.ev E52; replace h41 := h41.ev E52; replace E := E.n E52; have h66 : AR (Kint .u64) 0 c50 w51 ((List.replicate 8 ([.int .u64 0] : List Value)).flatten) 8 (List.replicate 8 (0 : Int)) := AR.zero (by exact rfl) 8; refine q_eff F rfl rfl (by decide) (e_alloc F zv_33 c50 (m + 4)) ?_; rintro v w61 a ⟨c60, qa62, rfl, E63, h64, B65⟩ F; replace B := B65 _ B lm
  as_aux_lemma =>
  replace h9 := h9.ev E63; replace h38 := h38.ev E63; replace h41 := h41.ev E63; replace h56 := h56.ev E63; replace h58 := h58.ev E63; replace h66 := h66.ev E63; replace E := E.n E63; replace h64 : AT _ _ _ _ _ (([.slice none 0 0] : List Value) ++ (((List.replicate 8 ([.int .u64 0] : List Value)).flatten) ++ (([] : List Value)))) := h64; refine q_eff0 F rfl rfl (e_storeNS (us := (([.slice A54 t48.Rows.length C55] : List Value) ++ (cs57 ++ (([] : List Value))))) F rfl rfl sz_33 (by have l0_ : cs57.length = 8 := (h58.1 : cs57.length = 8); simp only [List.length_append, List.length_cons, List.length_nil] <;> omega) h64 (by have l0_ : ((List.replicate 8 ([.int .u64 0] : List Value)).flatten).length = 8 := (h66.1 : ((List.replicate 8 ([.int .u64 0] : List Value)).flatten).length = 8); have m0_ : cs57.length = 8 := (h58.1 : cs57.length = 8); simp only [List.length_append, List.length_cons, List.length_nil] <;> omega) (all_app (one_all (us := ([.slice A54 t48.Rows.length C55] : List Value)) rfl) (all_app (AR.one h58) (one_all (us := ([] : List Value)) rfl)))) ?_; rintro w68 a ⟨E69, h64, Z70⟩ F; replace B := B.size Z70; replace h9 := h9.ev E69; replace h38 := h38.ev E69; replace h41 := h41.ev E69; replace h56 := h56.ev E69; replace h58 := h58.ev E69; replace h66 := h66.ev E69; replace E := E.trans E69 lc1; replace h64 : AT true (m + 4) c60 w68 qa62 (([.slice A54 t48.Rows.length C55] : List Value) ++ (cs57 ++ (([] : List Value)))) := AT.eqv h64 (lay_all (by have l0_ : ((List.replicate 8 ([.int .u64 0] : List Value)).flatten).length = 8 := (h66.1 : ((List.replicate 8 ([.int .u64 0] : List Value)).flatten).length = 8); have m0_ : cs57.length = 8 := (h58.1 : cs57.length = 8); simp only [List.length_append, List.length_cons, List.length_nil] <;> omega)); refine nil (hK47 _ _ ?_); refine sq fun K71 hK71 => ?_; have J151 : ∀ (c152 : Nat → Nat) (w153 : World) (a : Act) (qa96 : Addr) (t81 : api_Row × Bool × Int) (A145 : Option Addr) (C146 : Nat) (A148 : Option Addr) (C149 : Nat), Fr a 93 [(2, .slice A7 a6.length C8), (8, .pointer p37), (9, .slice A39 t31.2.length C40), (10, .pointer (some qa62)), (11, .pointer (some qa96)), (12, .bool t81.2.1), (13, .int .i64 t81.2.2)] → Ev (fun x => False ∨ m ≤ x) c0 w0 c152 w153 → CB (m + 7) c152 w153 → AT true (m + 4) c152 w153 qa62 (([.slice A54 t48.Rows.length C55] : List Value) ++ (cs57 ++ (([] : List Value)))) → AT true (m + 5) c152 w153 qa96 [.slice A145 t81.1.Key.length C146, .slice A148 t81.1.Value.length C149, .int .i64 t81.1.Rev] → SL false (Kint .u8) 0 0 c152 w153 A7 C8 a6 → ME (m + 1) (m + 2) c152 w153 p37 t31.1 → SL true K_api_Row (m + 3) 0 c152 w153 A39 C40 t31.2 → SL false (Kint .u8) 0 0 c152 w153 A145 C146 t81.1.Key → SL false (Kint .u8) 0 0 c152 w153 A148 C149 t81.1.Value → haulagelaw10_MerkleProves.j1 k a6 t31 t48 t81 = some r → K71 a w153 := by
   intro c152 w153 a qa96 t81 A145 C146 A148 C149 F E B h64 h98 h9 h38 h41 h147 h150 H; unfold haulagelaw10_MerkleProves.j1 at H
   as_aux_lemma =>
   refine hK71 _ _ ?_; refine sr fun K154 hK154 => qm F fun a F => qm F fun a F => ?_; obtain ⟨t155, q156, H⟩ := bind_some H; refine qc F Try.func13 (merkle_Tree_Get.calls k (m := m + 7) (pl hm0) B h38 h9 lm ⟨lm, mm⟩ _ q156) ?_; rintro e w158 ⟨c157, A161, C162, A164, C165, rfl, E159, B, h163, h166⟩; refine rt fun a F => ?_; replace h64 := h64.ev E159; replace h98 := h98.ev E159; replace h9 := h9.ev E159; replace h41 := h41.ev E159; replace h147 := h147.ev E159; replace h150 := h150.ev E159; replace E := E.n E159; refine qm F fun a F => ?_; refine qx F fun a F => ?_; refine qx F fun a F => ?_; refine q_eff F rfl rfl (by decide) (e_alloc F zv_36 c157 (m + 6)) ?_; rintro v w169 a ⟨c168, qa170, rfl, E171, h172, B173⟩ F; replace B := B173 _ B lm; replace h64 := h64.ev E171; replace h98 := h98.ev E171; replace h9 := h9.ev E171
   as_aux_lemma =>
   replace h41 := h41.ev E171; replace h147 := h147.ev E171; replace h150 := h150.ev E171; replace h163 := h163.ev E171; replace h166 := h166.ev E171; replace E := E.n E171; replace h172 : AT _ _ _ _ _ [.slice none 0 0, .slice none 0 0, .int .i64 0] := h172; refine q_eff0 F rfl rfl (e_storeN0 (us := [.slice A161 t155.1.Key.length C162, .slice A164 t155.1.Value.length C165, .int .i64 t155.1.Rev]) F rfl rfl sz_36 h172 (nb rfl) (one_all rfl)) ?_; rintro w175 a ⟨E176, h172, Z177⟩ F; replace B := B.size Z177; replace h64 := h64.ev E176; replace h98 := h98.ev E176; replace h9 := h9.ev E176; replace h41 := h41.ev E176; replace h147 := h147.ev E176; replace h150 := h150.ev E176; replace h163 := h163.ev E176; replace h166 := h166.ev E176; replace E := E.trans E176 lc1; replace h172 : AT _ _ _ _ _ [.slice A161 t155.1.Key.length C162, .slice A164 t155.1.Value.length C165, .int .i64 t155.1.Rev] := h172; refine qa F fun a F => nil (hK154 _ _ ?_); refine sq fun K178 hK178 => ?_
   as_aux_lemma =>
   refine sq fun K179 hK179 => ?_; have J191 : ∀ (c192 : Nat → Nat) (w193 : World) (a : Act) (b190 : Bool), Fr a 93 [(2, .slice A7 a6.length C8), (9, .slice A39 t31.2.length C40), (11, .pointer (some qa96)), (12, .bool t81.2.1), (70, .bool b190)] → Ev (fun x => False ∨ m ≤ x) c0 w0 c192 w193 → CB (m + 7) c192 w193 → AT true (m + 5) c192 w193 qa96 [.slice A145 t81.1.Key.length C146, .slice A148 t81.1.Value.length C149, .int .i64 t81.1.Rev] → SL false (Kint .u8) 0 0 c192 w193 A7 C8 a6 → SL true K_api_Row (m + 3) 0 c192 w193 A39 C40 t31.2 → SL false (Kint .u8) 0 0 c192 w193 A145 C146 t81.1.Key → SL false (Kint .u8) 0 0 c192 w193 A148 C149 t81.1.Value → haulagelaw10_MerkleProves.j2 k a6 t31 t81 b190 = some r → K179 a w193 := by
    intro c192 w193 a b190 F E B h98 h9 h41 h147 h150 H; unfold haulagelaw10_MerkleProves.j2 at H; refine hK179 _ _ ?_
    by_cases hb194 : b190 = true
    ·replace H := ip hb194 H; refine wct (fb F hb194) ?_; refine sr fun K195 hK195 => qa F fun a F => nil (hK195 _ _ ?_); refine wp_ret ?_; refine thenR ?_; obtain rfl := si H; refine out1 F rfl rfl ?_; exact ⟨cf (ct m) c192, rfl, E.lv B0, cfb⟩
    replace H := im hb194 H; refine wcf (fb F (bfalse hb194)) (wp_skip (hK178 _ _ ?_)); refine sr fun K196 hK196 => qa F fun a F => nil (hK196 _ _ ?_); refine sq fun K197 hK197 => ?_; refine sr fun K198 hK198 => qa F fun a F => nil (hK198 _ _ ?_); refine wp_block ?_; obtain ⟨x210, HL, HR209⟩ := bind_some H; have J264 : ∀ (c265 : Nat → Nat) (w266 : World) (a : Act) (b263 : Bool), Fr a 93 [(12, .bool t81.2.1), (16, .bool b263)] → Ev (fun x => False ∨ m ≤ x) c0 w0 c265 w266 → CB (m + 7) c265 w266 → haulagelaw10_MerkleProves.j4 t81 b263 = some r → K197 a w266 := by
     intro c265 w266 a b263 F E B  H; unfold haulagelaw10_MerkleProves.j4 at H
     as_aux_lemma =>
     refine hK197 _ _ ?_; refine sr fun K267 hK267 => qm F fun a F => qm F fun a F => ?_; refine qv F (r_beql F Try.underlying4 rfl rfl) fun a F => ?_; refine qa F fun a F => nil (hK267 _ _ ?_); refine wp_ret ?_; obtain rfl := si H; refine out1 F rfl rfl ?_; exact ⟨cf (ct m) c265, rfl, E.lv B0, cfb⟩
    refine loop_fuel (I := fun n a w => ∃ (b199 : Bool) (i200 : Int) (c : Nat → Nat), Fr a 93 [(2, .slice A7 a6.length C8), (9, .slice A39 t31.2.length C40), (11, .pointer (some qa96)), (12, .bool t81.2.1), (16, .bool b199), (17, .int .i64 i200)] ∧ Ev (fun x => False ∨ m ≤ x) c0 w0 c w ∧ CB (m + 7) c w ∧ AT true (m + 5) c w qa96 [.slice A145 t81.1.Key.length C146, .slice A148 t81.1.Value.length C149, .int .i64 t81.1.Rev] ∧ SL false (Kint .u8) 0 0 c w A7 C8 a6 ∧ SL true K_api_Row (m + 3) 0 c w A39 C40 t31.2 ∧ SL false (Kint .u8) 0 0 c w A145 C146 t81.1.Key ∧ SL false (Kint .u8) 0 0 c w A148 C149 t81.1.Value ∧ loop (fun (s_ : Bool × Int) => haulagelaw10_MerkleProves.b3 k a6 t31 t81 s_.1 s_.2) n (b199, i200) = some x210) (k := k) ⟨false, 0, c192, F.sub ⟨rfl, rfl, rfl, rfl, rfl, rfl, trivial⟩, E, B, h98, h9, h41, h147, h150, HL⟩ ?_; clear HL H E F B; intro n207 X203 hX203 a w202 ⟨b199, i200, c201, F, E, B, h98, h9, h41, h147, h150, HL⟩; obtain ⟨n208, ctl206, rfl, HB, HN204, HD205⟩ := loop_some HL; have H : haulagelaw10_MerkleProves.b3 k a6 t31 t81 b199 i200 = some ctl206 := HB; clear HB HL; unfold haulagelaw10_MerkleProves.b3 at H; refine sq fun K211 hK211 => ?_; refine sr fun K212 hK212 => qm F fun a F => qm F fun a F => ?_; refine qv F (r_lensl F Try.underlying27 rfl) fun a F => ?_; refine qv F (r_lss F rfl rfl) fun a F => ?_; refine nil (hK212 _ _ ?_)
    by_cases hb213 : i200 < (t31.2.length : Int)
    ·replace H := ip hb213 H; refine wct (fb F (dt hb213)) (wp_skip (hK211 _ _ ?_))
     as_aux_lemma =>
     refine sq fun K214 hK214 => ?_; refine wp_block ?_; refine sr fun K215 hK215 => qm F fun a F => qm F fun a F => ?_; replace H := ifN H; obtain ⟨g216, H⟩ := H; obtain ⟨ad217, cs218, e219, h220, r221⟩ := SL.at h41 i200 g216.1 g216.2; obtain ⟨A222, C223, A225, C226, rfl, h224, h227⟩ := r221; replace h224 := SL.fl (i' := 0) h224 (fun q => q); obtain ⟨qa228, qqa228⟩ : ∃ q, q = (ad217.add (i200.toNat * 3)) := ⟨_, rfl⟩; have h220 : AT true (m + 3) c201 w202 qa228 [.slice A222 ((rd t31.2 i200).Key).length C223, .slice A225 ((rd t31.2 i200).Value).length C226, .int .i64 ((rd t31.2 i200).Rev)] := by rw [qqa228]; exact h220
     refine qv F (r_indexAddr' F Try.underlying27 sz_36 rfl rfl g216.1 g216.2 e219 qqa228) fun a F => ?_; refine qf F ff_36_0 fun a F => ?_; refine ql F ag_23 h220 fun a F => ?_; refine qm F fun a F => ?_; obtain ⟨t230, q231, H⟩ := bind_some H; refine qc F Try.func15 (haulagelaw10_same.calls k (m := m + 7) (pl hm0) B h224 h9 _ q231) ?_; rintro e w233 ⟨c232, rfl, E234, B⟩; refine rt fun a F => ?_; replace h98 := h98.ev E234; replace h9 := h9.ev E234; replace h41 := h41.ev E234; replace h147 := h147.ev E234
     as_aux_lemma =>
     replace h150 := h150.ev E234; replace E := E.n E234; refine nil (hK215 _ _ ?_); replace F : Fr a 93 [(2, .slice A7 a6.length C8), (9, .slice A39 t31.2.length C40), (11, .pointer (some qa96)), (12, .bool t81.2.1), (16, .bool b199), (17, .int .i64 i200), (83, .bool t230)] := F.sub ⟨rfl, rfl, rfl, rfl, rfl, rfl, rfl, trivial⟩
     by_cases hb237 : t230 = true
     ·replace H := ip hb237 H; refine wct (fb F hb237) ?_; refine regD (SB No c232 w233) 7 (.q 0 (.q 1 (.q 2 (.q 3 (.q 4 (.e 5 (.q 6 .nil))))))) Try_hm (by decide +kernel) ?_; intro w238 w1_ w2_ w3_ w4_; have E239 : Ev No c232 w233 c232 w238 := Ev.same w1_ w2_ w3_ w4_; replace B := B.same w1_; have zh98 := h98; have zh41 := h41; have ER : Ev No c232 w233 c232 w238 := Ev.same w1_ w2_ w3_ w4_; replace h98 := h98.ev E239; replace h9 := h9.ev E239; replace h41 := h41.ev E239; replace h147 := h147.ev E239; replace h150 := h150.ev E239; replace E := E.n E239; refine dm F ER.sb fun a F => ?_; refine dm F ER.sb fun a F => ?_; replace H := ifN H; obtain ⟨g240, H⟩ := H; obtain ⟨ad241, cs242, e243, h244, r245⟩ := SL.at zh41 i200 g240.1 g240.2; obtain ⟨A246, C247, A249, C250, rfl, h248, h251⟩ := r245
      as_aux_lemma =>
      replace h248 := SL.fl (i' := 0) h248 (fun q => q); replace h251 := SL.fl (i' := 0) h251 (fun q => q); obtain ⟨qa252, qqa252⟩ : ∃ q, q = (ad241.add (i200.toNat * 3)) := ⟨_, rfl⟩; have h244 : AT true (m + 3) c232 w233 qa252 [.slice A246 ((rd t31.2 i200).Key).length C247, .slice A249 ((rd t31.2 i200).Value).length C250, .int .i64 ((rd t31.2 i200).Rev)] := by rw [qqa252]; exact h244
      replace h248 := h248.ev ER nq nq; replace h251 := h251.ev ER nq nq; have zh244 := h244; refine dq F (fun wq hS => r_indexAddr' F Try.underlying27 sz_36 rfl rfl g240.1 g240.2 e243 qqa252) ER.sb fun a F => ?_; refine dq F (fun wq hS => r_loads (cs := [.slice A246 ((rd t31.2 i200).Key).length C247, .slice A249 ((rd t31.2 i200).Value).length C250, .int .i64 ((rd t31.2 i200).Rev)]) F rfl ag_36 sz_36 (AT.sb zh244 hS nq)) ER.sb fun a F => ?_; refine dq F (fun wq hS => r_loads (cs := [.slice A145 t81.1.Key.length C146, .slice A148 t81.1.Value.length C149, .int .i64 t81.1.Rev]) F rfl ag_36 sz_36 (AT.sb zh98 hS nq)) ER.sb fun a F => ?_; refine d_e ?_; obtain ⟨t254, q255, H⟩ := bind_some H; refine oc F Try.func14 (haulagelaw10_sameRow.calls k (m := m + 7) (pl hm0) B h248 h251 h147 h150 _ q255) ?_; rintro e w257 ⟨c256, rfl, E258, B⟩; refine rt fun a F => ?_; replace ER := ER.trans E258 nx; replace h98 := h98.ev E258; replace h9 := h9.ev E258; replace h41 := h41.ev E258; replace h147 := h147.ev E258; replace h150 := h150.ev E258; replace E := E.n E258
      as_aux_lemma =>
      refine ⟨fun _ => ER.sb, ?_⟩; refine da F ER.sb fun a F => ?_; refine d_nil ?_; refine hK214 _ _ ?_; refine reg ?_; refine qm F fun a F => ?_; refine qv F (r_add F rfl rfl) fun a F => ?_; refine qa F fun a F => nil ?_; replace H := HN204 _ (si H).symm; exact hX203 _ _ _ (Nat.lt_succ_self _) ⟨t254, (IntKind.i64.wrap (i200 + 1)), c256, F.sub ⟨rfl, rfl, rfl, rfl, rfl, rfl, trivial⟩, E, B, h98, h9, h41, h147, h150, H⟩
     replace H := im hb237 H; refine wcf (fb F (bfalse hb237)) (wp_skip (hK214 _ _ ?_)); refine reg ?_; refine qm F fun a F => ?_; refine qv F (r_add F rfl rfl) fun a F => ?_; refine qa F fun a F => nil ?_; replace H := HN204 _ (si H).symm; exact hX203 _ _ _ (Nat.lt_succ_self _) ⟨b199, (IntKind.i64.wrap (i200 + 1)), c232, F.sub ⟨rfl, rfl, rfl, rfl, rfl, rfl, trivial⟩, E, B, h98, h9, h41, h147, h150, H⟩
    replace H := im hb213 H; refine wcf (fb F (dz hb213)) ?_; refine wp_exit ?_; refine thenE ?_
    as_aux_lemma =>
    refine thenE ?_; refine inbE ?_; have hx_ := HD205 _ (si H).symm; have H := HR209; rw [← hx_] at H; exact J264 c201 w202 a b199 (F.sub ⟨rfl, rfl, trivial⟩) E B  H
   refine reg ?_; refine qm F fun a F => ?_; refine qv F (r_neq F rfl rfl) fun a F => ?_; refine qm F fun a F => ?_
   by_cases hb180 : t81.2.2 = 0
   ·replace H := ip hb180 H; refine qy F (congrArg not (dt hb180)) ?_; refine qm F fun a F => ?_; refine qy F (congrArg not (dt hb180)) ?_; refine qm F fun a F => ?_; refine qy F (congrArg not (dt hb180)) ?_; refine qv F (r_bneq F Try.underlying4 rfl rfl) fun a F => ?_; refine qv F (r_pick_f F rfl (congrArg not (dt hb180)) rfl) fun a F => ?_; refine qm F fun a F => ?_
    by_cases hb181 : (t81.2.1 == t155.2) = true
    ·replace H := ip hb181 H; refine qy F (congrArg not hb181) ?_; refine qv F (r_loads (cs := [.slice A145 t81.1.Key.length C146, .slice A148 t81.1.Value.length C149, .int .i64 t81.1.Rev]) F rfl ag_36 sz_36 h98) fun a F => ?_
     as_aux_lemma =>
     refine qy F (congrArg not hb181) ?_; refine qv F (r_loads (cs := [.slice A161 t155.1.Key.length C162, .slice A164 t155.1.Value.length C165, .int .i64 t155.1.Rev]) F rfl ag_36 sz_36 h172) fun a F => ?_; obtain ⟨t182, q183, H⟩ := bind_some H; refine qy F (congrArg not hb181) ?_; refine qc F Try.func14 (haulagelaw10_sameRow.calls k (m := m + 7) (pl hm0) B h147 h150 h163 h166 _ q183) ?_; rintro e w185 ⟨c184, rfl, E186, B⟩; refine rt fun a F => ?_; replace h64 := h64.ev E186; replace h98 := h98.ev E186; replace h9 := h9.ev E186; replace h41 := h41.ev E186; replace h147 := h147.ev E186; replace h150 := h150.ev E186; replace E := E.n E186; refine qy F (congrArg not hb181) ?_; refine qv F (r_not F rfl) fun a F => ?_; refine qv F (r_pick_f F rfl (congrArg not hb181) rfl) fun a F => ?_; refine qm F fun a F => ?_
     by_cases hb189 : t182 = true
     ·replace H := ip hb189 H; refine qy F (congrArg not hb189) ?_; refine qf F ff_33_0 fun a F => ?_; refine qy F (congrArg not hb189) ?_
      as_aux_lemma =>
      refine ql F ag_27 h64 fun a F => ?_; refine qy F (congrArg not hb189) ?_; refine qv F (r_lensl F Try.underlying27 rfl) fun a F => ?_; refine qy F (congrArg not hb189) ?_; refine qm F fun a F => ?_; refine qy F (congrArg not hb189) ?_; refine qv F (r_lensl F Try.underlying27 rfl) fun a F => ?_; refine qy F (congrArg not hb189) ?_; refine qv F (r_gtr F rfl rfl) fun a F => ?_; refine qv F (r_pick_f F rfl (congrArg not hb189) rfl) fun a F => ?_; refine nil ?_; exact J191 c184 w185 a (decide ((t31.2.length : Int) < (t48.Rows.length : Int))) (F.sub ⟨rfl, rfl, rfl, rfl, rfl, trivial⟩) E B h98 h9 h41 h147 h150 H
     replace H := im hb189 H; refine qn F (congrArg not (bfalse hb189)) fun a F => qn F (congrArg not (bfalse hb189)) fun a F => qn F (congrArg not (bfalse hb189)) fun a F => qn F (congrArg not (bfalse hb189)) fun a F => qn F (congrArg not (bfalse hb189)) fun a F => qn F (congrArg not (bfalse hb189)) fun a F => ?_; refine qv F (r_pick_t F rfl (congrArg not (bfalse hb189)) rfl) fun a F => ?_; refine nil ?_; exact J191 c184 w185 a true (F.sub ⟨rfl, rfl, rfl, rfl, rfl, trivial⟩) E B h98 h9 h41 h147 h150 H
    replace H := im hb181 H; refine qn F (congrArg not (bfalse hb181)) fun a F => qn F (congrArg not (bfalse hb181)) fun a F => qn F (congrArg not (bfalse hb181)) fun a F => qn F (congrArg not (bfalse hb181)) fun a F => ?_; refine qv F (r_pick_t F rfl (congrArg not (bfalse hb181)) rfl) fun a F => ?_; refine qm F fun a F => qn F rfl fun a F => qn F rfl fun a F => qn F rfl fun a F => qn F rfl fun a F => qn F rfl fun a F => qn F rfl fun a F => ?_; refine qt F fun a F => ?_
    as_aux_lemma =>
    refine nil ?_; exact J191 c168 w175 a true (F.sub ⟨rfl, rfl, rfl, rfl, rfl, trivial⟩) E B h98 h9 h41 h147 h150 H
   replace H := im hb180 H; refine qn F (congrArg not (dz hb180)) fun a F => qn F (congrArg not (dz hb180)) fun a F => qn F (congrArg not (dz hb180)) fun a F => ?_; refine qv F (r_pick_t F rfl (congrArg not (dz hb180)) rfl) fun a F => ?_; refine qm F fun a F => qn F rfl fun a F => qn F rfl fun a F => qn F rfl fun a F => qn F rfl fun a F => ?_; refine qt F fun a F => ?_; refine qm F fun a F => qn F rfl fun a F => qn F rfl fun a F => qn F rfl fun a F => qn F rfl fun a F => qn F rfl fun a F => qn F rfl fun a F => ?_; refine qt F fun a F => ?_; refine nil ?_; exact J191 c168 w175 a true (F.sub ⟨rfl, rfl, rfl, rfl, rfl, trivial⟩) E B h98 h9 h41 h147 h150 H
  refine regD (SB (fun x => x = m + 5) c60 w68) 14 (.q 0 (.q 2 (.q 3 (.q 4 (.f 1 (.f 5 (.q 6 (.q 7 (.q 8 (.q 9 (.e 10 (.e 11 (.q 12 (.q 13 .nil)))))))) 10 (.e 5 (.q 6 (.q 7 (.q 8 (.q 9 (.e 11 (.q 12 (.q 13 .nil))))))))) 10 (.e 1 (.e 5 (.q 6 (.q 7 (.q 8 (.q 9 (.e 11 (.q 12 (.q 13 .nil)))))))))))))) Try_hm (by decide +kernel) ?_; intro w72 w1_ w2_ w3_ w4_; have E73 : Ev No c60 w68 c60 w72 := Ev.same w1_ w2_ w3_ w4_; replace B := B.same w1_; have zh64 := h64; have ER : Ev (fun x => x = m + 5) c60 w68 c60 w72 := Ev.same w1_ w2_ w3_ w4_; replace h9 := h9.ev E73; replace h38 := h38.ev E73; replace h41 := h41.ev E73; replace h56 := h56.ev E73; replace h58 := h58.ev E73
  as_aux_lemma =>
  replace h64 := h64.ev E73; replace E := E.n E73; refine dm F ER.sb fun a F => ?_; refine dm F ER.sb fun a F => ?_; refine dm F ER.sb fun a F => ?_; refine dq F (fun wq hS => r_loadsS (cs := (([.slice A54 t48.Rows.length C55] : List Value) ++ (cs57 ++ (([] : List Value))))) F rfl ag_33 sz_33 (by have l0_ : cs57.length = 8 := (h58.1 : cs57.length = 8); simp only [List.length_append, List.length_cons, List.length_nil] <;> omega) (AT.ev zh64 hS mm)) ER.sb fun a F => ?_; refine d_f ?_ ?_
  ·obtain ⟨t74, q75, H⟩ := bind_some H; refine oc F Try.func12 (merkle_Tree_Root.calls (m := m + 7) (pl hm0) B h38 lm ⟨lm, mm⟩ _ q75) ?_; rintro e w77 ⟨c76, rfl, E78, B⟩; refine rt fun a F => ?_; replace ER := ER.trans E78 nx; replace h9 := h9.ev E78; replace h38 := h38.ev E78; replace h41 := h41.ev E78; replace h56 := h56.ev E78; replace h58 := h58.ev E78; replace h64 := h64.ev E78; replace E := E.n E78; refine ⟨fun _ => ER.sb, ?_⟩; refine d_f ?_ ?_
   ·obtain ⟨t81, q82, H⟩ := bind_some H; refine oc F Try.func11 (merkle_Check.calls k (m := m + 7) (pl hm0) B h9 h56 h58 _ q82) ?_; rintro e w84 ⟨c83, A87, C88, A90, C91, rfl, E85, B, h89, h92⟩
    as_aux_lemma =>
    refine rt fun a F => ?_; replace ER := ER.trans E85 nx; replace h9 := h9.ev E85; replace h38 := h38.ev E85; replace h41 := h41.ev E85; replace h64 := h64.ev E85; replace E := E.n E85; refine ⟨fun _ => ER.sb, ?_⟩; refine dm F ER.sb fun a F => ?_; refine dq F (fun wq hS => r_extract F rfl rfl) ER.sb fun a F => ?_; refine dq F (fun wq hS => r_extract F rfl rfl) ER.sb fun a F => ?_; refine dq F (fun wq hS => r_extract F rfl rfl) ER.sb fun a F => ?_; refine d_e ?_; refine o_eff F rfl rfl rfl (by decide) (e_alloc F zv_36 c83 (m + 5)) ?_; rintro v w95 a ⟨c94, qa96, rfl, E97, h98, B99⟩ F; replace B := B99 _ B lm; replace ER := ER.trans E97 nx; replace h9 := h9.ev E97; replace h38 := h38.ev E97; replace h41 := h41.ev E97; replace h64 := h64.ev E97; replace h89 := h89.ev E97
    as_aux_lemma =>
    replace h92 := h92.ev E97; replace E := E.n E97; replace h98 : AT _ _ _ _ _ [.slice none 0 0, .slice none 0 0, .int .i64 0] := h98; refine ⟨fun _ => ER.sb, ?_⟩; refine d_e ?_; refine o_eff0 F rfl rfl rfl (e_storeN0 (us := [.slice A87 t81.1.Key.length C88, .slice A90 t81.1.Value.length C91, .int .i64 t81.1.Rev]) F rfl rfl sz_36 h98 (nb rfl) (one_all rfl)) ?_; rintro w101 a ⟨E102, h98, Z103⟩ F; replace B := B.size Z103; replace ER := ER.trans E102 (fun x q => by replace q : x = m + 5 := q; show x = m + 5; omega); replace h9 := h9.ev E102; replace h38 := h38.ev E102; replace h41 := h41.ev E102; replace h64 := h64.ev E102; replace h89 := h89.ev E102; replace h92 := h92.ev E102; replace E := E.trans E102 lc1; replace h98 : AT _ _ _ _ _ [.slice A87 t81.1.Key.length C88, .slice A90 t81.1.Value.length C91, .int .i64 t81.1.Rev] := h98; refine ⟨fun _ => ER.sb, ?_⟩; refine da F ER.sb fun a F => ?_; refine da F ER.sb fun a F => ?_; refine d_nil ?_; exact J151 c94 w101 a qa96 t81 A87 C88 A90 C91 (F.sub ⟨rfl, rfl, rfl, rfl, rfl, rfl, rfl, trivial⟩) E B h64 h98 h9 h38 h41 h89 h92 H
   obtain ⟨t81, q82, H⟩ := bind_some H
   as_aux_lemma =>
   refine o_eff F rfl rfl rfl (by decide) (e_alloc F zv_36 c76 (m + 5)) ?_; rintro v w105 a ⟨c104, qa96, rfl, E106, h98, B107⟩ F; replace B := B107 _ B lm; replace ER := ER.trans E106 nx; replace h9 := h9.ev E106; replace h38 := h38.ev E106; replace h41 := h41.ev E106; replace h56 := h56.ev E106; replace h58 := h58.ev E106; replace h64 := h64.ev E106; replace E := E.n E106; replace h98 : AT _ _ _ _ _ [.slice none 0 0, .slice none 0 0, .int .i64 0] := h98; refine ⟨fun _ => ER.sb, ?_⟩; refine d_e ?_; refine oc F Try.func11 (merkle_Check.calls k (m := m + 7) (pl hm0) B h9 h56 h58 _ q82) ?_; rintro e w109 ⟨c108, A112, C113, A115, C116, rfl, E110, B, h114, h117⟩; refine rt fun a F => ?_; replace ER := ER.trans E110 nx; replace h9 := h9.ev E110; replace h38 := h38.ev E110; replace h41 := h41.ev E110; replace h64 := h64.ev E110
   as_aux_lemma =>
   replace h98 := h98.ev E110; replace E := E.n E110; refine ⟨fun _ => ER.sb, ?_⟩; refine dm F ER.sb fun a F => ?_; refine dq F (fun wq hS => r_extract F rfl rfl) ER.sb fun a F => ?_; refine dq F (fun wq hS => r_extract F rfl rfl) ER.sb fun a F => ?_; refine dq F (fun wq hS => r_extract F rfl rfl) ER.sb fun a F => ?_; refine d_e ?_; refine o_eff0 F rfl rfl rfl (e_storeN0 (us := [.slice A112 t81.1.Key.length C113, .slice A115 t81.1.Value.length C116, .int .i64 t81.1.Rev]) F rfl rfl sz_36 h98 (nb rfl) (one_all rfl)) ?_; rintro w119 a ⟨E120, h98, Z121⟩ F; replace B := B.size Z121; replace ER := ER.trans E120 (fun x q => by replace q : x = m + 5 := q; show x = m + 5; omega); replace h9 := h9.ev E120; replace h38 := h38.ev E120; replace h41 := h41.ev E120; replace h64 := h64.ev E120; replace h114 := h114.ev E120; replace h117 := h117.ev E120; replace E := E.trans E120 lc1; replace h98 : AT _ _ _ _ _ [.slice A112 t81.1.Key.length C113, .slice A115 t81.1.Value.length C116, .int .i64 t81.1.Rev] := h98; refine ⟨fun _ => ER.sb, ?_⟩; refine da F ER.sb fun a F => ?_
   as_aux_lemma =>
   refine da F ER.sb fun a F => ?_; refine d_nil ?_; exact J151 c108 w119 a qa96 t81 A112 C113 A115 C116 (F.sub ⟨rfl, rfl, rfl, rfl, rfl, rfl, rfl, trivial⟩) E B h64 h98 h9 h38 h41 h114 h117 H
  refine o_eff F rfl rfl rfl (by decide) (e_alloc F zv_36 c60 (m + 5)) ?_; rintro v w123 a ⟨c122, qa96, rfl, E124, h98, B125⟩ F; replace B := B125 _ B lm; replace ER := ER.trans E124 nx; replace h9 := h9.ev E124; replace h38 := h38.ev E124; replace h41 := h41.ev E124; replace h56 := h56.ev E124; replace h58 := h58.ev E124; replace h64 := h64.ev E124; replace E := E.n E124; replace h98 : AT _ _ _ _ _ [.slice none 0 0, .slice none 0 0, .int .i64 0] := h98; refine ⟨fun _ => ER.sb, ?_⟩; refine d_e ?_; obtain ⟨t74, q75, H⟩ := bind_some H; refine oc F Try.func12 (merkle_Tree_Root.calls (m := m + 7) (pl hm0) B h38 lm ⟨lm, mm⟩ _ q75) ?_; rintro e w127 ⟨c126, rfl, E128, B⟩; refine rt fun a F => ?_; replace ER := ER.trans E128 nx
  as_aux_lemma =>
  replace h9 := h9.ev E128; replace h38 := h38.ev E128; replace h41 := h41.ev E128; replace h56 := h56.ev E128; replace h58 := h58.ev E128; replace h64 := h64.ev E128; replace h98 := h98.ev E128; replace E := E.n E128; refine ⟨fun _ => ER.sb, ?_⟩; refine d_e ?_; obtain ⟨t81, q82, H⟩ := bind_some H; refine oc F Try.func11 (merkle_Check.calls k (m := m + 7) (pl hm0) B h9 h56 h58 _ q82) ?_; rintro e w132 ⟨c131, A135, C136, A138, C139, rfl, E133, B, h137, h140⟩; refine rt fun a F => ?_; replace ER := ER.trans E133 nx; replace h9 := h9.ev E133; replace h38 := h38.ev E133; replace h41 := h41.ev E133; replace h64 := h64.ev E133; replace h98 := h98.ev E133; replace E := E.n E133; refine ⟨fun _ => ER.sb, ?_⟩
  as_aux_lemma =>
  refine dm F ER.sb fun a F => ?_; refine dq F (fun wq hS => r_extract F rfl rfl) ER.sb fun a F => ?_; refine dq F (fun wq hS => r_extract F rfl rfl) ER.sb fun a F => ?_; refine dq F (fun wq hS => r_extract F rfl rfl) ER.sb fun a F => ?_; refine d_e ?_; refine o_eff0 F rfl rfl rfl (e_storeN0 (us := [.slice A135 t81.1.Key.length C136, .slice A138 t81.1.Value.length C139, .int .i64 t81.1.Rev]) F rfl rfl sz_36 h98 (nb rfl) (one_all rfl)) ?_; rintro w142 a ⟨E143, h98, Z144⟩ F; replace B := B.size Z144; replace ER := ER.trans E143 (fun x q => by replace q : x = m + 5 := q; show x = m + 5; omega); replace h9 := h9.ev E143; replace h38 := h38.ev E143; replace h41 := h41.ev E143; replace h64 := h64.ev E143; replace h137 := h137.ev E143; replace h140 := h140.ev E143; replace E := E.trans E143 lc1; replace h98 : AT _ _ _ _ _ [.slice A135 t81.1.Key.length C136, .slice A138 t81.1.Value.length C139, .int .i64 t81.1.Rev] := h98; refine ⟨fun _ => ER.sb, ?_⟩; refine da F ER.sb fun a F => ?_; refine da F ER.sb fun a F => ?_; refine d_nil ?_; exact J151 c131 w142 a qa96 t81 A135 C136 A138 C139 (F.sub ⟨rfl, rfl, rfl, rfl, rfl, rfl, rfl, trivial⟩) E B h64 h98 h9 h38 h41 h137 h140 H
 as_aux_lemma =>
 replace H := im hb20 H; refine wct (fb F (congrArg not (bfalse hb20))) ?_; refine sr fun K21 hK21 => qa F fun a F => nil (hK21 _ _ ?_); refine wp_ret ?_; refine thenR ?_; obtain rfl := si H; refine out1 F rfl rfl ?_; exact ⟨cf (ct m) c15, rfl, E.lv B0, cfb⟩
end Go.Proofs.Ytdnaoecfnjalgaa.G
namespace Go.Proofs.Ytdnaoecfnjalgaa.G
open Go Go.ChangeShapes Go.WideShapes
set_option linter.unusedVariables false
set_option linter.unusedSimpArgs false
theorem bulk_one {H : Type} (d : DataW H) : 1 ≤ Rows.uptoBulk d := by
 cases d with
 | lit l => cases l <;> simp [Rows.uptoBulk]
 | nil => simp [Rows.uptoBulk]
 | ptr d => simp [Rows.uptoBulk]
 | slice elems spare => simp [Rows.uptoBulk]
 | agg parts => simp [Rows.uptoBulk]
 | iface t d => simp [Rows.uptoBulk]
 | map entries => simp [Rows.uptoBulk]
 | held h => simp [Rows.uptoBulk]
theorem bulk_slice {H : Type} (elems spare : List (DataW H)) : Rows.uptoBulkAll elems + 1 ≤ Rows.uptoBulk (.slice elems spare) := by
 simp only [Rows.uptoBulk]
 omega
theorem bulk_agg {H : Type} (parts : List (DataW H)) : Rows.uptoBulkAll parts + 1 ≤ Rows.uptoBulk (.agg parts) := by
 simp only [Rows.uptoBulk]
 omega
theorem bulk_all {H : Type} : ∀ l : List (DataW H), Rows.uptoBulkAll l = (l.map Rows.uptoBulk).sum
 | [] => by simp [Rows.uptoBulkAll]
 | d :: l => by simp [Rows.uptoBulkAll, bulk_all l]
def c0 : Nat → Nat := fun _ => 0
def Opens {α : Type} (P : Program) (w : World) (t : TypeId) (e : K α) (wt : α → Nat) (ok : α → Prop) : Prop :=
 ∀ (H : Type) (enc : TypeId × Value → H) (fuel : Nat) (cs : List Value) (x : DataW H × List MemPlace), DataW.trod enc P w 0 (fun _ => true) true fuel t cs = some x → ∃ y, e.rep 0 c0 w cs y ∧ wt y ≤ Rows.uptoBulk x.1 ∧ ok y
section
variable {α : Type} {P : Program} {w : World} {t u : TypeId} {e : K α} {wt : α → Nat} {ok : α → Prop}
theorem opens_int {k : IntKind} (ht : P.underlying t = some (.int k)) : Opens P w t (Kint k) (fun _ => 1) (fun n => (Lit.int k n).wf = true) := by
 intro H enc fuel cs x h
 obtain ⟨n, rfl, rfl, hw⟩ := DataW.trod_int ht h
 exact ⟨n, rfl, bulk_one _, hw⟩
theorem opens_bool (ht : P.underlying t = some .bool) : Opens P w t Kbool (fun _ => 1) (fun _ => True) := by
 intro H enc fuel cs x h
 obtain ⟨n, rfl, rfl⟩ := DataW.trod_bool ht h
 exact ⟨n, rfl, bulk_one _, trivial⟩
theorem at_cell {p : Addr} {v : Value} (h : w.cell? p = some v) : p = ⟨p.block, p.off, none⟩ ∧ ∃ cur ty fz, w.heap[p.block]? = some (.cells cur ty fz) ∧ cur[p.off]? = some v := by
 obtain ⟨b, off, spot⟩ := p
 simp only [World.cell?] at h
 split at h
 ·rename_i c ty fz hb
  cases spot with
  | some s => simp at h
  | none => exact ⟨rfl, c, ty, fz, hb, by simpa using h⟩
 ·cases h
theorem at_cells {p : Addr} {n : Nat} {cs : List Value} (hn : cs.length = n) (hp : 0 < n) (h : ∀ i, i < n → w.cell? (p.add i) = cs[i]?) : AT false 0 c0 w p cs := by
 have h0 := h 0 hp
 have e0 : p.add 0 = p := by simp [Addr.add]
 rw [e0, List.getElem?_eq_getElem (by omega)] at h0
 obtain ⟨ep, cur, ty, fz, hb, hc⟩ := at_cell h0
 refine ⟨p.block, p.off, cur, ty, fz, ep, hb, rfl, fun k hk => ?_, fun q => by cases q⟩
 have hk' := h k (by omega)
 rw [ep, add_eq] at hk'
 simp only [World.cell?, hb] at hk'
 simpa using hk'
theorem sum_le {β γ : Type} (f : β → Nat) (g : γ → Nat) : ∀ (l : List β) (m : List γ), l.length = m.length → (∀ i (h : i < l.length) (h' : i < m.length), f l[i] ≤ g m[i]) → (l.map f).sum ≤ (m.map g).sum
 | [], [], _, _ => Nat.le_refl _
 | [], _ :: _, h, _ => by simp at h
 | _ :: _, [], h, _ => by simp at h
 | a :: l, b :: m, h, hh => by
  simp only [List.map_cons, List.sum_cons]
  have h0 := hh 0 (by simp) (by simp)
  simp only [List.getElem_cons_zero] at h0
  have := sum_le f g l m (by simpa using h) (fun i h1 h2 => by
   have := hh (i + 1) (by simp; omega) (by simp; omega)
   simpa using this)
  omega
theorem open_sl [Inhabited α] (ht : P.underlying t = some (.slice u)) (hc : P.cellsOf u = e.sz) (hu : Opens P w u e wt ok) {H : Type} {enc : TypeId × Value → H} {fuel : Nat} {cs : List Value} {x : DataW H × List MemPlace}
  (h : DataW.trod enc P w 0 (fun _ => true) true fuel t cs = some x) :
  ∃ A cap xs, cs = [.slice A xs.length cap] ∧ SL false e 0 0 c0 w A cap xs ∧ (xs.map wt).sum + 1 ≤ Rows.uptoBulk x.1 ∧ ∀ y ∈ xs, ok y := by
 rcases Deep.open_slice ht h with ⟨rfl, rfl⟩ | ⟨a, len, cap, m, n, D, Pl, rfl, _, hl, hm, hmm, rfl, hx⟩
 ·exact ⟨none, 0, [], rfl, SL.nil, by simp [Rows.uptoBulk], fun y hy => by cases hy⟩
 simp only [if_true] at hmm
 subst hmm
 have hp := e.pos
 rw [hc] at hx
 have each : ∀ i, i < m → ∃ y : List Value × α, (y.1.length = e.sz ∧ ∀ k, k < e.sz → w.cell? ((a.add (i * e.sz)).add k) = y.1[k]?) ∧ e.rep 0 c0 w y.1 y.2 ∧ wt y.2 ≤ Rows.uptoBulk (D i) ∧ ok y.2 := by
  intro i hi
  obtain ⟨cs', h1, h2⟩ := hx i hi
  obtain ⟨_, g1, g2⟩ := World.cells?_some h1
  obtain ⟨y, g3, g4, g5⟩ := hu H enc n cs' _ h2
  exact ⟨(cs', y), ⟨g1, g2⟩, g3, g4, g5⟩
 obtain ⟨y, hy⟩ := Deep.choose_lt each
 let V : Nat → Value := fun q => (y (q / e.sz)).1.getD (q % e.sz) default
 have hV : ∀ i k, k < e.sz → V (i * e.sz + k) = (y i).1.getD k default := by
  intro i k hk
  show (y ((i * e.sz + k) / e.sz)).1.getD ((i * e.sz + k) % e.sz) default = _
  rw [Nat.mul_comm, Nat.mul_add_div hp, Nat.div_eq_of_lt hk, Nat.add_zero, Nat.mul_add_mod, Nat.mod_eq_of_lt hk]
 let cs := (List.range (m * e.sz)).map V
 have hcs : cs.length = m * e.sz := by simp [cs]
 have hcell : ∀ q, q < m * e.sz → w.cell? (a.add q) = cs[q]? := by
  intro q hq
  have hi : q / e.sz < m := (Nat.div_lt_iff_lt_mul hp).2 hq
  have hk : q % e.sz < e.sz := Nat.mod_lt _ hp
  obtain ⟨⟨g1, g2⟩, _⟩ := hy _ hi
  have g := g2 _ hk
  have e1 : (a.add (q / e.sz * e.sz)).add (q % e.sz) = a.add q := by
   have e2 : q / e.sz * e.sz + q % e.sz = q := Nat.div_add_mod' q e.sz
   obtain ⟨b, off, s⟩ := a
   simp only [Addr.add]
   split <;> split <;> split <;> simp_all <;> omega
  rw [e1] at g
  rw [g]
  simp only [cs, List.getElem?_map, List.getElem?_range hq, Option.map_some]
  show _ = some ((y (q / e.sz)).1.getD (q % e.sz) default)
  rw [List.getD_eq_getElem?_getD, List.getElem?_eq_getElem (by omega)]
  rfl
 refine ⟨some a, m, (List.range len).map fun i => (y i).2, by simp, ⟨cs, by simpa using hl, hm, hcs, ?_, fun n hn => ?_⟩, ?_, ?_⟩
 ·rcases Nat.eq_zero_or_pos (m * e.sz) with q | q
  ·left; exact List.length_eq_zero_iff.1 (by omega)
  ·right; exact ⟨a, rfl, at_cells hcs q hcell⟩
 ·simp only [List.length_map, List.length_range] at hn
  obtain ⟨⟨g1, _⟩, g3, _, _⟩ := hy n (by omega)
  have e1 : (cs.drop (n * e.sz)).take e.sz = (y n).1 := by
   apply List.ext_getElem?
   intro k
   by_cases hk : k < e.sz
   ·have hq : n * e.sz + k < m * e.sz := by
     have : (n + 1) * e.sz ≤ m * e.sz := Nat.mul_le_mul_right _ (by omega)
     rw [Nat.succ_mul] at this; omega
    rw [List.getElem?_take_of_lt hk, List.getElem?_drop]
    simp only [cs, List.getElem?_map, List.getElem?_range hq, Option.map_some]
    rw [hV n k hk, List.getD_eq_getElem?_getD, List.getElem?_eq_getElem (by omega)]
    rfl
   ·rw [List.getElem?_eq_none (by simp; omega), List.getElem?_eq_none (by omega)]
  rw [e1]
  simpa using g3
 ·refine Nat.le_trans (Nat.succ_le_succ ?_) (bulk_slice _ _)
  rw [bulk_all]
  rw [List.map_map, List.map_map]
  have := sum_le (fun i => wt (y i).2) (fun i => Rows.uptoBulk (D i)) (List.range len) (List.range len) rfl (fun i h1 h2 => by
   simp only [List.length_range] at h1
   simp only [List.getElem_range]
   exact (hy i (by omega)).2.2.1)
  exact this
 ·intro z hz
  obtain ⟨i, hi, rfl⟩ := List.mem_map.1 hz
  exact (hy i (by have := List.mem_range.1 hi; omega)).2.2.2
theorem opens_slice [Inhabited α] (ht : P.underlying t = some (.slice u)) (hc : P.cellsOf u = e.sz) (hu : Opens P w u e wt ok) : Opens P w t (Kslice e) (fun xs => (xs.map wt).sum + 1) (fun xs => ∀ y ∈ xs, ok y) := by
 intro H enc fuel cs x h
 obtain ⟨A, cap, xs, h1, h2, h3, h4⟩ := open_sl ht hc hu h
 exact ⟨xs, ⟨A, cap, h1, h2⟩, h3, h4⟩
end
end Go.Proofs.Ytdnaoecfnjalgaa.G
namespace Go.Proofs.Ytdnaoecfnjalgaa.G
open Go Go.ChangeShapes Go.WideShapes
set_option linter.unusedVariables false
theorem row_own : ownKnob Try.prog.godebug = none := by kernel_rfl
theorem row_laidOut : laidOutB Try.prog = true := by kernel_rfl
def intok (n : Int) : Prop := (Lit.int .i64 n).wf = true
theorem intok.range {n : Int} (h : intok n) : -9223372036854775808 ≤ n ∧ n ≤ 9223372036854775807 := by simpa [intok, Lit.wf, IntKind.min, IntKind.max, IntKind.signed, IntKind.bits] using h
def byteok (n : Int) : Prop := (Lit.int .u8 n).wf = true
def bytesok (xs : List Int) : Prop := ∀ n ∈ xs, byteok n
theorem byteok.range {n : Int} (h : byteok n) : 0 ≤ n ∧ n ≤ 255 := by simpa [byteok, Lit.wf, IntKind.min, IntKind.max, IntKind.signed, IntKind.bits] using h
theorem sum_one {α : Type} (xs : List α) : (xs.map fun _ => 1).sum = xs.length := by
 induction xs with
 | nil => rfl
 | cons x xs ih => simp [ih]; omega
theorem mem_sum {α : Type} (f : α → Nat) : ∀ {xs : List α} {x : α}, x ∈ xs → f x ≤ (xs.map f).sum
 | y :: xs, x, h => by
  rcases List.mem_cons.1 h with e | h
  ·subst e; simp
  ·have := mem_sum f h; simp only [List.map_cons, List.sum_cons]; omega
theorem len_sum {α : Type} (f : α → Nat) (hf : ∀ x, 1 ≤ f x) : ∀ xs : List α, xs.length ≤ (xs.map f).sum
 | [] => Nat.le_refl _
 | x :: xs => by have := len_sum f hf xs; have := hf x; simp only [List.map_cons, List.sum_cons, List.length_cons]; omega
theorem cells_3 : Try.prog.cellsOf 3 = 1 := by kernel_rfl
theorem cells_4 : Try.prog.cellsOf 4 = 1 := by kernel_rfl
theorem cells_5 : Try.prog.cellsOf 5 = 1 := by kernel_rfl
theorem cells_23 : Try.prog.cellsOf 23 = 1 := by kernel_rfl
theorem cells_36 : Try.prog.cellsOf 36 = 3 := by kernel_rfl
theorem cells_69 : Try.prog.cellsOf 69 = 4 := by kernel_rfl
theorem opens_bytes {w : World} : Opens Try.prog w 23 (Kslice (Kint .u8)) (fun xs => xs.length + 1) bytesok := by
 intro H enc fuel cs x h
 obtain ⟨y, h1, h2, h3⟩ := opens_slice (e := Kint .u8) Try.underlying23 cells_5 (opens_int Try.underlying5) H enc fuel cs x h
 have h2' : (y.map fun _ => 1).sum + 1 ≤ Rows.uptoBulk x.1 := h2
 rw [sum_one] at h2'
 exact ⟨y, h1, h2', h3⟩
abbrev wt_api_Row (o : api_Row) : Nat := o.Key.length + o.Value.length + 1
def ok_api_Row (o : api_Row) : Prop := bytesok o.Key ∧ bytesok o.Value ∧ intok o.Rev
set_option maxRecDepth 100000 in
theorem opens_api_Row {w : World} : Opens Try.prog w 36 K_api_Row wt_api_Row ok_api_Row := by
 intro H enc fuel cs x h
 obtain ⟨xs, n, rfl, rfl, hl, hxl, hf⟩ := DataW.trod_struct Try.underlying36 h
 rw [cells_36] at hl
 match cs, hl with
 | [v0, v1, v2], _ =>
  match xs, hxl with
  | [x0, x1, x2], _ =>
   have g0 : DataW.trod enc Try.prog w 0 (fun _ => true) true n 23 (([v0, v1, v2].drop 0).take (Try.prog.cellsOf 23)) = some x0 := hf 0 _ rfl
   rw [cells_23] at g0
   replace g0 : DataW.trod enc Try.prog w 0 (fun _ => true) true n 23 [v0] = some x0 := g0
   obtain ⟨y0, ⟨A0, C0, e0, s0⟩, b0, k0⟩ := opens_bytes (w := w) H enc n _ _ g0
   have g1 : DataW.trod enc Try.prog w 0 (fun _ => true) true n 23 (([v0, v1, v2].drop 1).take (Try.prog.cellsOf 23)) = some x1 := hf 1 _ rfl
   rw [cells_23] at g1
   replace g1 : DataW.trod enc Try.prog w 0 (fun _ => true) true n 23 [v1] = some x1 := g1
   obtain ⟨y1, ⟨A1, C1, e1, s1⟩, b1, k1⟩ := opens_bytes (w := w) H enc n _ _ g1
   have g2 : DataW.trod enc Try.prog w 0 (fun _ => true) true n 3 (([v0, v1, v2].drop 2).take (Try.prog.cellsOf 3)) = some x2 := hf 2 _ rfl
   rw [cells_3] at g2
   replace g2 : DataW.trod enc Try.prog w 0 (fun _ => true) true n 3 [v2] = some x2 := g2
   obtain ⟨y2, r2, -, k2⟩ := opens_int (w := w) Try.underlying3 H enc n _ _ g2
   obtain rfl := List.head_eq_of_cons_eq e0
   obtain rfl := List.head_eq_of_cons_eq e1
   obtain rfl : v2 = .int .i64 y2 := List.head_eq_of_cons_eq r2
   refine ⟨⟨y0, y1, y2⟩, ⟨A0, C0, A1, C1, rfl, s0, s1⟩, ?_, ⟨k0, k1, k2⟩⟩
   refine Nat.le_trans ?_ (bulk_agg _)
   simp only [List.map_cons, List.map_nil, Rows.uptoBulkAll]
   have q0 : y0.length + 1 ≤ Rows.uptoBulk x0.1 := b0
   have q1 : y1.length + 1 ≤ Rows.uptoBulk x1.1 := b1
   have q2 := bulk_one x2.1
   show y0.length + y1.length + 1 ≤ _
   omega
abbrev wt_haulagelaw10_Change (o : haulagelaw10_Change) : Nat := wt_api_Row o.Row + 1
def ok_haulagelaw10_Change (o : haulagelaw10_Change) : Prop := ok_api_Row o.Row
set_option maxRecDepth 100000 in
theorem opens_haulagelaw10_Change {w : World} : Opens Try.prog w 69 K_haulagelaw10_Change wt_haulagelaw10_Change ok_haulagelaw10_Change := by
 intro H enc fuel cs x h
 obtain ⟨xs, n, rfl, rfl, hl, hxl, hf⟩ := DataW.trod_struct Try.underlying69 h
 rw [cells_69] at hl
 match cs, hl with
 | [v0, v1, v2, v3], _ =>
  match xs, hxl with
  | [x0, x1], _ =>
   have g0 : DataW.trod enc Try.prog w 0 (fun _ => true) true n 36 (([v0, v1, v2, v3].drop 0).take (Try.prog.cellsOf 36)) = some x0 := hf 0 _ rfl
   rw [cells_36] at g0
   replace g0 : DataW.trod enc Try.prog w 0 (fun _ => true) true n 36 [v0, v1, v2] = some x0 := g0
   obtain ⟨y0, ⟨m0_0, m0_1, m0_2, m0_3, e0, s0_0, s0_1⟩, b0, k0⟩ := opens_api_Row (w := w) H enc n _ _ g0
   have g1 : DataW.trod enc Try.prog w 0 (fun _ => true) true n 4 (([v0, v1, v2, v3].drop 3).take (Try.prog.cellsOf 4)) = some x1 := hf 1 _ rfl
   rw [cells_4] at g1
   replace g1 : DataW.trod enc Try.prog w 0 (fun _ => true) true n 4 [v3] = some x1 := g1
   obtain ⟨y1, r1, -, -⟩ := opens_bool (w := w) Try.underlying4 H enc n _ _ g1
   simp only [List.cons.injEq, and_true] at e0
   obtain ⟨rfl, rfl, rfl⟩ := e0
   obtain rfl : v3 = .bool y1 := List.head_eq_of_cons_eq r1
   refine ⟨⟨y0, y1⟩, ⟨m0_0, m0_1, m0_2, m0_3, rfl, s0_0, s0_1⟩, ?_, k0⟩
   refine Nat.le_trans ?_ (bulk_agg _)
   simp only [List.map_cons, List.map_nil, Rows.uptoBulkAll]
   have q0 : wt_api_Row y0 ≤ Rows.uptoBulk x0.1 := b0
   have q1 := bulk_one x1.1
   show wt_api_Row y0 + 1 ≤ _
   omega
theorem wt_haulagelaw10_Change_pos (o : haulagelaw10_Change) : 1 ≤ wt_haulagelaw10_Change o := by unfold wt_haulagelaw10_Change; omega
theorem arg_changes {H : Type} {enc : TypeId × Value → H} {w : World} {v : Value} {d : DataW H} {p : List MemPlace} (hv : ∃ a len cap, v = .slice a len cap) (h : DataW.Trod enc Try.prog w 0 (fun _ => true) true 22 v d p) :
  ∃ A C xs, v = .slice A xs.length C ∧ SL false K_haulagelaw10_Change 0 0 c0 w A C xs ∧ (xs.map wt_haulagelaw10_Change).sum + 1 ≤ Rows.uptoBulk d ∧ ∀ o ∈ xs, ok_haulagelaw10_Change o := by
 obtain ⟨a, len, cap, rfl⟩ := hv
 obtain ⟨fuel, hf⟩ := h
 obtain ⟨A, C, xs, e, h1, h2, h3⟩ := open_sl (e := K_haulagelaw10_Change) Try.underlying22 cells_69 opens_haulagelaw10_Change hf
 refine ⟨A, C, xs, ?_, h1, h2, h3⟩
 have e' : [Value.slice a len cap] = [.slice A xs.length C] := e
 exact List.head_eq_of_cons_eq e'
theorem arg_key {H : Type} {enc : TypeId × Value → H} {w : World} {v : Value} {d : DataW H} {p : List MemPlace} (hv : ∃ a len cap, v = .slice a len cap) (h : DataW.Trod enc Try.prog w 0 (fun _ => true) true 23 v d p) :
  ∃ A C xs, v = .slice A xs.length C ∧ SL false (Kint .u8) 0 0 c0 w A C xs ∧ (xs.map (fun _ => 1)).sum + 1 ≤ Rows.uptoBulk d ∧ ∀ o ∈ xs, (fun n => (Lit.int .u8 n).wf = true) o := by
 obtain ⟨a, len, cap, rfl⟩ := hv
 obtain ⟨fuel, hf⟩ := h
 obtain ⟨A, C, xs, e, h1, h2, h3⟩ := open_sl (e := (Kint .u8)) Try.underlying23 cells_5 (opens_int Try.underlying5) hf
 refine ⟨A, C, xs, ?_, h1, h2, h3⟩
 have e' : [Value.slice a len cap] = [.slice A xs.length C] := e
 exact List.head_eq_of_cons_eq e'
end Go.Proofs.Ytdnaoecfnjalgaa.G
namespace Go.Proofs.Ytdnaoecfnjalgaa.G
open Go
set_option linter.unusedVariables false
set_option linter.unusedSimpArgs false
theorem wr {n : Int} (h0 : -1000000000000000000 ≤ n) (h1 : n ≤ 1000000000000000000) : IntKind.i64.wrap n = n := by rw [IntKind.wrap_i64]; omega
theorem loop_next {S X : Type} {f : S → Option (Ctl S X)} {n : Nat} {s s' : S} (h : f s = some (.next s')) : loop f (n + 1) s = loop f n s' := by
 show (f s).bind _ = _; rw [h]; rfl
theorem loop_done {S X : Type} {f : S → Option (Ctl S X)} {n : Nat} {s : S} {x : X} (h : f s = some (.done x)) : loop f (n + 1) s = some x := by
 show (f s).bind _ = _; rw [h]; rfl
abbrev Fuel (k : Nat) : Prop := 1099511627776 ≤ k
theorem bind_eq {α β : Type} {x : Option α} {f : α → Option β} {a : α} (h : x = some a) : x.bind f = f a := by rw [h]; rfl
theorem shr7u (n : Nat) : shr .u64 (n : Int) 7 = ((n / 128 : Nat) : Int) := by
 unfold shr
 have : (2 : Int) ^ (min (7 : Int).toNat IntKind.u64.bits) = 128 := by decide
 rw [this, Int.fdiv_eq_ediv_of_nonneg _ (by omega)]
 omega
def nmF : Nat → Nat → Nat
 | 0, _ => 0
 | f + 1, n => if n ≤ 127 then 0 else nmF f (n / 128) + 1
theorem nmF_le : ∀ f n, nmF f n ≤ f
 | 0, _ => Nat.le_refl _
 | f + 1, n => by
  have := nmF_le f (n / 128)
  unfold nmF; split <;> omega
theorem rd_eq {α : Type} [Inhabited α] {xs : List α} {i : Nat} (h : i < xs.length) : rd xs (i : Int) = xs[i] := by
 unfold rd
 rw [Int.toNat_natCast, List.getD_eq_getElem?_getD, List.getElem?_eq_getElem h]
 rfl
theorem take_one {α : Type} {xs : List α} {i : Nat} (h : i < xs.length) : xs.take (i + 1) = xs.take i ++ [xs[i]] := by
 rw [List.take_add_one, List.getElem?_eq_getElem h]; rfl
theorem wrS (i : Nat) (h : i < 1000000000000) : IntKind.i64.wrap ((i : Int) + 1) = ((i + 1 : Nat) : Int) := by rw [wr (by omega) (by omega)]; omega
theorem loop_inv {S X : Type} {f : S → Option (Ctl S X)} {I : Nat → S → Prop} {P : X → Prop} {N : Nat}
  (step : ∀ i s, i < N → I i s → (∃ s', f s = some (.next s') ∧ I (i + 1) s') ∨ (∃ x, f s = some (.done x) ∧ P x))
  (last : ∀ s, I N s → ∃ x, f s = some (.done x) ∧ P x) : ∀ (n i : Nat) (s : S) (m : Nat), I i s → i + n = N → n < m → ∃ x, loop f m s = some x ∧ P x
 | _, _, _, 0, _, _, h => absurd h (by omega)
 | 0, i, s, m + 1, hI, hN, _ => by
  obtain rfl : i = N := by omega
  obtain ⟨x, h1, h2⟩ := last s hI
  exact ⟨x, loop_done h1, h2⟩
 | n + 1, i, s, m + 1, hI, hN, hm => by
  rcases step i s (by omega) hI with ⟨s', h1, h2⟩ | ⟨x, h1, h2⟩
  ·rw [loop_next h1]
   exact loop_inv step last n (i + 1) s' m h2 (by omega) (by omega)
  ·exact ⟨x, loop_done h1, h2⟩
def fmP : Nat → Nat → List Int
 | 0, _ => []
 | f + 1, n => if n ≤ 127 then [] else bor .u8 (IntKind.u8.wrap n) 128 :: fmP f (n / 128)
def fmL : Nat → Nat → Nat
 | 0, n => n
 | f + 1, n => if n ≤ 127 then n else fmL f (n / 128)
theorem fmP_len : ∀ f n, (fmP f n).length = nmF f n
 | 0, _ => rfl
 | f + 1, n => by
  unfold fmP nmF
  split
  ·rfl
  ·rw [List.length_cons, fmP_len f]
theorem form_loop : ∀ (f n k : Nat) (l : List Int), n < 128 ^ f → f < k → l.length + f < 1000 → loop (fun (s_ : Int × List Int) => parcel_form.b1 s_.1 s_.2) k ((n : Int), l) = some ((fmL f n : Int), l ++ fmP f n)
 | _, _, 0, _, _, h, _ => absurd h (by omega)
 | 0, n, k + 1, l, h, _, _ => by
  have : n = 0 := by simpa using h
  subst this
  rw [loop_done (x := ((0 : Int), l))]
  ·simp [fmP, fmL]
  ·simp [parcel_form.b1]
 | f + 1, n, k + 1, l, h, hk, hs => by
  by_cases c : n ≤ 127
  ·rw [loop_done (x := ((n : Int), l))]
   ·simp [fmP, fmL, c]
   ·unfold parcel_form.b1; rw [if_neg (by omega)]
  ·have hd : n / 128 < 128 ^ f := by rw [Nat.pow_succ] at h; omega
   rw [loop_next (s' := (((n / 128 : Nat) : Int), l ++ [bor .u8 (IntKind.u8.wrap n) 128]))]
   ·rw [form_loop f (n / 128) k _ hd (by omega) (by simp; omega)]
    simp [fmP, fmL, c]
   ·unfold parcel_form.b1
    rw [if_pos (by omega), if_pos (by simp; omega), shr7u]
theorem wru {n : Int} (h0 : 0 ≤ n) (h1 : n < 9223372036854775808) : IntKind.u64.wrap n = n := by
 simp only [IntKind.wrap, IntKind.bits, IntKind.signed]; simp; omega
abbrev W (room : Int) (b : List Int) : Option Wri := some ⟨room, b, [], 0⟩
theorem lay_eq {room : Int} {b a : List Int} (h1 : (b.length + a.length : Nat) ≤ room) (h2 : room ≤ 1000000000000) : parcel_Writer_lay.f (W room b) a = some (W room (b ++ a)) := by
 unfold parcel_Writer_lay.f parcel_Writer_whole.f
 simp only [Option.isNone_some, Bool.false_eq_true, if_false, Option.bind_some, decide_true, if_true]
 rw [wr (by omega) (by omega), if_neg (by omega), if_pos (by omega)]
theorem concat_eq {k : Nat} (hk : Fuel k) {x y : List Int} (h : x.length + y.length < 2000000000000) : slices_Concat.f k [x, y] = some (x ++ y) := by
 have h24 : 1099511627776 ≤ k := hk
 obtain ⟨q, rfl⟩ : ∃ q, k = q + 1 + 1 + 1 := ⟨k - 3, by omega⟩
 unfold slices_Concat.f
 have e1 : loop (fun (s_ : Int × Int) => slices_Concat.b1 [x, y] s_.1 s_.2) (q + 1 + 1 + 1) (0, 0) = some ((x.length + y.length : Nat) : Int) := by
  rw [loop_next (s' := ((x.length : Int), (1 : Int)))]
  ·rw [loop_next (s' := (((x.length + y.length : Nat) : Int), (2 : Int)))]
   ·refine loop_done ?_
    simp [slices_Concat.b1]
   ·have r1 : rd [x, y] 1 = y := rfl
    have w1 : IntKind.i64.wrap ((x.length : Int) + (y.length : Int)) = ((x.length + y.length : Nat) : Int) := by rw [wr (by omega) (by omega)]; omega
    unfold slices_Concat.b1
    simp only [r1, w1]
    rw [if_pos (by simp), if_pos (by simp), if_neg (by omega)]
    rfl
  ·have r1 : rd [x, y] 0 = x := rfl
   have w1 : IntKind.i64.wrap (0 + (x.length : Int)) = (x.length : Int) := by rw [wr (by omega) (by omega)]; omega
   unfold slices_Concat.b1
   simp only [r1, w1]
   rw [if_pos (by simp), if_pos (by simp), if_neg (by omega)]
   rfl
 rw [bind_eq e1]
 unfold slices_Concat.j2
 have e2 : slices_Grow.f [] ((x.length + y.length : Nat) : Int) = some [] := by
  unfold slices_Grow.f; rw [if_pos ⟨by omega, by omega, rfl⟩]
 rw [bind_eq e2]
 have e3 : loop (fun (s_ : (List Int) × Int) => slices_Concat.b3 [x, y] s_.1 s_.2) (q + 1 + 1 + 1) ([], 0) = some (x ++ y) := by
  rw [loop_next (s' := (x, (1 : Int)))]
  ·rw [loop_next (s' := (x ++ y, (2 : Int)))]
   ·refine loop_done ?_
    simp [slices_Concat.b3]
   ·have r1 : rd [x, y] 1 = y := rfl
    unfold slices_Concat.b3
    simp only [r1]
    rw [if_pos (by simp), if_pos (by simp), if_pos (by omega)]
    rfl
  ·have r1 : rd [x, y] 0 = x := rfl
   unfold slices_Concat.b3
   simp only [r1]
   rw [if_pos (by simp), if_pos (by simp), if_pos (by simp; omega)]
   rfl
 rw [bind_eq e3]
 rfl
theorem done_eq {room : Int} {b : List Int} (h : b.length ≤ 1000000000000) : parcel_Writer_Done.f (W room b) = some (b, 0) := by
 unfold parcel_Writer_Done.f
 simp only [Option.isNone_some, Bool.false_eq_true, if_false, Option.bind_some, if_true, List.length_nil]
 rw [if_neg (by omega), if_pos (by omega)]
 simp
theorem u64_range (x : Int) : ∃ n : Nat, IntKind.u64.wrap x = (n : Int) ∧ n < 18446744073709551616 := by
 refine ⟨(IntKind.u64.wrap x).toNat, ?_, ?_⟩ <;> simp only [IntKind.wrap, IntKind.bits, IntKind.signed] <;> simp <;> omega
theorem down_tot {k : Nat} (hk : Fuel k) (x : Int) : ∃ l, parcel_downuint64.f k (List.replicate 8 (0 : Int)) x = some l ∧ l.length = 8 := by
 have h24 : 1099511627776 ≤ k := hk
 unfold parcel_downuint64.f
 have L := loop_inv (f := fun (s_ : (List Int) × Int × Int) => parcel_downuint64.b1 (List.replicate 8 (0 : Int)) s_.1 s_.2.1 s_.2.2) (I := fun i s => s.1.length = 8 ∧ s.2.2 = (i : Int)) (P := fun l => l.length = 8) (N := 8) ?_ ?_ 8 0 (List.replicate 8 (0 : Int), x, 0) k ⟨rfl, rfl⟩ rfl (by omega)
 ·obtain ⟨l, e, h⟩ := L
  rw [bind_eq e]
  exact ⟨l, by unfold parcel_downuint64.j2; rw [if_pos (by rw [h]; rfl)], h⟩
 ·rintro i ⟨l, y, j⟩ hi ⟨hl, hj⟩
  left
  simp only at hj hl; subst hj
  simp only [parcel_downuint64.b1]
  rw [if_pos (by simp; omega), if_pos (by omega), wrS i (by omega)]
  exact ⟨_, rfl, by simpa using hl, rfl⟩
 ·rintro ⟨l, y, j⟩ ⟨hl, hj⟩
  simp only at hj hl; subst hj
  simp only [parcel_downuint64.b1]
  rw [if_neg (by simp)]
  exact ⟨_, rfl, hl⟩
def brange (xs : List Int) : Prop := ∀ n ∈ xs, 0 ≤ n ∧ n ≤ 255
def cm : List Int → List Int → Bool
 | [], [] => false
 | [], _ :: _ => true
 | _ :: _, [] => false
 | a :: x, b :: y => if a = b then cm x y else decide (a < b)
theorem comes_loop (a b : List Int) (ha : a.length < 4000000) : ∀ (n i m : Nat), i + n = a.length → n < m → i ≤ b.length →
  (∃ x, loop (fun (s_ : Int) => haulagelaw10_comes.b2 a b s_) m (i : Int) = some x ∧ (match x with | .inl _ => haulagelaw10_comes.j3 a b | .inr q => some q) = some (cm (a.drop i) (b.drop i)))
 | _, _, 0, _, h, _ => absurd h (by omega)
 | 0, i, m + 1, h, _, hb => by
  refine ⟨Sum.inl (), loop_done ?_, ?_⟩
  ·unfold haulagelaw10_comes.b2 haulagelaw10_comes.j1
   rw [if_neg (by omega), if_neg (by simp)]
  ·show haulagelaw10_comes.j3 a b = _
   unfold haulagelaw10_comes.j3
   rw [List.drop_of_length_le (by omega)]
   congr 1
   by_cases c : i < b.length
   ·rw [List.drop_eq_getElem_cons c, decide_eq_true (by omega)]; rfl
   ·rw [List.drop_of_length_le (by omega), decide_eq_false (by omega)]; rfl
 | n + 1, i, m + 1, h, hm, hb => by
  have hi : i < a.length := by omega
  rw [List.drop_eq_getElem_cons hi]
  by_cases c : i < b.length
  ·rw [List.drop_eq_getElem_cons c]
   by_cases e : a[i] = b[i]
   ·rw [loop_next (s' := ((i + 1 : Nat) : Int))]
    ·have := comes_loop a b ha n (i + 1) m (by omega) (by omega) (by omega)
     simp only [cm, e, if_true]
     exact this
    ·unfold haulagelaw10_comes.b2 haulagelaw10_comes.j1
     rw [if_pos (by omega), if_pos (by simp; omega), if_pos (by omega), if_pos (by omega), rd_eq hi, rd_eq c, if_pos e, wrS i (by omega)]
   ·refine ⟨Sum.inr (decide (a[i] < b[i])), loop_done ?_, ?_⟩
    ·unfold haulagelaw10_comes.b2 haulagelaw10_comes.j1
     rw [if_pos (by omega), if_pos (by simp; omega), if_pos (by omega), if_pos (by omega), rd_eq hi, rd_eq c, if_neg e, if_pos (by omega), if_pos (by omega)]
    ·simp only [cm, if_neg e]
  ·refine ⟨Sum.inl (), loop_done ?_, ?_⟩
   ·unfold haulagelaw10_comes.b2 haulagelaw10_comes.j1
    rw [if_pos (by omega), if_neg (by simp; omega)]
   ·show haulagelaw10_comes.j3 a b = _
    unfold haulagelaw10_comes.j3
    rw [List.drop_of_length_le (show b.length ≤ i by omega)]
    congr 1
    rw [decide_eq_false (by omega)]; rfl
theorem comes_eq {k : Nat} (hk : Fuel k) (a b : List Int) (ha : a.length < 4000000) : haulagelaw10_comes.f k a b = some (cm a b) := by
 have h24 : 1099511627776 ≤ k := hk
 obtain ⟨x, e, h⟩ := comes_loop a b ha a.length 0 k (by omega) (by omega) (Nat.zero_le _)
 unfold haulagelaw10_comes.f
 rw [show (0 : Int) = ((0 : Nat) : Int) from rfl, bind_eq e]
 rw [List.drop_zero, List.drop_zero] at h
 cases x <;> exact h
theorem same_loop (a b : List Int) (hl : a.length = b.length) : ∀ (n i m : Nat), i + n = a.length → n < m → a.length < 4000000000 →
  loop (fun (s_ : Int) => haulagelaw10_same.b1 a b s_) m (i : Int) = some (if a.drop i = b.drop i then Sum.inl () else Sum.inr false)
 | _, _, 0, _, h, _ => absurd h (by omega)
 | 0, i, m + 1, h, _, _ => by
  refine loop_done ?_
  unfold haulagelaw10_same.b1
  rw [if_neg (by omega), if_pos]
  rw [List.drop_of_length_le (by omega), List.drop_of_length_le (by omega)]
 | n + 1, i, m + 1, h, hm, hb => by
  have hi : i < a.length := by omega
  have hj : i < b.length := by omega
  rw [List.drop_eq_getElem_cons hi, List.drop_eq_getElem_cons hj]
  by_cases c : a[i] = b[i]
  ·rw [loop_next (s' := ((i + 1 : Nat) : Int)), same_loop a b hl n (i + 1) m (by omega) (by omega) hb]
   ·simp only [c, List.cons.injEq, true_and]
   ·unfold haulagelaw10_same.b1
    rw [if_pos (by omega), if_pos (by omega), if_pos (by omega), rd_eq hi, rd_eq hj, if_pos c, wrS i (by omega)]
  ·rw [if_neg (by simp only [List.cons.injEq, c, false_and, not_false_eq_true])]
   refine loop_done ?_
   unfold haulagelaw10_same.b1
   rw [if_pos (by omega), if_pos (by omega), if_pos (by omega), rd_eq hi, rd_eq hj, if_neg c]
theorem same_eq {k : Nat} (hk : Fuel k) (a b : List Int) (h : a.length < 4000000000 ∨ b.length < 4000000000) : haulagelaw10_same.f k a b = some (decide (a = b)) := by
 have h24 : 1099511627776 ≤ k := hk
 unfold haulagelaw10_same.f
 by_cases c : a.length = b.length
 ·rw [if_pos (by omega), show (0 : Int) = ((0 : Nat) : Int) from rfl, bind_eq (same_loop a b c a.length 0 k (by omega) (by omega) (by omega))]
  simp only [List.drop_zero]
  by_cases e : a = b
  ·simp [e, haulagelaw10_same.j2]
  ·simp [e]
 ·rw [if_neg (by omega), decide_eq_false (fun e => c (by rw [e]))]
theorem cm_irr : ∀ a : List Int, cm a a = false
 | [] => rfl
 | a :: x => by simp only [cm, if_true]; exact cm_irr x
theorem cm_tr : ∀ {a b c : List Int}, cm a b = true → cm b c = true → cm a c = true
 | [], [], _, h, _ => by cases h
 | [], _ :: _, [], _, h => by simp [cm] at h
 | [], _ :: _, _ :: _, _, _ => rfl
 | _ :: _, [], _, h, _ => by simp [cm] at h
 | _ :: _, _ :: _, [], _, h => by simp [cm] at h
 | a :: x, b :: y, c :: z, h1, h2 => by
  simp only [cm] at h1 h2 ⊢
  by_cases e1 : a = b
  ·subst e1
   rw [if_pos rfl] at h1
   by_cases e2 : a = c
   ·subst e2
    rw [if_pos rfl] at h2 ⊢
    exact cm_tr h1 h2
   ·rw [if_neg e2] at h2 ⊢; exact h2
  ·rw [if_neg e1] at h1
   by_cases e2 : b = c
   ·subst e2; rw [if_neg e1]; exact h1
   ·rw [if_neg e2] at h2
    simp only [decide_eq_true_eq] at h1 h2
    rw [if_neg (by omega)]
    simp only [decide_eq_true_eq]; omega
theorem cm_tri : ∀ {a b : List Int}, cm a b = false → cm b a = false → a = b
 | [], [], _, _ => rfl
 | [], _ :: _, h, _ => by simp [cm] at h
 | _ :: _, [], _, h => by simp [cm] at h
 | a :: x, b :: y, h1, h2 => by
  simp only [cm] at h1 h2
  by_cases e : a = b
  ·subst e
   rw [if_pos rfl] at h1 h2
   rw [cm_tri h1 h2]
  ·rw [if_neg e] at h1
   rw [if_neg (fun q => e q.symm)] at h2
   simp only [decide_eq_false_iff_not] at h1 h2
   omega
theorem cm_asym {a b : List Int} (h : cm a b = true) : cm b a = false := by
 cases e : cm b a with
 | false => rfl
 | true => have := cm_tr h e; rw [cm_irr] at this; cases this
theorem cm_ne {a b : List Int} (h : cm a b = true) : a ≠ b := by rintro rfl; rw [cm_irr] at h; cases h
theorem cm_first : ∀ (a b : List Int) (i : Nat) (ha : i < a.length) (hb : i < b.length), (∀ j (h1 : j < i), a[j] = b[j]) → a[i] ≠ b[i] → cm a b = decide (a[i] < b[i])
 | [], _, i, ha, _, _, _ => absurd ha (by simp)
 | _ :: _, [], i, _, hb, _, _ => absurd hb (by simp)
 | a :: x, b :: y, 0, _, _, _, h => by
  simp only [List.getElem_cons_zero] at h ⊢
  simp only [cm, if_neg h]
 | a :: x, b :: y, i + 1, ha, hb, h1, h => by
  have h0 := h1 0 (by omega)
  simp only [List.getElem_cons_zero] at h0
  simp only [List.getElem_cons_succ] at h ⊢
  simp only [cm, if_pos h0]
  exact cm_first x y i (by simpa using ha) (by simpa using hb) (fun j hj => by have := h1 (j + 1) (by omega); simpa using this) h
theorem cm_none : ∀ (a b : List Int), (∀ j (h1 : j < a.length) (h2 : j < b.length), a[j] = b[j]) → cm a b = decide (a.length < b.length) ∧ (a.length = b.length → a = b)
 | [], [], _ => ⟨rfl, fun _ => rfl⟩
 | [], _ :: _, _ => ⟨by simp [cm], fun h => by simp at h⟩
 | _ :: _, [], _ => ⟨by simp [cm], fun h => by simp at h⟩
 | a :: x, b :: y, h => by
  have h0 := h 0 (by simp) (by simp)
  simp only [List.getElem_cons_zero] at h0
  obtain ⟨h1, h2⟩ := cm_none x y (fun j a b => by have := h (j + 1) (by simpa using a) (by simpa using b); simpa using this)
  refine ⟨?_, fun e => ?_⟩
  ·simp only [cm, if_pos h0, h1, List.length_cons]
   exact decide_eq_decide.2 (by omega)
  ·rw [h0, h2 (by simpa using e)]
theorem bs_get {l : List Int} (h : brange l) {i : Nat} (hi : i < l.length) : (bs l)[i]! = UInt8.ofNat l[i].toNat := by
 have hs : (bs l).size = l.length := by simp [bs, ByteArray.size]
 rw [getElem!_pos (bs l) i (by omega)]
 show (bs l).data[i]'(by simp [bs]; omega) = _
 simp [bs]
theorem bs_size (l : List Int) : (bs l).size = l.length := by simp [bs, ByteArray.size]
theorem u8_lt {x y : Int} (hx : 0 ≤ x ∧ x ≤ 255) (hy : 0 ≤ y ∧ y ≤ 255) : (UInt8.ofNat x.toNat < UInt8.ofNat y.toNat) ↔ x < y := by
 rw [UInt8.lt_iff_toNat_lt]
 simp only [UInt8.toNat_ofNat']
 omega
theorem u8_eq {x y : Int} (hx : 0 ≤ x ∧ x ≤ 255) (hy : 0 ≤ y ∧ y ≤ 255) : (UInt8.ofNat x.toNat = UInt8.ofNat y.toNat) ↔ x = y := by
 rw [← UInt8.toNat_inj]
 simp only [UInt8.toNat_ofNat']
 omega
theorem cmp_eq {a b : List Int} (ha : brange a) (hb : brange b) : Extern.BytealgCompare.cmp (bs a) (bs b) = if cm a b = true then -1 else if a = b then 0 else 1 := by
 unfold Extern.BytealgCompare.cmp
 rw [bs_size, bs_size]
 have hA : ∀ i (h : i < a.length), 0 ≤ a[i] ∧ a[i] ≤ 255 := fun i h => ha _ (List.getElem_mem h)
 have hB : ∀ i (h : i < b.length), 0 ≤ b[i] ∧ b[i] ≤ 255 := fun i h => hb _ (List.getElem_mem h)
 have key : ∀ i, i < min a.length b.length → (((bs a)[i]! != (bs b)[i]!) = true ↔ ∃ (h1 : i < a.length) (h2 : i < b.length), a[i] ≠ b[i]) := by
  intro i hi
  rw [bs_get ha (by omega), bs_get hb (by omega)]
  simp only [bne_iff_ne, ne_eq]
  rw [u8_eq (hA i (by omega)) (hB i (by omega))]
  exact ⟨fun h => ⟨by omega, by omega, h⟩, fun ⟨_, _, h⟩ => h⟩
 cases hf : (List.range (min a.length b.length)).find? fun i => (bs a)[i]! != (bs b)[i]! with
 | some i =>
  rw [List.find?_range_eq_some] at hf
  obtain ⟨h1, h2, h3⟩ := hf
  have hi : i < min a.length b.length := by simpa using h2
  obtain ⟨g1, g2, g3⟩ := (key i hi).1 h1
  have hc := cm_first a b i g1 g2 (fun j hj => by
   have := h3 j hj
   have hj' : j < min a.length b.length := by omega
   have h4 : ¬ ((bs a)[j]! != (bs b)[j]!) = true := by simpa using this
   rw [key j hj'] at h4
   have h1 : j < a.length := by omega
   have h2 : j < b.length := by omega
   exact Decidable.byContradiction fun q => h4 ⟨h1, h2, q⟩) g3
  simp only
  rw [bs_get ha g1, bs_get hb g2]
  by_cases c : a[i] < b[i]
  ·rw [if_pos ((u8_lt (hA i g1) (hB i g2)).2 c), if_pos (by rw [hc]; simpa using c)]
  ·rw [if_neg (fun q => c ((u8_lt (hA i g1) (hB i g2)).1 q)), if_neg (by rw [hc]; simpa using c), if_neg (fun e => g3 (by subst e; rfl))]
 | none =>
  rw [List.find?_eq_none] at hf
  obtain ⟨h1, h2⟩ := cm_none a b (fun j g1 g2 => by
   have hj' : j < min a.length b.length := by omega
   have h4 := hf j (List.mem_range.2 hj')
   rw [key j hj'] at h4
   exact Decidable.byContradiction fun q => h4 ⟨g1, g2, q⟩)
  simp only
  rw [h1]
  rcases Nat.lt_trichotomy a.length b.length with c | c | c
  ·have n1 : ¬ b.length < a.length := by omega
   simp [c, n1]
  ·have e := h2 c
   subst e
   simp
  ·have n1 : ¬ a.length < b.length := by omega
   have ne : a ≠ b := fun q => by rw [q] at c; omega
   simp [c, n1, ne]
theorem byKey_eq {r s : api_Row} (h1 : brange r.Key) (h2 : brange s.Key) : merkle_byKey.f r s = some (if cm r.Key s.Key = true then -1 else if r.Key = s.Key then 0 else 1) := by
 unfold merkle_byKey.f bytes_Compare.f
 rw [Option.bind_some, cmp_eq h1 h2]
theorem sameRow_eq {k : Nat} (hk : Fuel k) (r s : api_Row) (h1 : r.Key.length < 4000000000) (h2 : r.Value.length < 4000000000) : haulagelaw10_sameRow.f k r s = some (decide (r = s)) := by
 unfold haulagelaw10_sameRow.f
 rw [bind_eq (same_eq hk _ _ (.inl h1))]
 obtain ⟨a, b, c⟩ := r
 obtain ⟨a', b', c'⟩ := s
 simp only [api_Row.mk.injEq]
 by_cases e1 : a = a'
 ·rw [if_pos (by simpa using e1), bind_eq (same_eq hk _ _ (.inl h2))]
  by_cases e2 : b = b'
  ·rw [if_pos (by simpa using e2)]; simp [e1, e2]
  ·rw [if_neg (by simpa using e2)]; simp [e2]
 ·rw [if_neg (by simpa using e1)]; simp [e1]
theorem nmF_small : ∀ (f j n : Nat), n < 128 ^ (j + 1) → nmF f n ≤ j
 | 0, _, _, _ => Nat.zero_le _
 | f + 1, 0, n, h => by
  have : n < 128 := by simpa using h
  unfold nmF
  rw [if_pos (by omega)]
  exact Nat.le_refl _
 | f + 1, j + 1, n, h => by
  unfold nmF
  split
  ·omega
  ·have h2 : n / 128 < 128 ^ (j + 1) := by rw [Nat.pow_succ] at h; omega
   have := nmF_small f j (n / 128) h2
   omega
def fx (n : Nat) : List Int := fmP 10 n ++ [IntKind.u8.wrap (fmL 10 n)]
theorem fx_len (n : Nat) : (fx n).length = nmF 10 n + 1 := by unfold fx; rw [List.length_append, fmP_len]; rfl
theorem form_fx {k n : Nat} (hk : Fuel k) (hn : n < 18446744073709551616) : parcel_form.f k (n : Int) = some (fx n) := by
 have h24 : 1099511627776 ≤ k := hk
 have := nmF_le 10 n
 unfold parcel_form.f
 rw [if_pos (by decide), bind_eq (form_loop 10 n k _ (by omega) (by omega) (by simp))]
 unfold parcel_form.j2
 simp only [Int.toNat_zero, List.replicate_zero, List.nil_append]
 rw [if_pos (by rw [fmP_len]; simp; omega)]
 rfl
theorem Byte_eq {room : Int} {b : List Int} {x : Int} (h0 : 0 ≤ x) (h1 : x ≤ 255) (h2 : ((b.length + 1 : Nat) : Int) ≤ room) (h3 : room ≤ 1000000000000) : parcel_Writer_Byte.f (W room b) x = some (W room (b ++ [IntKind.u8.wrap x])) := by
 unfold parcel_Writer_Byte.f parcel_Writer_Byte.j1
 rw [if_neg (by omega), decide_eq_false (by omega), if_neg (by simp), bind_eq (lay_eq (by simpa using h2) h3)]
theorem Text_fx {k : Nat} (hk : Fuel k) {room : Int} {b a : List Int} (h1 : ((b.length + (fx a.length).length + a.length : Nat) : Int) ≤ room) (h2 : room ≤ 1000000000000) :
  parcel_Writer_Text.f k (W room b) a = some (W room (b ++ (fx a.length ++ a))) := by
 have hl := fx_len a.length
 have hn := nmF_le 10 a.length
 have e : ((b.length + (fx a.length ++ a).length : Nat) : Int) ≤ room := by rw [List.length_append]; omega
 unfold parcel_Writer_Text.f
 rw [wru (by omega) (by omega), bind_eq (form_fx hk (by omega)), bind_eq (concat_eq hk (by omega)), bind_eq (lay_eq e h2)]
def zz (x : Int) : Nat := (bxor .u64 (shl .u64 (IntKind.u64.wrap x) 1) (IntKind.u64.wrap (shr .i64 x 63))).toNat
theorem zz_eq (x : Int) : bxor .u64 (shl .u64 (IntKind.u64.wrap x) 1) (IntKind.u64.wrap (shr .i64 x 63)) = (zz x : Int) ∧ zz x < 18446744073709551616 := by
 obtain ⟨n, e, hn⟩ := u64_range (BitVec.ofInt 64 (shl .u64 (IntKind.u64.wrap x) 1) ^^^ BitVec.ofInt 64 (IntKind.u64.wrap (shr .i64 x 63))).toNat
 have e2 : bxor .u64 (shl .u64 (IntKind.u64.wrap x) 1) (IntKind.u64.wrap (shr .i64 x 63)) = (n : Int) := e
 unfold zz
 rw [e2]
 exact ⟨by simp, by simpa using hn⟩
theorem Int_eq {k : Nat} (hk : Fuel k) {room : Int} {b : List Int} (x : Int) (h1 : ((b.length + (fx (zz x)).length : Nat) : Int) ≤ room) (h2 : room ≤ 1000000000000) : parcel_Writer_Int.f k (W room b) x = some (W room (b ++ fx (zz x))) := by
 obtain ⟨e, h⟩ := zz_eq x
 unfold parcel_Writer_Int.f parcel_Writer_Num.f
 rw [e, bind_eq (form_fx hk h), bind_eq (lay_eq h1 h2)]
 rfl
def fnS (h b : Int) : Int := IntKind.u64.wrap ((bxor .u64 h (IntKind.u64.wrap b)) * 1099511628211)
def FN (l : List Int) : Int := l.foldl fnS 14695981039346656037
theorem fnS_range (h b : Int) : 0 ≤ fnS h b ∧ fnS h b < 18446744073709551616 := by
 obtain ⟨n, e, hn⟩ := u64_range ((bxor .u64 h (IntKind.u64.wrap b)) * 1099511628211)
 unfold fnS
 rw [e]; omega
theorem FN_range (l : List Int) : 0 ≤ FN l ∧ FN l < 18446744073709551616 := by
 have key : ∀ (l : List Int) (h : Int), 0 ≤ h ∧ h < 18446744073709551616 → 0 ≤ l.foldl fnS h ∧ l.foldl fnS h < 18446744073709551616 := by
  intro l
  induction l with
  | nil => intro h hh; exact hh
  | cons b l ih => intro h hh; exact ih _ (fnS_range h b)
 exact key l _ (by omega)
theorem fnv_eq {k : Nat} (hk : Fuel k) (p : List Int) (hp : p.length ≤ 1000000000) : seal_FNV.f k [p] = some (FN p) := by
 have h24 : 1099511627776 ≤ k := hk
 unfold seal_FNV.f
 have L := loop_inv (f := fun (s_ : Int × Int) => seal_FNV.b3 k [p] s_.1 s_.2) (I := fun i s => s.2 = (i : Int) ∧ s.1 = if i = 0 then 14695981039346656037 else FN p) (P := fun x => x = FN p) (N := 1) ?_ ?_ 1 0 (14695981039346656037, 0) k ⟨rfl, rfl⟩ rfl (by omega)
 ·obtain ⟨x, e, rfl⟩ := L
  rw [bind_eq e]; rfl
 ·rintro i ⟨h, j⟩ hi ⟨hj, hh⟩
  left
  simp only at hj hh; subst hj
  obtain rfl : i = 0 := by omega
  rw [if_pos rfl] at hh
  subst hh
  have e0 : rd [p] ((0 : Nat) : Int) = p := rfl
  have M := loop_inv (f := fun (s_ : Int × Int) => seal_FNV.b1 [p] ((0 : Nat) : Int) s_.1 s_.2) (I := fun i s => s.2 = (i : Int) ∧ s.1 = (p.take i).foldl fnS 14695981039346656037) (P := fun x => x = FN p) (N := p.length) ?_ ?_ p.length 0 (14695981039346656037, 0) k ⟨rfl, rfl⟩ (by omega) (by omega)
  ·obtain ⟨x, e, rfl⟩ := M
   simp only [seal_FNV.b3]
   rw [if_pos (by simp), if_pos (by simp), bind_eq e]
   exact ⟨_, rfl, rfl, rfl⟩
  ·rintro i ⟨h, j⟩ hi ⟨hj, hh⟩
   left
   simp only at hj hh; subst hj
   simp only [seal_FNV.b1]
   rw [e0, if_pos (by omega), if_pos (by omega), wrS i (by omega), rd_eq hi]
   refine ⟨_, rfl, rfl, ?_⟩
   rw [take_one hi, List.foldl_append, ← hh]; rfl
  ·rintro ⟨h, j⟩ ⟨hj, hh⟩
   simp only at hj hh; subst hj
   simp only [seal_FNV.b1]
   rw [e0, if_neg (by omega)]
   rw [List.take_length] at hh
   exact ⟨_, rfl, hh⟩
 ·rintro ⟨h, j⟩ ⟨hj, hh⟩
  simp only at hj hh; subst hj
  simp only [seal_FNV.b3]
  rw [if_neg (by simp)]
  exact ⟨_, rfl, hh⟩
def mk (bits n : Int) : Int := n % 2 ^ bits.toNat
theorem cut_eq {bits n : Int} (h1 : 1 ≤ bits) (h2 : bits ≤ 64) (h0 : 0 ≤ n) (hn : n < 18446744073709551616) : shr .u64 (shl .u64 n (IntKind.i64.wrap (64 - bits))) (IntKind.i64.wrap (64 - bits)) = mk bits n := by
 obtain ⟨n, rfl⟩ := Int.eq_ofNat_of_zero_le h0
 obtain ⟨s, hs⟩ : ∃ s : Nat, (s : Int) = 64 - bits := ⟨(64 - bits).toNat, by omega⟩
 have hb : bits.toNat = 64 - s := by omega
 rw [wr (by omega) (by omega), ← hs]
 unfold shl shr mk
 have hm : min s 64 = s := by omega
 simp only [Int.toNat_natCast, IntKind.bits, hm, hb]
 have e1 : IntKind.u64.wrap ((n : Int) * 2 ^ s) = ((n * 2 ^ s % 2 ^ 64 : Nat) : Int) := by
  simp only [IntKind.wrap, IntKind.bits, IntKind.signed]
  simp
 rw [e1]
 have e2 : (2 : Int) ^ s = ((2 ^ s : Nat) : Int) := by simp
 have e3 : (2 : Int) ^ (64 - s) = ((2 ^ (64 - s) : Nat) : Int) := by simp
 rw [e2, e3, Int.fdiv_eq_ediv_of_nonneg _ (Int.natCast_nonneg _)]
 have hp : 2 ^ 64 = 2 ^ (64 - s) * 2 ^ s := by rw [← Nat.pow_add]; congr 1; omega
 rw [hp, Nat.mul_mod_mul_right]
 rw [← Int.natCast_ediv, Nat.mul_div_cancel _ (Nat.two_pow_pos s), ← Int.natCast_emod]
def dk (k : Nat) (x : Int) : List Int := (parcel_downuint64.f k (List.replicate 8 (0 : Int)) x).getD []
theorem dk_eq {k : Nat} (hk : Fuel k) (x : Int) : parcel_downuint64.f k (List.replicate 8 (0 : Int)) x = some (dk k x) ∧ (dk k x).length = 8 := by
 obtain ⟨l, e, h⟩ := down_tot hk x
 unfold dk
 rw [e]
 exact ⟨rfl, h⟩
theorem Fixed_eq {k : Nat} (hk : Fuel k) {room : Int} {b : List Int} (x : Int) (h2 : ((b.length + 8 : Nat) : Int) ≤ room) (h3 : room ≤ 1000000000000) : parcel_Writer_Fixed.f k (W room b) x 8 = some (W room (b ++ dk k x)) := by
 obtain ⟨e, h⟩ := dk_eq hk x
 unfold parcel_Writer_Fixed.f parcel_Writer_Fixed.j1
 rw [if_neg (by omega), decide_eq_false (by omega), if_neg (by simp), if_pos (by omega), if_neg (by omega), if_neg (by omega), if_neg (by omega)]
 have e8 : (8 : Int).toNat = 8 := rfl
 rw [e8, bind_eq e, bind_eq (lay_eq (by rw [h]; exact h2) h3)]
def rowB (r : api_Row) : List Int := [IntKind.u8.wrap 1] ++ (fx r.Key.length ++ r.Key) ++ (fx r.Value.length ++ r.Value) ++ fx (zz r.Rev)
def hRow (bits : Int) (r : api_Row) : Int := mk bits (FN (rowB r))
def hPair (k : Nat) (bits a b : Int) : Int := mk bits (FN ([IntKind.u8.wrap 3] ++ dk k a ++ dk k b))
def bkB (k : Nat) (bits : Int) (R : List api_Row) : List Int := [IntKind.u8.wrap 2] ++ R.flatMap fun r => dk k (hRow bits r)
def hBk (k : Nat) (bits : Int) (R : List api_Row) : Int := mk bits (FN (bkB k bits R))
abbrev okb (bits : Int) : Prop := 1 ≤ bits ∧ bits ≤ 64
def RB (r : api_Row) : Prop := r.Key.length ≤ 2097152 ∧ r.Value.length ≤ 2097152 ∧ brange r.Key
theorem cutW {k : Nat} (hk : Fuel k) {bits room : Int} (hb : okb bits) {l : List Int} (hl : l.length ≤ 1000000000) : merkle_cut.f k (W room l) bits = some (mk bits (FN l)) := by
 obtain ⟨h0, h1⟩ := FN_range l
 unfold merkle_cut.f
 rw [bind_eq (done_eq (by omega)), bind_eq (fnv_eq hk l hl), if_pos (by rw [wr (by omega) (by omega)]; omega), if_pos (by rw [wr (by omega) (by omega)]; omega), cut_eq hb.1 hb.2 h0 h1]
theorem row_writes {k : Nat} (hk : Fuel k) {r : api_Row} (h : RB r) {x : Int} (hx : (r.Key.length : Int) + r.Value.length + 31 ≤ x) (hx2 : x ≤ 1000000000000) :
  ∃ w1 w2 w3, parcel_New.f x = some (W x []) ∧ parcel_Writer_Byte.f (W x []) 1 = some w1 ∧ parcel_Writer_Text.f k w1 r.Key = some w2 ∧ parcel_Writer_Text.f k w2 r.Value = some w3 ∧ parcel_Writer_Int.f k w3 r.Rev = some (W x (rowB r)) ∧ (rowB r).length ≤ 1000000000 := by
 obtain ⟨h1, h2, _⟩ := h
 have l1 := fx_len r.Key.length; have l2 := fx_len r.Value.length; have l3 := fx_len (zz r.Rev)
 have n1 := nmF_small 10 3 r.Key.length (by omega)
 have n2 := nmF_small 10 3 r.Value.length (by omega)
 have n3 := nmF_le 10 (zz r.Rev)
 refine ⟨_, _, _, ?_, Byte_eq (by omega) (by omega) (by simp; omega) hx2, Text_fx hk (by simp; omega) hx2, Text_fx hk (by simp; omega) hx2, ?_, ?_⟩
 ·unfold parcel_New.f
  rw [Int.max_eq_left (by omega)]
 ·rw [Int_eq hk r.Rev (by simp; omega) hx2]
  rfl
 ·unfold rowB
  simp only [List.length_append, List.length_singleton]
  omega
theorem ofRow_eq {k : Nat} (hk : Fuel k) {bits : Int} (hb : okb bits) {r : api_Row} (h : RB r) : merkle_ofRow.f k r bits = some (hRow bits r) := by
 have h1 := h.1; have h2 := h.2.1
 have e : IntKind.i64.wrap ((IntKind.i64.wrap ((r.Key.length : Int) + (r.Value.length : Int))) + 31) = (r.Key.length : Int) + r.Value.length + 31 := by
  rw [wr (n := (r.Key.length : Int) + (r.Value.length : Int)) (by omega) (by omega), wr (by omega) (by omega)]
 obtain ⟨w1, w2, w3, e0, e1, e2, e3, e4, hl⟩ := row_writes hk h (x := (r.Key.length : Int) + r.Value.length + 31) (by omega) (by omega)
 unfold merkle_ofRow.f
 rw [e, bind_eq e0, bind_eq e1, bind_eq e2, bind_eq e3, bind_eq e4, bind_eq (cutW hk hb hl)]
 rfl
theorem pair_writes {k : Nat} (hk : Fuel k) (a b : Int) : ∃ w1 w2, parcel_New.f 17 = some (W 17 []) ∧ parcel_Writer_Byte.f (W 17 []) 3 = some w1 ∧ parcel_Writer_Fixed.f k w1 a 8 = some w2 ∧ parcel_Writer_Fixed.f k w2 b 8 = some (W 17 ([IntKind.u8.wrap 3] ++ dk k a ++ dk k b)) ∧ ([IntKind.u8.wrap 3] ++ dk k a ++ dk k b).length ≤ 1000000000 := by
 have l1 := (dk_eq hk a).2; have l2 := (dk_eq hk b).2
 refine ⟨_, _, ?_, Byte_eq (by omega) (by omega) (by simp) (by omega), Fixed_eq hk a (by simp) (by omega), ?_, ?_⟩
 ·unfold parcel_New.f
  rw [Int.max_eq_left (by omega)]
 ·rw [Fixed_eq hk b (by simp [l1]) (by omega)]
  rfl
 ·simp only [List.length_append, List.length_singleton]; omega
theorem ofPair_eq {k : Nat} (hk : Fuel k) {bits : Int} (hb : okb bits) (a b : Int) : merkle_ofPair.f k a b bits = some (hPair k bits a b) := by
 obtain ⟨w1, w2, e0, e1, e2, e3, hl⟩ := pair_writes hk a b
 unfold merkle_ofPair.f
 rw [bind_eq e0, bind_eq e1, bind_eq e2, bind_eq e3, bind_eq (cutW hk hb hl)]
 rfl
theorem flat8 {k : Nat} (hk : Fuel k) (bits : Int) : ∀ R : List api_Row, (R.flatMap fun r => dk k (hRow bits r)).length = 8 * R.length
 | [] => rfl
 | r :: R => by
  rw [List.flatMap_cons, List.length_append, flat8 hk bits R, (dk_eq hk _).2, List.length_cons]; omega
theorem bkB_len {k : Nat} (hk : Fuel k) (bits : Int) (R : List api_Row) : (bkB k bits R).length = 8 * R.length + 1 := by
 unfold bkB
 rw [List.length_append, flat8 hk, List.length_singleton]; omega
abbrev RL (R : List api_Row) : Prop := R.length ≤ 4194304 ∧ ∀ r ∈ R, RB r
theorem ofBucket_eq {k : Nat} (hk : Fuel k) {bits : Int} (hb : okb bits) {R : List api_Row} (hR : RL R) : merkle_ofBucket.f k R bits = some (hBk k bits R) := by
 have h24 : 1099511627776 ≤ k := hk
 obtain ⟨hl, hR⟩ := hR
 have ex : IntKind.i64.wrap (1 + (IntKind.i64.wrap (8 * (R.length : Int)))) = 1 + 8 * (R.length : Int) := by rw [wr (n := 8 * (R.length : Int)) (by omega) (by omega), wr (by omega) (by omega)]
 have e0 : parcel_New.f (1 + 8 * (R.length : Int)) = some (W (1 + 8 * (R.length : Int)) []) := by
  unfold parcel_New.f
  rw [Int.max_eq_left (by omega)]
 unfold merkle_ofBucket.f
 rw [ex, bind_eq e0, bind_eq (Byte_eq (x := 2) (by omega) (by omega) (by simp; omega) (by omega))]
 have L := loop_inv (f := fun (s_ : (Option Wri) × Int) => merkle_ofBucket.b1 k R bits s_.1 s_.2) (I := fun i s => s.1 = W (1 + 8 * (R.length : Int)) (bkB k bits (R.take i)) ∧ s.2 = (i : Int)) (P := fun w => w = W (1 + 8 * (R.length : Int)) (bkB k bits R)) (N := R.length) ?_ ?_ R.length 0 (W (1 + 8 * (R.length : Int)) ([] ++ [IntKind.u8.wrap 2]), 0) k ⟨rfl, rfl⟩ (by omega) (by omega)
 ·obtain ⟨w, e, rfl⟩ := L
  rw [bind_eq e]
  unfold merkle_ofBucket.j2
  rw [bind_eq (cutW (l := bkB k bits R) hk hb (by rw [bkB_len hk]; omega))]
  rfl
 ·rintro i ⟨w, j⟩ hi ⟨hw, hj⟩
  left
  simp only at hj hw; subst hj hw
  have hlen : (R.take i).length = i := by simp; omega
  simp only [merkle_ofBucket.b1]
  rw [if_pos (by omega), if_pos (by omega), rd_eq hi, bind_eq (ofRow_eq hk hb (hR _ (List.getElem_mem hi))), bind_eq (Fixed_eq hk _ (by rw [bkB_len hk, hlen]; omega) (by omega)), wrS i (by omega)]
  refine ⟨_, rfl, ?_, rfl⟩
  simp only [bkB]
  rw [take_one hi, List.flatMap_append, List.append_assoc]
  simp
 ·rintro ⟨w, j⟩ ⟨hw, hj⟩
  simp only at hj hw; subst hj hw
  simp only [merkle_ofBucket.b1]
  rw [if_neg (by omega), List.take_length]
  exact ⟨_, rfl, rfl⟩
def bkt (p : List Int) : Nat := (FN p % 256).toNat
theorem bkt_lt (p : List Int) : bkt p < 256 := by unfold bkt; omega
theorem bucket_eq {k : Nat} (hk : Fuel k) {p : List Int} (hp : p.length ≤ 1000000000) : merkle_bucket.f k p = some (bkt p : Int) := by
 obtain ⟨h0, h1⟩ := FN_range p
 have e : IntKind.u8.wrap (FN p) = (bkt p : Int) := by
  unfold bkt
  simp only [IntKind.wrap, IntKind.bits, IntKind.signed]
  simp
  omega
 have := bkt_lt p
 unfold merkle_bucket.f
 rw [bind_eq (fnv_eq hk p hp), e, wr (by omega) (by omega)]
def Srt (R : List api_Row) : Prop := R.Pairwise fun a b => cm a.Key b.Key = true
def lo (key : List Int) (R : List api_Row) : List api_Row := R.filter fun r => cm r.Key key
def hi (key : List Int) (R : List api_Row) : List api_Row := R.filter fun r => cm key r.Key
def md (key : List Int) (R : List api_Row) : List api_Row := R.filter fun r => decide (r.Key = key)
def putL (r : api_Row) (R : List api_Row) : List api_Row := lo r.Key R ++ r :: hi r.Key R
def delL (key : List Int) (R : List api_Row) : List api_Row := R.filter fun r => !decide (r.Key = key)
theorem filter_none {α : Type} {p : α → Bool} {l : List α} (h : ∀ x ∈ l, p x = false) : l.filter p = [] := by
 rw [List.filter_eq_nil_iff]; intro x hx; rw [h x hx]; exact Bool.false_ne_true
theorem filter_all {α : Type} {p : α → Bool} {l : List α} (h : ∀ x ∈ l, p x = true) : l.filter p = l := List.filter_eq_self.2 h
theorem Srt.split (key : List Int) : ∀ {R : List api_Row}, Srt R → R = lo key R ++ (md key R ++ hi key R) ∧ (md key R = [] ∨ ∃ x, md key R = [x] ∧ x.Key = key)
 | [], _ => ⟨rfl, .inl rfl⟩
 | r :: R, h => by
  have hr : ∀ x ∈ R, cm r.Key x.Key = true := (List.pairwise_cons.1 h).1
  have hR : Srt R := (List.pairwise_cons.1 h).2
  obtain ⟨h1, h2⟩ := Srt.split key hR
  cases c : cm r.Key key with
  | true =>
   have e1 : lo key (r :: R) = r :: lo key R := by simp [lo, c]
   have e2 : md key (r :: R) = md key R := by simp [md, cm_ne c]
   have e3 : hi key (r :: R) = hi key R := by simp [hi, cm_asym c]
   rw [e1, e2, e3]
   exact ⟨by rw [List.cons_append, ← h1], h2⟩
  | false =>
   have e1 : lo key (r :: R) = [] := by
    apply filter_none
    intro x hx
    rcases List.mem_cons.1 hx with rfl | hx
    ·exact c
    ·cases e : cm x.Key key with
     | false => rfl
     | true => have := cm_tr (hr x hx) e; rw [c] at this; cases this
   rw [e1, List.nil_append]
   by_cases e : r.Key = key
   ·have g : ∀ x ∈ R, cm key x.Key = true := fun x hx => e ▸ hr x hx
    have e2 : md key (r :: R) = [r] := by
     unfold md
     rw [List.filter_cons_of_pos (by simpa using e), filter_none]
     intro x hx
     have := cm_ne (g x hx)
     simpa using fun q => this q.symm
    have e3 : hi key (r :: R) = R := by
     unfold hi
     rw [List.filter_cons_of_neg (by rw [e, cm_irr]; exact Bool.false_ne_true), filter_all g]
    rw [e2, e3]
    exact ⟨rfl, .inr ⟨r, rfl, e⟩⟩
   ·have g0 : cm key r.Key = true := by
     cases q : cm key r.Key with
     | true => rfl
     | false => exact absurd (cm_tri c q) e
    have g : ∀ x ∈ r :: R, cm key x.Key = true := by
     intro x hx
     rcases List.mem_cons.1 hx with rfl | hx
     ·exact g0
     ·exact cm_tr g0 (hr x hx)
    have e2 : md key (r :: R) = [] := by
     apply filter_none
     intro x hx
     have := cm_ne (g x hx)
     simpa using fun q => this q.symm
    have e3 : hi key (r :: R) = r :: R := filter_all g
    rw [e2, e3]
    exact ⟨rfl, .inl rfl⟩
theorem lo_mem {key : List Int} {R : List api_Row} {x : api_Row} : x ∈ lo key R ↔ x ∈ R ∧ cm x.Key key = true := by simp [lo]
theorem hi_mem {key : List Int} {R : List api_Row} {x : api_Row} : x ∈ hi key R ↔ x ∈ R ∧ cm key x.Key = true := by simp [hi]
theorem Srt.filter {R : List api_Row} (h : Srt R) (p : api_Row → Bool) : Srt (R.filter p) := List.Pairwise.filter p h
theorem putL_srt {r : api_Row} {R : List api_Row} (h : Srt R) : Srt (putL r R) := by
 unfold putL
 refine List.pairwise_append.2 ⟨h.filter _, List.pairwise_cons.2 ⟨fun x hx => (hi_mem.1 hx).2, h.filter _⟩, fun a ha b hb => ?_⟩
 have h1 := (lo_mem.1 ha).2
 rcases List.mem_cons.1 hb with rfl | hb
 ·exact h1
 ·exact cm_tr h1 (hi_mem.1 hb).2
theorem putL_mem {r x : api_Row} {R : List api_Row} (h : x ∈ putL r R) : x = r ∨ x ∈ R := by
 rcases List.mem_append.1 h with h | h
 ·exact .inr (lo_mem.1 h).1
 ·rcases List.mem_cons.1 h with h | h
  ·exact .inl h
  ·exact .inr (hi_mem.1 h).1
theorem delL_eq {key : List Int} {R : List api_Row} (h : Srt R) : delL key R = lo key R ++ hi key R := by
 obtain ⟨h1, h2⟩ := h.split key
 have e1 : ∀ l : List api_Row, (∀ x ∈ l, x.Key ≠ key) → delL key l = l := fun l hl => filter_all fun x hx => by simpa using hl x hx
 have e2 : ∀ a b : List api_Row, delL key (a ++ b) = delL key a ++ delL key b := fun a b => List.filter_append ..
 have e3 : delL key R = delL key (lo key R ++ (md key R ++ hi key R)) := congrArg _ h1
 rw [e3, e2, e2, e1 _ (fun x hx => cm_ne (lo_mem.1 hx).2), e1 (hi key R) (fun x hx q => cm_ne (hi_mem.1 hx).2 q.symm)]
 congr 1
 have : delL key (md key R) = [] := filter_none fun x hx => by
  have : x.Key = key := by simpa using (List.mem_filter.1 hx).2
  simp [this]
 rw [this, List.nil_append]
theorem lo_len {key : List Int} {R : List api_Row} (h : Srt R) : (lo key R).length + (md key R).length + (hi key R).length = R.length := by
 have := congrArg List.length (h.split key).1
 simp only [List.length_append] at this
 omega
theorem idx_lt {key : List Int} {R : List api_Row} (h : Srt R) {q : Nat} (hq : q < R.length) : cm R[q].Key key = decide (q < (lo key R).length) := by
 obtain ⟨h1, h2⟩ := h.split key
 have e : R[q]? = (lo key R ++ (md key R ++ hi key R))[q]? := congrArg (fun l => l[q]?) h1
 rw [List.getElem?_eq_getElem hq] at e
 by_cases c : q < (lo key R).length
 ·rw [List.getElem?_append_left c, List.getElem?_eq_getElem c] at e
  rw [Option.some.inj e, (lo_mem.1 (List.getElem_mem c)).2, decide_eq_true c]
 ·rw [List.getElem?_append_right (by omega)] at e
  have hm : R[q] ∈ md key R ++ hi key R := List.mem_of_getElem? e.symm
  rw [decide_eq_false c]
  rcases List.mem_append.1 hm with hm | hm
  ·have : R[q].Key = key := by simpa using (List.mem_filter.1 hm).2
   rw [this, cm_irr]
  ·exact cm_asym (hi_mem.1 hm).2
theorem at_lo {key : List Int} {R : List api_Row} (h : Srt R) :
  (md key R = [] ∧ R = lo key R ++ hi key R ∧ ∀ (q : (lo key R).length < R.length), R[(lo key R).length].Key ≠ key) ∨
  (∃ x, md key R = [x] ∧ x.Key = key ∧ R = lo key R ++ x :: hi key R ∧ ∃ (q : (lo key R).length < R.length), R[(lo key R).length] = x) := by
 obtain ⟨h1, h2⟩ := h.split key
 rcases h2 with h2 | ⟨x, h2, hx⟩
 ·refine .inl ⟨h2, by rw [h2, List.nil_append] at h1; exact h1, fun q e => ?_⟩
  have hm : R[(lo key R).length] ∈ md key R := List.mem_filter.2 ⟨List.getElem_mem q, by simpa using e⟩
  rw [h2] at hm; cases hm
 ·rw [h2] at h1
  have hl := congrArg List.length h1
  simp only [List.length_append, List.length_cons, List.length_nil] at hl
  refine .inr ⟨x, h2, hx, h1, by omega, ?_⟩
  have e : R[(lo key R).length]? = (lo key R ++ ([x] ++ hi key R))[(lo key R).length]? := congrArg (fun l => l[(lo key R).length]?) h1
  rw [List.getElem?_eq_getElem (by omega), List.getElem?_append_right (by omega)] at e
  simpa using e
theorem mid_eq {i j : Nat} (h : i + j < 1000000000000) : IntKind.i64.wrap (shr .u64 (IntKind.u64.wrap (IntKind.i64.wrap ((i : Int) + (j : Int)))) 1) = (((i + j) / 2 : Nat) : Int) := by
 rw [wr (n := (i : Int) + (j : Int)) (by omega) (by omega), wru (by omega) (by omega)]
 unfold shr
 have : (2 : Int) ^ (min (1 : Int).toNat IntKind.u64.bits) = 2 := by decide
 rw [this, Int.fdiv_eq_ediv_of_nonneg _ (by omega), wr (by omega) (by omega)]
 omega
theorem search_loop {R : List api_Row} (hl : R.length ≤ 100000000000) (hs : Srt R) (hb : ∀ r ∈ R, brange r.Key) {t : api_Row} (ht : brange t.Key) : ∀ (n i j m : Nat), j - i ≤ n → n < m → i ≤ (lo t.Key R).length → (lo t.Key R).length ≤ j → j ≤ R.length →
  loop (fun (s_ : Int × Int) => slices_BinarySearchFunc.b1 R t s_.1 s_.2) m ((i : Int), (j : Int)) = some ((lo t.Key R).length : Int)
 | _, _, _, 0, _, h, _, _, _ => absurd h (by omega)
 | n, i, j, m + 1, hn, hm, h1, h2, h3 => by
  by_cases c : i < j
  ·obtain ⟨n, rfl⟩ : ∃ n', n = n' + 1 := ⟨n - 1, by omega⟩
   have hq : (i + j) / 2 < R.length := by omega
   have e0 := mid_eq (i := i) (j := j) (by omega)
   have ek := byKey_eq (hb _ (List.getElem_mem hq)) ht
   rw [idx_lt hs hq] at ek
   by_cases d : (i + j) / 2 < (lo t.Key R).length
   ·rw [loop_next (s' := ((((i + j) / 2 + 1 : Nat) : Int), (j : Int)))]
    ·exact search_loop hl hs hb ht n _ j m (by omega) (by omega) (by omega) h2 h3
    ·unfold slices_BinarySearchFunc.b1
     simp only
     rw [if_pos (by omega), e0, if_pos (by omega), rd_eq hq, bind_eq ek, if_pos (by rw [if_pos (by simpa using d)]; omega), wrS _ (by omega)]
   ·rw [loop_next (s' := ((i : Int), (((i + j) / 2 : Nat) : Int)))]
    ·exact search_loop hl hs hb ht n i _ m (by omega) (by omega) h1 (by omega) (by omega)
    ·unfold slices_BinarySearchFunc.b1
     simp only
     rw [if_pos (by omega), e0, if_pos (by omega), rd_eq hq, bind_eq ek, if_neg (by rw [if_neg (by simpa using d)]; split <;> omega)]
  ·have e : i = (lo t.Key R).length := by omega
   refine loop_done ?_
   unfold slices_BinarySearchFunc.b1
   simp only
   rw [if_neg (by omega), e]
def has (key : List Int) (R : List api_Row) : Bool := !(md key R).isEmpty
theorem search_eq {k : Nat} (hk : Fuel k) {R : List api_Row} (hl : R.length ≤ 100000000000) (hs : Srt R) (hb : ∀ r ∈ R, brange r.Key) {t : api_Row} (ht : brange t.Key) : slices_BinarySearchFunc.f k R t = some (((lo t.Key R).length : Int), has t.Key R) := by
 have h24 : 1099511627776 ≤ k := hk
 have hlen := lo_len (key := t.Key) hs
 unfold slices_BinarySearchFunc.f
 rw [show ((0 : Int), (R.length : Int)) = (((0 : Nat) : Int), (R.length : Int)) from rfl, bind_eq (search_loop hl hs hb ht R.length 0 R.length k (by omega) (by omega) (Nat.zero_le _) (by omega) (Nat.le_refl _))]
 unfold slices_BinarySearchFunc.j2 has
 rcases at_lo (key := t.Key) hs with ⟨h1, h2, h3⟩ | ⟨x, h1, hx, h2, q, h3⟩
 ·rw [h1]
  by_cases c : (lo t.Key R).length < R.length
  ·have ek := byKey_eq (hb _ (List.getElem_mem c)) ht
   rw [if_pos (by omega), if_pos (by omega), rd_eq c, bind_eq ek, if_neg (h3 c)]
   split <;> simp
  ·rw [if_neg (by omega)]; rfl
 ·rw [h1]
  have ek := byKey_eq (hb _ (List.getElem_mem q)) ht
  rw [if_pos (by omega), if_pos (by omega), rd_eq q, bind_eq ek, h3, hx, cm_irr]
  simp
theorem rising_eq {k : Nat} (hk : Fuel k) {R : List api_Row} (hl : R.length ≤ 100000000000) (hb : ∀ r ∈ R, brange r.Key) : ∃ b, merkle_rising.f k R = some b ∧ (b = true ↔ Srt R) := by
 have h24 : 1099511627776 ≤ k := hk
 unfold merkle_rising.f
 have L := loop_inv (f := fun (s_ : Int) => merkle_rising.b1 R s_) (I := fun i s => s = ((i + 1 : Nat) : Int) ∧ ∀ q (h : q + 1 < R.length), q < i → cm R[q].Key R[q + 1].Key = true) (P := fun x => (x = .inl () ∧ Srt R) ∨ (x = .inr false ∧ ¬ Srt R)) (N := R.length) ?_ ?_ R.length 0 1 k ⟨rfl, fun q _ h => absurd h (by omega)⟩ (by omega) (by omega)
 ·obtain ⟨x, e, ⟨rfl, h⟩ | ⟨rfl, h⟩⟩ := L
  ·rw [bind_eq e]; exact ⟨true, rfl, by simp [h]⟩
  ·rw [bind_eq e]; exact ⟨false, rfl, by simp [h]⟩
 ·rintro i _ hi ⟨rfl, hq⟩
  simp only [merkle_rising.b1]
  by_cases c : i + 1 < R.length
  ·have ek := byKey_eq (hb _ (List.getElem_mem (show i < R.length by omega))) (hb _ (List.getElem_mem c))
   have e1 : IntKind.i64.wrap (((i + 1 : Nat) : Int) - 1) = ((i : Nat) : Int) := by rw [wr (by omega) (by omega)]; omega
   rw [if_pos (by omega), e1, if_pos (by omega), if_pos (by omega), rd_eq (by omega : i < R.length), rd_eq c, bind_eq ek]
   cases d : cm R[i].Key R[i + 1].Key with
   | true =>
    rw [if_pos rfl, if_neg (by omega), wrS (i + 1) (by omega)]
    refine .inl ⟨_, rfl, rfl, fun q h hqi => ?_⟩
    rcases Nat.lt_or_ge q i with g | g
    ·exact hq q h g
    ·obtain rfl : q = i := by omega
     exact d
   | false =>
    rw [if_pos (by rw [if_neg (by simp)]; split <;> omega)]
    refine .inr ⟨_, rfl, .inr ⟨rfl, fun h => ?_⟩⟩
    have := List.pairwise_iff_getElem.1 h i (i + 1) (by omega) c (by omega)
    rw [d] at this; cases this
  ·rw [if_neg (by omega)]
   refine .inr ⟨_, rfl, .inl ⟨rfl, ?_⟩⟩
   refine List.pairwise_iff_getElem.2 fun a b ha hb hab => ?_
   have key : ∀ d (h : a + d + 1 < R.length), cm R[a].Key R[a + d + 1].Key = true := by
    intro d
    induction d with
    | zero => intro h; exact hq a h (by omega)
    | succ d ih => intro h; exact cm_tr (ih (by omega)) (hq (a + d + 1) h (by omega))
   obtain ⟨d, rfl⟩ : ∃ d, b = a + d + 1 := ⟨b - a - 1, by omega⟩
   exact key d hb
 ·rintro _ ⟨rfl, hq⟩
  simp only [merkle_rising.b1]
  rw [if_neg (by omega)]
  refine ⟨_, rfl, .inl ⟨rfl, ?_⟩⟩
  refine List.pairwise_iff_getElem.2 fun a b ha hb hab => ?_
  have key : ∀ d (h : a + d + 1 < R.length), cm R[a].Key R[a + d + 1].Key = true := by
   intro d
   induction d with
   | zero => intro h; exact hq a h (by omega)
   | succ d ih => intro h; exact cm_tr (ih (by omega)) (hq (a + d + 1) h (by omega))
  obtain ⟨d, rfl⟩ : ∃ d, b = a + d + 1 := ⟨b - a - 1, by omega⟩
  exact key d hb
def fbk (b : Nat) (R : List api_Row) : List api_Row := R.filter fun r => decide (bkt r.Key = b)
theorem flt_comm {α : Type} (p q : α → Bool) (l : List α) : (l.filter p).filter q = (l.filter q).filter p := by
 rw [List.filter_filter, List.filter_filter]
 congr 1
 funext x
 exact Bool.and_comm ..
theorem lo_fb (key : List Int) (b : Nat) (R : List api_Row) : lo key (fbk b R) = fbk b (lo key R) := flt_comm ..
theorem hi_fb (key : List Int) (b : Nat) (R : List api_Row) : hi key (fbk b R) = fbk b (hi key R) := flt_comm ..
theorem md_fb (key : List Int) (R : List api_Row) : md key (fbk (bkt key) R) = md key R := by
 unfold md fbk
 rw [flt_comm]
 apply filter_all
 intro x hx
 have : x.Key = key := by simpa using (List.mem_filter.1 hx).2
 rw [this]; simp
theorem fb_app (b : Nat) (l m : List api_Row) : fbk b (l ++ m) = fbk b l ++ fbk b m := List.filter_append ..
theorem fb_put (r : api_Row) (R : List api_Row) : fbk (bkt r.Key) (putL r R) = putL r (fbk (bkt r.Key) R) := by
 unfold putL
 rw [fb_app, lo_fb, hi_fb]
 congr 1
 unfold fbk
 rw [List.filter_cons_of_pos (by simp)]
theorem fb_put_ne {r : api_Row} {R : List api_Row} (h : Srt R) {b : Nat} (hb : b ≠ bkt r.Key) : fbk b (putL r R) = fbk b R := by
 obtain ⟨h1, h2⟩ := h.split r.Key
 have e1 : fbk b R = fbk b (lo r.Key R ++ (md r.Key R ++ hi r.Key R)) := congrArg _ h1
 have e2 : fbk b (md r.Key R) = [] := filter_none fun x hx => by
  have : x.Key = r.Key := by simpa using (List.mem_filter.1 hx).2
  rw [this]; simpa using fun q => hb q.symm
 rw [e1, fb_app, fb_app, e2, List.nil_append]
 unfold putL
 rw [fb_app]
 congr 1
 unfold fbk
 rw [List.filter_cons_of_neg (by simpa using fun q => hb q.symm)]
theorem fb_del (key : List Int) (b : Nat) (R : List api_Row) : fbk b (delL key R) = delL key (fbk b R) := flt_comm ..
theorem fb_del_ne {key : List Int} {b : Nat} (hb : b ≠ bkt key) (R : List api_Row) : fbk b (delL key R) = fbk b R := by
 rw [fb_del]
 apply filter_all
 intro x hx
 have h1 : bkt x.Key = b := by simpa [fbk] using (List.mem_filter.1 hx).2
 have : x.Key ≠ key := fun q => hb (by rw [← h1, q])
 simpa using this
theorem fb_len (b : Nat) (R : List api_Row) : (fbk b R).length ≤ R.length := List.length_filter_le ..
theorem fb_mem {b : Nat} {R : List api_Row} {x : api_Row} (h : x ∈ fbk b R) : x ∈ R := (List.mem_filter.1 h).1
theorem RL.fbk {R : List api_Row} (h : RL R) (b : Nat) : RL (fbk b R) := ⟨Nat.le_trans (fb_len b R) h.1, fun r hr => h.2 r (fb_mem hr)⟩
theorem RL.br {R : List api_Row} (h : RL R) : ∀ r ∈ R, brange r.Key := fun r hr => (h.2 r hr).2.2
theorem td {α : Type} {R l m : List α} (h : R = l ++ m) : R.take l.length = l ∧ R.drop l.length = m := by subst h; simp
theorem sx {α : Type} {R l m : List α} {x : α} (h : R = l ++ x :: m) (r : α) : R.set l.length r = l ++ r :: m ∧ R.take l.length = l ∧ R.drop (l.length + 1) = m := by
 subst h
 refine ⟨by simp, by simp, ?_⟩
 rw [← List.drop_drop, List.drop_left]; rfl
theorem own_eq {r : api_Row} (h1 : r.Key.length ≤ 1000000000) (h2 : r.Value.length ≤ 1000000000) : merkle_own.f r = some r := by
 unfold merkle_own.f bytes_Clone.f
 rw [if_pos (by omega), Option.bind_some, if_pos (by omega), Option.bind_some]
theorem own_RB {r : api_Row} (h : RB r) : merkle_own.f r = some r := own_eq (by have := h.1; omega) (by have := h.2.1; omega)
theorem rd_set {α : Type} [Inhabited α] (l : List α) (i n : Nat) (v : α) (hi : i < l.length) : rd (l.set i v) (n : Int) = if n = i then v else rd l (n : Int) := by
 unfold rd
 simp only [Int.toNat_natCast, List.getD_eq_getElem?_getD, List.getElem?_set]
 by_cases e : n = i
 ·subst e; simp [hi]
 ·rw [if_neg (fun q => e q.symm), if_neg e]
theorem tdiv2 (i : Nat) : Int.tdiv (i : Int) 2 = ((i / 2 : Nat) : Int) := (Int.ofNat_tdiv i 2).symm
def nodeOk (k : Nat) (bits : Int) (D : List Int) (n : Nat) : Prop := rd D (n : Int) = hPair k bits (rd D ((2 * n : Nat) : Int)) (rd D ((2 * n + 1 : Nat) : Int))
def offPath (i n : Nat) : Prop := ∀ s, n ≠ i / 2 ^ s
theorem offPath.half {i n : Nat} (h : offPath (i / 2) n) (hn : n ≠ i) : offPath i n := fun s => by
 cases s with
 | zero => simpa using hn
 | succ s =>
  have := h s
  rwa [Nat.div_div_eq_div_mul, Nat.mul_comm, ← Nat.pow_succ] at this
theorem climb {k : Nat} (hk : Fuel k) {bits : Int} (hb : okb bits) {ob : Mer} (ho : ob.bits = bits) : ∀ (s i m : Nat) (D : List Int), i < 2 ^ s → s < m → D.length = 512 → i < 256 → (∀ n : Nat, 1 ≤ n → n < 256 → offPath i n → nodeOk k bits D n) →
  ∃ D', loop (fun (s_ : Int × (List Int)) => merkle_Tree_changed.b2 k ob s_.1 s_.2) m ((i : Int), D) = some D' ∧ D'.length = 512 ∧ (∀ n : Nat, 1 ≤ n → n < 256 → nodeOk k bits D' n) ∧ ∀ n : Nat, 256 ≤ n → rd D' (n : Int) = rd D (n : Int)
 | _, _, 0, _, _, h, _, _, _ => absurd h (by omega)
 | s, 0, m + 1, D, hs, hm, hD, hi, hO => by
  refine ⟨D, loop_done ?_, hD, fun n h1 h2 => hO n h1 h2 (fun s => by rw [Nat.zero_div]; omega), fun _ _ => rfl⟩
  unfold merkle_Tree_changed.b2
  rw [if_neg (by simp)]
 | 0, i + 1, _ + 1, _, hs, _, _, _, _ => absurd hs (by simp)
 | s + 1, i + 1, m + 1, D, hs, hm, hD, hi, hO => by
  obtain ⟨q, hq⟩ : ∃ q, q = i + 1 := ⟨_, rfl⟩
  rw [← hq] at hs hi hO ⊢
  have hlt : q / 2 < 2 ^ s := by rw [Nat.pow_succ] at hs; omega
  have hv := ofPair_eq hk hb (rd D ((2 * q : Nat) : Int)) (rd D ((2 * q + 1 : Nat) : Int))
  obtain ⟨D', e, g1, g2, g3⟩ := climb hk hb ho s (q / 2) m (D.set q (hPair k bits (rd D ((2 * q : Nat) : Int)) (rd D ((2 * q + 1 : Nat) : Int)))) hlt (by omega) (by simpa using hD) (by omega) (fun n h1 h2 h3 => by
   have hql : q < D.length := by omega
   unfold nodeOk
   have n1 : ¬ (2 * n = q) := fun e => h3 0 (by simp; omega)
   have n2 : ¬ (2 * n + 1 = q) := fun e => h3 0 (by simp; omega)
   rw [rd_set D q n _ hql, rd_set D q (2 * n) _ hql, rd_set D q (2 * n + 1) _ hql, if_neg n1, if_neg n2]
   by_cases c : n = q
   ·rw [if_pos c, c]
   ·rw [if_neg c]; exact hO n h1 h2 (h3.half c))
  refine ⟨D', ?_, g1, g2, fun n hn => by rw [g3 n hn, rd_set D q n _ (by omega), if_neg (by omega)]⟩
  rw [loop_next (s' := (((q / 2 : Nat) : Int), D.set q (hPair k bits (rd D ((2 * q : Nat) : Int)) (rd D ((2 * q + 1 : Nat) : Int))))), e]
  have w1 : IntKind.i64.wrap (2 * (q : Int)) = ((2 * q : Nat) : Int) := by rw [wr (by omega) (by omega)]; omega
  have w2 : IntKind.i64.wrap (((2 * q : Nat) : Int) + 1) = ((2 * q + 1 : Nat) : Int) := by rw [wr (by omega) (by omega)]; omega
  have w3 : IntKind.i64.wrap (Int.tdiv (q : Int) 2) = ((q / 2 : Nat) : Int) := by rw [tdiv2, wr (by omega) (by omega)]
  unfold merkle_Tree_changed.b2
  simp only
  rw [if_pos (by omega), w1, w2, ho, if_pos (by omega), if_pos (by omega), bind_eq hv, if_pos (by omega), w3, Int.toNat_natCast]
structure MI (k : Nat) (bits : Int) (t : Mer) (R : List api_Row) : Prop where
 hbits : t.bits = bits
 many : t.many = (R.length : Int)
 rl : t.rows.length = 256
 rows : ∀ b : Nat, b < 256 → rd t.rows (b : Int) = fbk b R
 dl : t.digests.length = 512
 leaf : ∀ b : Nat, b < 256 → rd t.digests ((256 + b : Nat) : Int) = hBk k bits (fbk b R)
 node : ∀ n : Nat, 1 ≤ n → n < 256 → nodeOk k bits t.digests n
theorem changed_eq {k : Nat} (hk : Fuel k) {bits : Int} (hb : okb bits) {t : Mer} {R : List api_Row} {b : Nat} (hbl : b < 256) (h1 : t.bits = bits) (h2 : t.many = (R.length : Int)) (h3 : t.rows.length = 256) (h4 : ∀ b : Nat, b < 256 → rd t.rows (b : Int) = fbk b R) (h5 : t.digests.length = 512)
  (h6 : ∀ b' : Nat, b' < 256 → b' ≠ b → rd t.digests ((256 + b' : Nat) : Int) = hBk k bits (fbk b' R)) (h7 : ∀ n : Nat, 1 ≤ n → n < 256 → nodeOk k bits t.digests n) (hR : RL R) :
  ∃ t', merkle_Tree_changed.f k (some t) (b : Int) = some (some t') ∧ MI k bits t' R := by
 have h24 : 1099511627776 ≤ k := hk
 have ev : merkle_ofBucket.f k (rd t.rows (b : Int)) t.bits = some (hBk k bits (fbk b R)) := by rw [h4 b hbl, h1]; exact ofBucket_eq hk hb (hR.fbk b)
 have w1 : IntKind.i64.wrap (256 + (b : Int)) = ((256 + b : Nat) : Int) := by rw [wr (by omega) (by omega)]; omega
 have w2 : IntKind.i64.wrap (Int.tdiv ((256 + b : Nat) : Int) 2) = (((256 + b) / 2 : Nat) : Int) := by rw [tdiv2, wr (by omega) (by omega)]
 have hql : 256 + b < t.digests.length := by omega
 obtain ⟨D', e, g1, g2, g3⟩ := climb hk hb (ob := t) h1 8 ((256 + b) / 2) k (t.digests.set (256 + b) (hBk k bits (fbk b R))) (show (256 + b) / 2 < 256 by omega) (by omega) (by simpa using h5) (by omega) (fun n n1 n2 n3 => by
  have q0 := n3 0
  simp only [Nat.pow_zero, Nat.div_one] at q0
  unfold nodeOk
  rw [rd_set _ _ n _ hql, rd_set _ _ (2 * n) _ hql, rd_set _ _ (2 * n + 1) _ hql, if_neg (by omega), if_neg (by omega), if_neg (by omega)]
  exact h7 n n1 n2)
 refine ⟨Mer.mk t.bits D' t.rows t.many, ?_, h1, h2, h3, h4, g1, fun b' hb' => ?_, g2⟩
 ·unfold merkle_Tree_changed.f merkle_Tree_changed.j1
  rw [Option.bind_some, if_pos (by omega), bind_eq ev, w1, if_pos (by omega), w2, Int.toNat_natCast, bind_eq e]
  rfl
 ·show rd D' ((256 + b' : Nat) : Int) = _
  rw [g3 _ (by omega), rd_set _ _ _ _ hql]
  by_cases c : b' = b
  ·rw [if_pos (by omega), c]
  ·rw [if_neg (by omega)]; exact h6 b' hb' c
theorem at_eq {k : Nat} (hk : Fuel k) {bits : Int} {t : Mer} {R : List api_Row} (h : MI k bits t R) (hR : RL R) (hs : Srt R) {key : List Int} (hkl : key.length ≤ 1000000000) (hkb : brange key) :
  merkle_Tree_at.f k (some t) key = some ((bkt key : Int), ((lo key (fbk (bkt key) R)).length : Int), has key R) := by
 have hl := bkt_lt key
 have hf := hR.fbk (bkt key)
 have es : slices_BinarySearchFunc.f k (fbk (bkt key) R) (api_Row.mk key [] 0) = some (((lo key (fbk (bkt key) R)).length : Int), has key (fbk (bkt key) R)) := search_eq hk (R := fbk (bkt key) R) (by have := hf.1; omega) (hs.filter _) hf.br (t := api_Row.mk key [] 0) hkb
 unfold merkle_Tree_at.f
 rw [bind_eq (bucket_eq hk hkl), Option.bind_some, if_pos (by omega), h.rows (bkt key) hl, bind_eq es]
 simp only [has, md_fb]
theorem Get_eq {k : Nat} (hk : Fuel k) {bits : Int} {t : Mer} {R : List api_Row} (h : MI k bits t R) (hR : RL R) (hs : Srt R) {key : List Int} (hkl : key.length ≤ 1000000000) (hkb : brange key) :
  merkle_Tree_Get.f k (some t) key = some (match md key R with | [] => (api_Row.mk [] [] 0, false) | x :: _ => (x, true)) := by
 have hl := bkt_lt key
 unfold merkle_Tree_Get.f
 rw [if_neg (by simp), bind_eq (at_eq hk h hR hs hkl hkb)]
 dsimp only
 rcases at_lo (key := key) (hs.filter fun r => decide (bkt r.Key = bkt key)) with ⟨h1, h2, h3⟩ | ⟨x, h1, hx, h2, q, h3⟩
 ·have h1 : md key (fbk (bkt key) R) = [] := h1
  rw [md_fb] at h1
  have hh : ¬ has key R = true := by unfold has; rw [h1]; simp
  rw [if_neg hh, h1]
 ·have h1 : md key (fbk (bkt key) R) = [x] := h1
  have q : (lo key (fbk (bkt key) R)).length < (fbk (bkt key) R).length := q
  have h3 : (fbk (bkt key) R)[(lo key (fbk (bkt key) R)).length] = x := h3
  rw [md_fb] at h1
  have hm : x ∈ R := by
   have : x ∈ md key R := by rw [h1]; exact List.mem_singleton.2 rfl
   exact (List.mem_filter.1 this).1
  have hh : has key R = true := by unfold has; rw [h1]; simp
  rw [if_pos hh, h1, Option.bind_some, if_pos (by omega), h.rows (bkt key) hl, if_pos (by omega), rd_eq q, h3, bind_eq (own_RB (hR.2 x hm))]
theorem Digest_eq {t : Mer} {n : Nat} (h0 : 1 ≤ n) (h1 : n < 512) : merkle_Tree_Digest.f (some t) (n : Int) = some (rd t.digests (n : Int)) := by
 unfold merkle_Tree_Digest.f merkle_Tree_Digest.j1
 rw [if_neg (by simp), if_neg (by omega), decide_eq_false (by omega), if_neg (by simp), Option.bind_some, if_pos (by omega)]
theorem Root_eq {t : Mer} : merkle_Tree_Root.f (some t) = some (rd t.digests 1) := by
 unfold merkle_Tree_Root.f
 have := Digest_eq (t := t) (n := 1) (by omega) (by omega)
 have e1 : ((1 : Nat) : Int) = 1 := rfl
 rw [e1] at this
 rw [bind_eq this]
theorem put_len_has {r x : api_Row} {R : List api_Row} (hs : Srt R) (h : md r.Key R = [x]) : (putL r R).length = R.length := by
 have := lo_len (key := r.Key) hs
 rw [h] at this
 simp only [putL, List.length_append, List.length_cons, List.length_nil] at this ⊢
 omega
theorem put_len_new {r : api_Row} {R : List api_Row} (hs : Srt R) (h : md r.Key R = []) : (putL r R).length = R.length + 1 := by
 have := lo_len (key := r.Key) hs
 rw [h] at this
 simp only [putL, List.length_append, List.length_cons, List.length_nil] at this ⊢
 omega
theorem rd_rows {k : Nat} {bits : Int} {t : Mer} {R : List api_Row} (h : MI k bits t R) (b b' : Nat) (v : List api_Row) (hb : b < 256) : rd (t.rows.set b v) (b' : Int) = if b' = b then v else rd t.rows (b' : Int) := rd_set _ _ _ _ (by rw [h.rl]; exact hb)
theorem Put_eq {k : Nat} (hk : Fuel k) {bits : Int} (hb : okb bits) {t : Mer} {R : List api_Row} (h : MI k bits t R) (hR : RL R) (hR' : R.length + 1 ≤ 4194304) (hs : Srt R) {r : api_Row} (hr : RB r) :
  ∃ t', merkle_Tree_Put.f k (some t) r = some (some t') ∧ MI k bits t' (putL r R) ∧ RL (putL r R) ∧ Srt (putL r R) := by
 have hl := bkt_lt r.Key
 have hf := hR.fbk (bkt r.Key)
 have hkl : r.Key.length ≤ 1000000000 := by have := hr.1; omega
 have hRP : RL (putL r R) := by
  refine ⟨?_, fun x hx => ?_⟩
  ·rcases (hs.split r.Key).2 with q | ⟨x, q, _⟩
   ·rw [put_len_new hs q]; exact hR'
   ·rw [put_len_has hs q]; exact hR.1
  ·rcases putL_mem hx with rfl | hx
   ·exact hr
   ·exact hR.2 x hx
 have hrows : ∀ (v : List api_Row), v = putL r (fbk (bkt r.Key) R) → ∀ b : Nat, b < 256 → rd (t.rows.set (bkt r.Key) v) (b : Int) = fbk b (putL r R) := fun v hv b hb => by
  rw [rd_rows h _ _ _ hl]
  by_cases c : b = bkt r.Key
  ·rw [if_pos c, hv, c, fb_put]
  ·rw [if_neg c, h.rows b hb, fb_put_ne hs c]
 have hleaf : ∀ b' : Nat, b' < 256 → b' ≠ bkt r.Key → rd t.digests ((256 + b' : Nat) : Int) = hBk k bits (fbk b' (putL r R)) := fun b' hb' c => by rw [h.leaf b' hb', fb_put_ne hs c]
 unfold merkle_Tree_Put.f
 rw [if_neg (by simp), bind_eq (at_eq hk h hR hs hkl hr.2.2)]
 dsimp only
 rcases at_lo (key := r.Key) (hs.filter fun x => decide (bkt x.Key = bkt r.Key)) with ⟨h1, h2, h3⟩ | ⟨x, h1, hx, h2, q, h3⟩
 ·have h1 : md r.Key (fbk (bkt r.Key) R) = [] := h1
  have h2 : fbk (bkt r.Key) R = lo r.Key (fbk (bkt r.Key) R) ++ hi r.Key (fbk (bkt r.Key) R) := h2
  rw [md_fb] at h1
  have hlen := congrArg List.length h2
  rw [List.length_append] at hlen
  have hi1 := hf.1
  have ei : slices_Insert.f (fbk (bkt r.Key) R) ((lo r.Key (fbk (bkt r.Key) R)).length : Int) [r] = some (putL r (fbk (bkt r.Key) R)) := by
   unfold slices_Insert.f
   rw [if_pos ⟨by omega, by omega, rfl, by omega⟩]
   congr 1
   rw [Int.toNat_natCast]
   rw [(td h2).1, (td h2).2]
   unfold putL
   simp
  have hmany : IntKind.i64.wrap (t.many + 1) = ((putL r R).length : Int) := by rw [h.many, put_len_new hs h1, wr (by omega) (by omega)]; omega
  obtain ⟨t', e, g⟩ := changed_eq hk hb (t := Mer.mk t.bits t.digests (t.rows.set (bkt r.Key) (putL r (fbk (bkt r.Key) R))) ((putL r R).length : Int)) (R := putL r R) hl h.hbits rfl (by simpa using h.rl) (hrows _ rfl) h.dl hleaf h.node hRP
  refine ⟨t', ?_, g, hRP, putL_srt hs⟩
  have hh : ¬ has r.Key R = true := by unfold has; rw [h1]; simp
  rw [if_neg hh, Option.bind_some, if_pos (by omega), bind_eq (own_RB hr), h.rows (bkt r.Key) hl, bind_eq ei]
  unfold merkle_Tree_Put.j1
  simp only [Int.toNat_natCast]
  rw [hmany, bind_eq e]
 ·have h1 : md r.Key (fbk (bkt r.Key) R) = [x] := h1
  have h2 : fbk (bkt r.Key) R = lo r.Key (fbk (bkt r.Key) R) ++ x :: hi r.Key (fbk (bkt r.Key) R) := h2
  have q : (lo r.Key (fbk (bkt r.Key) R)).length < (fbk (bkt r.Key) R).length := q
  rw [md_fb] at h1
  have ei : (fbk (bkt r.Key) R).set (lo r.Key (fbk (bkt r.Key) R)).length r = putL r (fbk (bkt r.Key) R) := by
   exact (sx h2 r).1
  have hmany : t.many = ((putL r R).length : Int) := by rw [h.many, put_len_has hs h1]
  obtain ⟨t', e, g⟩ := changed_eq hk hb (t := Mer.mk t.bits t.digests (t.rows.set (bkt r.Key) (putL r (fbk (bkt r.Key) R))) t.many) (R := putL r R) hl h.hbits hmany (by simpa using h.rl) (hrows _ rfl) h.dl hleaf h.node hRP
  refine ⟨t', ?_, g, hRP, putL_srt hs⟩
  have hh : has r.Key R = true := by unfold has; rw [h1]; simp
  rw [if_pos hh, Option.bind_some, if_pos (by omega), bind_eq (own_RB hr), h.rows (bkt r.Key) hl, if_pos (by omega)]
  simp only [Int.toNat_natCast]
  rw [ei, bind_eq e]
theorem Delete_eq {k : Nat} (hk : Fuel k) {bits : Int} (hb : okb bits) {t : Mer} {R : List api_Row} (h : MI k bits t R) (hR : RL R) (hs : Srt R) {key : List Int} (hkl : key.length ≤ 1000000000) (hkb : brange key) :
  ∃ t', merkle_Tree_Delete.f k (some t) key = some (has key R, some t') ∧ MI k bits t' (delL key R) ∧ RL (delL key R) ∧ Srt (delL key R) := by
 have hl := bkt_lt key
 have hf := hR.fbk (bkt key)
 have hRD : RL (delL key R) := ⟨Nat.le_trans (List.length_filter_le ..) hR.1, fun x hx => hR.2 x (List.mem_filter.1 hx).1⟩
 have hSD : Srt (delL key R) := hs.filter _
 unfold merkle_Tree_Delete.f
 rw [if_neg (by simp), bind_eq (at_eq hk h hR hs hkl hkb)]
 dsimp only
 rcases at_lo (key := key) (hs.filter fun x => decide (bkt x.Key = bkt key)) with ⟨h1, h2, h3⟩ | ⟨x, h1, hx, h2, q, h3⟩
 ·have h1 : md key (fbk (bkt key) R) = [] := h1
  rw [md_fb] at h1
  have e : delL key R = R := filter_all fun x hx => by
   cases c : decide (x.Key = key) with
   | false => rfl
   | true =>
    have : x ∈ md key R := List.mem_filter.2 ⟨hx, c⟩
    rw [h1] at this; cases this
  have hh : ¬ has key R = true := by unfold has; rw [h1]; simp
  rw [if_neg hh, e]
  exact ⟨t, rfl, h, hR, hs⟩
 ·have h1 : md key (fbk (bkt key) R) = [x] := h1
  have h2 : fbk (bkt key) R = lo key (fbk (bkt key) R) ++ x :: hi key (fbk (bkt key) R) := h2
  have q : (lo key (fbk (bkt key) R)).length < (fbk (bkt key) R).length := q
  rw [md_fb] at h1
  have hf1 := hf.1
  have ed : slices_Delete.f (fbk (bkt key) R) ((lo key (fbk (bkt key) R)).length : Int) (IntKind.i64.wrap (((lo key (fbk (bkt key) R)).length : Int) + 1)) = some (delL key (fbk (bkt key) R)) := by
   rw [wrS _ (by omega)]
   unfold slices_Delete.f
   rw [if_pos ⟨by omega, by omega, by omega⟩, delL_eq (R := fbk (bkt key) R) (hs.filter _)]
   congr 1
   simp only [Int.toNat_natCast]
   rw [(sx h2 x).2.1, (sx h2 x).2.2]
  have hlen : R.length = (delL key R).length + 1 := by
   have := lo_len (key := key) hs
   rw [delL_eq hs, List.length_append]
   rw [h1] at this
   simp only [List.length_cons, List.length_nil] at this
   omega
  have hmany : IntKind.i64.wrap (t.many - 1) = ((delL key R).length : Int) := by
   have := hR.1
   rw [h.many, wr (by omega) (by omega)]; omega
  have hrows : ∀ b : Nat, b < 256 → rd (t.rows.set (bkt key) (delL key (fbk (bkt key) R))) (b : Int) = fbk b (delL key R) := fun b hb => by
   rw [rd_rows h _ _ _ hl]
   by_cases c : b = bkt key
   ·rw [if_pos c, c, fb_del]
   ·rw [if_neg c, h.rows b hb, fb_del_ne c]
  obtain ⟨t', e, g⟩ := changed_eq hk hb (t := Mer.mk t.bits t.digests (t.rows.set (bkt key) (delL key (fbk (bkt key) R))) ((delL key R).length : Int)) (R := delL key R) hl h.hbits rfl (by simpa using h.rl) hrows h.dl (fun b' hb' c => by rw [fb_del_ne c]; exact h.leaf b' hb') h.node hRD
  refine ⟨t', ?_, g, hRD, hSD⟩
  have hh : has key R = true := by unfold has; rw [h1]; simp
  rw [if_pos hh, Option.bind_some, if_pos (by omega), h.rows (bkt key) hl, bind_eq ed]
  unfold merkle_Tree_Delete.j1
  simp only [Int.toNat_natCast]
  rw [hmany, bind_eq e]
theorem fb_snoc (b : Nat) (l : List api_Row) (r : api_Row) : fbk b (l ++ [r]) = if bkt r.Key = b then fbk b l ++ [r] else fbk b l := by
 rw [fb_app]
 by_cases c : bkt r.Key = b
 ·rw [if_pos c]; congr 1; unfold fbk; rw [List.filter_cons_of_pos (by simpa using c)]; rfl
 ·rw [if_neg c]
  have : fbk b [r] = [] := by unfold fbk; rw [List.filter_cons_of_neg (by simpa using c)]; rfl
  rw [this, List.append_nil]
theorem New_eq {k : Nat} (hk : Fuel k) {bits : Int} (hb : okb bits) {R : List api_Row} (hR : RL R) (hs : Srt R) : ∃ t, merkle_New.f k R bits = some (some t, 0) ∧ MI k bits t R := by
 have h24 : 1099511627776 ≤ k := hk
 obtain ⟨b, eb, hbr⟩ := rising_eq hk (by have := hR.1; omega) hR.br
 have ht := hbr.2 hs
 subst ht
 have hRl := hR.1
 unfold merkle_New.f merkle_New.j1
 rw [if_neg (by omega), decide_eq_false (by omega), if_neg (by simp), bind_eq eb, if_pos rfl]
 have L := loop_inv (f := fun (s_ : Int × (List (List api_Row))) => merkle_New.b2 k R s_.1 s_.2) (I := fun i s => s.1 = (i : Int) ∧ s.2.length = 256 ∧ ∀ b : Nat, b < 256 → rd s.2 (b : Int) = fbk b (R.take i)) (P := fun x => x.length = 256 ∧ ∀ b : Nat, b < 256 → rd x (b : Int) = fbk b R) (N := R.length) ?_ ?_ R.length 0 (0, List.replicate 256 []) k ⟨rfl, List.length_replicate .., fun b hb => ?_⟩ (by omega) (by omega)
 ·obtain ⟨S, eS, hS, hB⟩ := L
  rw [bind_eq eS]
  unfold merkle_New.j3
  have M := loop_inv (f := fun (s_ : Int × (List Int)) => merkle_New.b4 k bits S s_.1 s_.2) (I := fun i s => s.1 = (i : Int) ∧ s.2.length = 512 ∧ ∀ b : Nat, b < i → rd s.2 ((256 + b : Nat) : Int) = hBk k bits (fbk b R)) (P := fun x => x.length = 512 ∧ ∀ b : Nat, b < 256 → rd x ((256 + b : Nat) : Int) = hBk k bits (fbk b R)) (N := 256) ?_ ?_ 256 0 (0, List.replicate 512 (0 : Int)) k ⟨rfl, List.length_replicate .., fun b h => absurd h (by omega)⟩ (by omega) (by omega)
  ·obtain ⟨D, eD, hD, hDl⟩ := M
   rw [bind_eq eD]
   unfold merkle_New.j5
   have O := loop_inv (f := fun (s_ : Int × (List Int)) => merkle_New.b6 k bits s_.1 s_.2) (I := fun i s => s.1 = 255 - (i : Int) ∧ s.2.length = 512 ∧ (∀ b : Nat, b < 256 → rd s.2 ((256 + b : Nat) : Int) = hBk k bits (fbk b R)) ∧ ∀ n : Nat, 255 - i < n → n < 256 → nodeOk k bits s.2 n) (P := fun x => x.length = 512 ∧ (∀ b : Nat, b < 256 → rd x ((256 + b : Nat) : Int) = hBk k bits (fbk b R)) ∧ ∀ n : Nat, 1 ≤ n → n < 256 → nodeOk k bits x n) (N := 255) ?_ ?_ 255 0 (255, D) k ⟨rfl, hD, hDl, fun n h h2 => absurd h (by omega)⟩ (by omega) (by omega)
   ·obtain ⟨D', eD', g1, g2, g3⟩ := O
    rw [bind_eq eD']
    exact ⟨_, rfl, rfl, rfl, hS, hB, g1, g2, g3⟩
   ·rintro i ⟨j, l⟩ hi ⟨hj, hl, hlf, hn⟩
    left
    simp only at hj hl hlf hn
    obtain ⟨q, hq⟩ : ∃ q : Nat, q = 255 - i := ⟨_, rfl⟩
    have hjq : j = (q : Int) := by omega
    subst hjq
    have w1 : IntKind.i64.wrap (2 * (q : Int)) = ((2 * q : Nat) : Int) := by rw [wr (by omega) (by omega)]; omega
    have w2 : IntKind.i64.wrap (((2 * q : Nat) : Int) + 1) = ((2 * q + 1 : Nat) : Int) := by rw [wr (by omega) (by omega)]; omega
    have en := ofPair_eq hk hb (rd l ((2 * q : Nat) : Int)) (rd l ((2 * q + 1 : Nat) : Int))
    have hql : q < l.length := by omega
    simp only [merkle_New.b6]
    rw [w1, w2, if_pos (by omega), if_pos (by omega), if_pos (by omega), bind_eq en, if_pos (by omega), wr (by omega) (by omega)]
    refine ⟨_, rfl, by simp only; omega, by simpa using hl, fun b hb => ?_, fun n h1 h2 => ?_⟩
    ·simp only [Int.toNat_natCast]
     rw [rd_set _ _ _ _ hql, if_neg (by omega)]; exact hlf b hb
    ·simp only [Int.toNat_natCast]
     unfold nodeOk
     rw [rd_set _ _ _ _ hql, rd_set _ _ _ _ hql, rd_set _ _ _ _ hql, if_neg (by omega : ¬ 2 * n = q), if_neg (by omega : ¬ 2 * n + 1 = q)]
     by_cases c : n = q
     ·rw [if_pos c, c]
     ·rw [if_neg c]; exact hn n (by omega) h2
   ·rintro ⟨j, l⟩ ⟨hj, hl, hlf, hn⟩
    simp only at hj hl hlf hn; subst hj
    simp only [merkle_New.b6]
    rw [if_neg (by omega)]
    exact ⟨_, rfl, hl, hlf, fun n h1 h2 => hn n (by omega) h2⟩
  ·rintro i ⟨j, l⟩ hi ⟨hj, hl, hlf⟩
   left
   simp only at hj hl hlf; subst hj
   have en : merkle_ofBucket.f k (rd S (i : Int)) bits = some (hBk k bits (fbk i R)) := by rw [hB i hi]; exact ofBucket_eq hk hb (hR.fbk i)
   have w1 : IntKind.i64.wrap (256 + (i : Int)) = ((256 + i : Nat) : Int) := by rw [wr (by omega) (by omega)]; omega
   simp only [merkle_New.b4]
   rw [if_pos (by omega), if_pos (by omega), bind_eq en, w1, if_pos (by omega), wrS i (by omega)]
   refine ⟨_, rfl, rfl, by simpa using hl, fun b hb => ?_⟩
   simp only [Int.toNat_natCast]
   rw [rd_set _ _ _ _ (by omega)]
   by_cases c : b = i
   ·rw [if_pos (by omega), c]
   ·rw [if_neg (by omega)]; exact hlf b (by omega)
  ·rintro ⟨j, l⟩ ⟨hj, hl, hlf⟩
   simp only at hj hl hlf; subst hj
   simp only [merkle_New.b4]
   rw [if_neg (by omega)]
   exact ⟨_, rfl, hl, hlf⟩
 ·rintro i ⟨j, S⟩ hi ⟨hj, hS, hB⟩
  left
  simp only at hj hS hB; subst hj
  have hr := hR.2 _ (List.getElem_mem hi)
  have hkl : R[i].Key.length ≤ 1000000000 := by have := hr.1; omega
  have hl := bkt_lt R[i].Key
  have hlen : (rd S ((bkt R[i].Key : Nat) : Int)).length ≤ 4194304 := by rw [hB _ hl]; have := fb_len (bkt R[i].Key) (R.take i); simp only [List.length_take] at this; omega
  simp only [merkle_New.b2]
  rw [if_pos (by omega), if_pos (by omega), rd_eq hi, bind_eq (bucket_eq hk hkl), if_pos (by omega), bind_eq (own_RB hr), if_pos (by simp only [List.length_singleton]; omega), wrS i (by omega)]
  refine ⟨_, rfl, rfl, by simpa using hS, fun b hb => ?_⟩
  simp only [Int.toNat_natCast]
  rw [rd_set _ _ _ _ (by omega), take_one hi, fb_snoc]
  by_cases c : b = bkt R[i].Key
  ·rw [if_pos c, if_pos c.symm, hB _ hl, c]
  ·rw [if_neg c, if_neg (fun q => c q.symm)]; exact hB b hb
 ·rintro ⟨j, S⟩ ⟨hj, hS, hB⟩
  simp only at hj hS hB; subst hj
  simp only [merkle_New.b2]
  rw [if_neg (by omega)]
  rw [List.take_length] at hB
  exact ⟨_, rfl, hS, hB⟩
 ·unfold rd
  simp only [Int.toNat_natCast, List.take_zero]
  rw [List.getD_eq_getElem?_getD, List.getElem?_replicate, if_pos hb]; rfl
theorem put_snoc {r : api_Row} {R : List api_Row} (h : ∀ x ∈ R, cm x.Key r.Key = true) : putL r R = R ++ [r] := by
 unfold putL
 have e1 : lo r.Key R = R := filter_all h
 have e2 : hi r.Key R = [] := filter_none fun x hx => cm_asym (h x hx)
 rw [e1, e2]
def sortL (X : List api_Row) : List api_Row := X.foldl (fun o r => putL r o) []
theorem sortL_snoc (X : List api_Row) (r : api_Row) : sortL (X ++ [r]) = putL r (sortL X) := by simp [sortL]
theorem sortL_take {R : List api_Row} (h : Srt R) : ∀ n, n ≤ R.length → sortL (R.take n) = R.take n
 | 0, _ => rfl
 | n + 1, hn => by
  rw [take_one (by omega), sortL_snoc, sortL_take h n (by omega)]
  apply put_snoc
  intro x hx
  obtain ⟨q, hq, rfl⟩ := List.getElem_of_mem hx
  have hq' : q < n := by simp at hq; omega
  rw [List.getElem_take]
  exact List.pairwise_iff_getElem.1 h q n (by omega) (by omega) hq'
theorem sortL_self {R : List api_Row} (h : Srt R) : sortL R = R := by
 have := sortL_take h R.length (Nat.le_refl _)
 rwa [List.take_length] at this
theorem sortL_srt : ∀ X : List api_Row, Srt (sortL X) := by
 intro X
 have key : ∀ (X o : List api_Row), Srt o → Srt (X.foldl (fun o r => putL r o) o) := by
  intro X
  induction X with
  | nil => intro o h; exact h
  | cons r X ih => intro o h; exact ih _ (putL_srt h)
 exact key X [] List.Pairwise.nil
theorem put_len_le {r : api_Row} {R : List api_Row} (hs : Srt R) : (putL r R).length ≤ R.length + 1 := by
 rcases (hs.split r.Key).2 with q | ⟨x, q, _⟩
 ·rw [put_len_new hs q]; omega
 ·rw [put_len_has hs q]; omega
theorem sortL_rl {X : List api_Row} (h : RL X) : (sortL X).length ≤ X.length ∧ ∀ r ∈ sortL X, RB r := by
 have key : ∀ (X o : List api_Row), Srt o → (∀ r ∈ X, RB r) → (∀ r ∈ o, RB r) → (X.foldl (fun o r => putL r o) o).length ≤ o.length + X.length ∧ ∀ r ∈ X.foldl (fun o r => putL r o) o, RB r := by
  intro X
  induction X with
  | nil => intro o _ _ h; exact ⟨Nat.le_refl _, h⟩
  | cons r X ih =>
   intro o hs h1 h2
   obtain ⟨g1, g2⟩ := ih (putL r o) (putL_srt hs) (fun x hx => h1 x (List.mem_cons_of_mem _ hx)) (fun x hx => by
    rcases putL_mem hx with rfl | hx
    ·exact h1 x (by simp)
    ·exact h2 x hx)
   have := put_len_le (r := r) hs
   exact ⟨by rw [List.foldl_cons, List.length_cons]; omega, g2⟩
 have := key X [] List.Pairwise.nil h.2 (fun r hr => by cases hr)
 simp only [List.length_nil, Nat.zero_add] at this
 exact this
theorem place_eq {k : Nat} (hk : Fuel k) {X out : List api_Row} (hX : RL X) (ho : Srt out) (hol : out.length ≤ 4194304) (hob : ∀ r ∈ out, RB r) {i : Nat} (hi : i < X.length) :
  loop (fun (s_ : Int) => haulagelaw10_sorted.b4 k X out (i : Int) s_) k 0 = some ((lo X[i].Key out).length : Int) := by
 have h24 : 1099511627776 ≤ k := hk
 have hXl := hX.1
 have hlen := lo_len (key := X[i].Key) ho
 have L := loop_inv (f := fun (s_ : Int) => haulagelaw10_sorted.b4 k X out (i : Int) s_) (I := fun q s => s = (q : Int)) (P := fun x => x = ((lo X[i].Key out).length : Int)) (N := (lo X[i].Key out).length) ?_ ?_ (lo X[i].Key out).length 0 0 k rfl (by omega) (by omega)
 ·obtain ⟨x, e, rfl⟩ := L
  exact e
 ·rintro q _ hq rfl
  left
  have hqo : q < out.length := by omega
  have ec := comes_eq hk out[q].Key X[i].Key (by have := (hob _ (List.getElem_mem hqo)).1; omega)
  rw [idx_lt ho hqo, decide_eq_true hq] at ec
  simp only [haulagelaw10_sorted.b4]
  rw [if_pos (by omega), if_pos (by omega), if_pos (by omega), rd_eq hqo, rd_eq hi, bind_eq ec]
  unfold haulagelaw10_sorted.j3
  rw [if_pos rfl, wrS q (by omega)]
  exact ⟨_, rfl, rfl⟩
 ·rintro _ rfl
  simp only [haulagelaw10_sorted.b4]
  by_cases c : (lo X[i].Key out).length < out.length
  ·have ec := comes_eq hk out[(lo X[i].Key out).length].Key X[i].Key (by have := (hob _ (List.getElem_mem c)).1; omega)
   rw [idx_lt ho c, decide_eq_false (by omega)] at ec
   rw [if_pos (by omega), if_pos (by omega), if_pos (by omega), rd_eq c, rd_eq hi, bind_eq ec]
   unfold haulagelaw10_sorted.j3
   rw [if_neg (by simp)]
   exact ⟨_, rfl, rfl⟩
  ·rw [if_neg (by omega)]
   unfold haulagelaw10_sorted.j3
   rw [if_neg (by simp)]
   exact ⟨_, rfl, rfl⟩
theorem sorted_eq {k : Nat} (hk : Fuel k) {X : List api_Row} (hX : RL X) : haulagelaw10_sorted.f k X = some (sortL X) := by
 have h24 : 1099511627776 ≤ k := hk
 have hXl := hX.1
 unfold haulagelaw10_sorted.f
 have L := loop_inv (f := fun (s_ : (List api_Row) × Int) => haulagelaw10_sorted.b7 k X s_.1 s_.2) (I := fun i s => s.1 = sortL (X.take i) ∧ s.2 = (i : Int)) (P := fun x => x = sortL X) (N := X.length) ?_ ?_ X.length 0 ([], 0) k ⟨rfl, rfl⟩ (by omega) (by omega)
 ·obtain ⟨x, e, rfl⟩ := L
  rw [bind_eq e]; rfl
 ·rintro i ⟨out, j⟩ hi ⟨ho, hj⟩
  left
  simp only at ho hj; subst hj
  have hTk : RL (X.take i) := ⟨by simp; omega, fun r hr => hX.2 r (List.mem_of_mem_take hr)⟩
  have hso : Srt out := by rw [ho]; exact sortL_srt _
  obtain ⟨hol, hob⟩ := sortL_rl hTk
  rw [← ho] at hol hob
  have hol' : out.length ≤ 4194304 := by have := hTk.1; omega
  have hlen := lo_len (key := X[i].Key) hso
  have hn : sortL (X.take (i + 1)) = putL X[i] out := by rw [take_one hi, sortL_snoc, ← ho]
  simp only [haulagelaw10_sorted.b7]
  rw [if_pos (by omega), bind_eq (place_eq hk hX hso hol' hob hi)]
  unfold haulagelaw10_sorted.j5
  have fin : (haulagelaw10_sorted.j6 X out (i : Int) ((lo X[i].Key out).length : Int) (has X[i].Key out)) = some (.next (putL X[i] out, ((i + 1 : Nat) : Int))) := by
   unfold haulagelaw10_sorted.j6
   rcases at_lo (key := X[i].Key) hso with ⟨h1, h2, h3⟩ | ⟨x, h1, hx, h2, q, h3⟩
   ·have hh : ¬ has X[i].Key out = true := by unfold has; rw [h1]; simp
    have ll := congrArg List.length h2
    simp only [List.length_append] at ll
    rw [if_neg hh, if_pos (by omega), if_pos (by simp only [List.length_take]; omega), if_pos (by omega), if_pos (by simp only [List.length_append, List.length_take, List.length_nil, List.length_singleton]; omega), if_pos (by omega), if_pos (by simp only [List.length_append, List.length_take, List.length_drop, List.length_nil, List.length_singleton, Int.toNat_natCast]; omega), wrS i (by omega), rd_eq hi]
    simp only [Int.toNat_natCast]
    rw [(td h2).1, (td h2).2]
    unfold putL
    simp
   ·have hh : has X[i].Key out = true := by unfold has; rw [h1]; simp
    rw [if_pos hh, if_pos (by omega), if_pos (by omega), wrS i (by omega), rd_eq hi]
    simp only [Int.toNat_natCast]
    rw [(sx h2 _).1]
    rfl
  by_cases c : (lo X[i].Key out).length < out.length
  ·have es := same_eq hk out[(lo X[i].Key out).length].Key X[i].Key (.inl (by have := (hob _ (List.getElem_mem c)).1; omega))
   have hsame : decide (out[(lo X[i].Key out).length].Key = X[i].Key) = has X[i].Key out := by
    unfold has
    rcases at_lo (key := X[i].Key) hso with ⟨h1, h2, h3⟩ | ⟨x, h1, hx, h2, q, h3⟩
    ·rw [h1]; simpa using h3 c
    ·rw [h1, h3]; simpa using hx
   rw [hsame] at es
   rw [if_pos (by omega), if_pos (by omega), if_pos (by omega), rd_eq c, rd_eq hi, bind_eq es, fin]
   exact ⟨_, rfl, hn.symm, rfl⟩
  ·have hh : has X[i].Key out = false := by
    unfold has
    rcases at_lo (key := X[i].Key) hso with ⟨h1, h2, h3⟩ | ⟨x, h1, hx, h2, q, h3⟩
    ·rw [h1]; rfl
    ·omega
   rw [hh] at fin
   rw [if_neg (by omega), fin]
   exact ⟨_, rfl, hn.symm, rfl⟩
 ·rintro ⟨out, j⟩ ⟨ho, hj⟩
  simp only at ho hj; subst hj
  simp only [haulagelaw10_sorted.b7]
  rw [if_neg (by omega)]
  rw [List.take_length] at ho
  exact ⟨_, rfl, ho⟩
abbrev CL (C : List haulagelaw10_Change) : Prop := C.length ≤ 2097152 ∧ ∀ c ∈ C, RB c.Row
def stepR (R : List api_Row) (c : haulagelaw10_Change) : List api_Row := if c.Goes = true then delL c.Row.Key R else putL c.Row R
def runR (C : List haulagelaw10_Change) : List api_Row := C.foldl stepR []
theorem has_len {key : List Int} {R : List api_Row} (hs : Srt R) : has key R = decide (((delL key R).length : Int) < (R.length : Int)) := by
 have h := lo_len (key := key) hs
 rw [delL_eq hs, List.length_append]
 unfold has
 rcases (hs.split key).2 with q | ⟨x, q, _⟩
 ·rw [q] at h ⊢
  simp only [List.length_nil] at h
  rw [decide_eq_false (by omega)]; rfl
 ·rw [q] at h ⊢
  simp only [List.length_cons, List.length_nil] at h
  rw [decide_eq_true (by omega)]; rfl
theorem left_eq {k : Nat} (hk : Fuel k) {C : List haulagelaw10_Change} (hC : CL C) {i : Nat} (hi : i < C.length) {R : List api_Row} (hR : RL R) :
  loop (fun (s_ : (List api_Row) × Int) => haulagelaw10_grown.b4 k C R (i : Int) s_.1 s_.2) k ([], 0) = some (delL C[i].Row.Key R) := by
 have h24 : 1099511627776 ≤ k := hk
 have hRl := hR.1
 have L := loop_inv (f := fun (s_ : (List api_Row) × Int) => haulagelaw10_grown.b4 k C R (i : Int) s_.1 s_.2) (I := fun q s => s.1 = delL C[i].Row.Key (R.take q) ∧ s.2 = (q : Int)) (P := fun x => x = delL C[i].Row.Key R) (N := R.length) ?_ ?_ R.length 0 ([], 0) k ⟨rfl, rfl⟩ (by omega) (by omega)
 ·obtain ⟨x, e, rfl⟩ := L
  exact e
 ·rintro q ⟨l, j⟩ hq ⟨hl, hj⟩
  left
  simp only at hl hj; subst hj
  have es := same_eq hk R[q].Key C[i].Row.Key (.inl (by have := (hR.2 _ (List.getElem_mem hq)).1; omega))
  have hll : l.length ≤ q := by
   rw [hl]
   refine Nat.le_trans (List.length_filter_le ..) ?_
   simp; omega
  have e2 : delL C[i].Row.Key (R.take (q + 1)) = if R[q].Key = C[i].Row.Key then l else l ++ [R[q]] := by
   rw [take_one hq, hl]
   unfold delL
   rw [List.filter_append]
   by_cases c : R[q].Key = C[i].Row.Key
   ·rw [if_pos c, List.filter_cons_of_neg (by simpa using c)]; simp
   ·rw [if_neg c, List.filter_cons_of_pos (by simpa using c)]; rfl
  simp only [haulagelaw10_grown.b4]
  rw [if_pos (by omega), if_pos (by omega), rd_eq hq, rd_eq hi, bind_eq es]
  by_cases c : R[q].Key = C[i].Row.Key
  ·rw [if_pos (by simpa using c), wrS q (by omega)]
   exact ⟨_, rfl, by rw [e2, if_pos c], rfl⟩
  ·rw [if_neg (by simpa using c), if_pos (by omega), if_pos (by simp only [List.length_singleton]; omega), wrS q (by omega)]
   exact ⟨_, rfl, by rw [e2, if_neg c], rfl⟩
 ·rintro ⟨l, j⟩ ⟨hl, hj⟩
  simp only at hl hj; subst hj
  simp only [haulagelaw10_grown.b4]
  rw [if_neg (by omega)]
  rw [List.take_length] at hl
  exact ⟨_, rfl, hl⟩
theorem grown_eq {k : Nat} (hk : Fuel k) {bits : Int} (hb : okb bits) {C : List haulagelaw10_Change} (hC : CL C) : ∃ t, haulagelaw10_grown.f k C bits = some (some t, runR C) ∧ MI k bits t (runR C) ∧ RL (runR C) ∧ Srt (runR C) ∧ (runR C).length ≤ C.length := by
 have h24 : 1099511627776 ≤ k := hk
 have hCl := hC.1
 obtain ⟨t0, e0, M0⟩ := New_eq hk hb (R := []) ⟨by simp, fun r hr => by cases hr⟩ List.Pairwise.nil
 unfold haulagelaw10_grown.f haulagelaw10_grown.j1
 rw [bind_eq e0]
 dsimp only
 rw [if_pos rfl, if_neg (by simp)]
 have L := loop_inv (f := fun (s_ : (Option Mer) × (List api_Row) × Int) => haulagelaw10_grown.b6 k C s_.1 s_.2.1 s_.2.2) (I := fun i s => s.2.1 = runR (C.take i) ∧ s.2.2 = (i : Int) ∧ (∃ t, s.1 = some t ∧ MI k bits t s.2.1) ∧ RL s.2.1 ∧ Srt s.2.1 ∧ s.2.1.length ≤ i) (P := fun x => ∃ t, x = .inl (some t, runR C) ∧ MI k bits t (runR C) ∧ RL (runR C) ∧ Srt (runR C) ∧ (runR C).length ≤ C.length) (N := C.length) ?_ ?_ C.length 0 (some t0, [], 0) k ⟨rfl, rfl, ⟨t0, rfl, M0⟩, ⟨by simp, fun r hr => by cases hr⟩, List.Pairwise.nil, Nat.le_refl _⟩ (by omega) (by omega)
 ·obtain ⟨x, e, t, rfl, h⟩ := L
  rw [bind_eq e]
  exact ⟨t, rfl, h⟩
 ·rintro i ⟨ot, R, j⟩ hi ⟨hr, hj, ⟨t, ht, hM⟩, hR, hs, hl⟩
  left
  simp only at hr hj ht hM hR hs hl; subst hj ht
  have hc := hC.2 _ (List.getElem_mem hi)
  have hkl : C[i].Row.Key.length ≤ 1000000000 := by have := hc.1; omega
  have hn : runR (C.take (i + 1)) = stepR R C[i] := by rw [hr]; unfold runR; rw [take_one hi, List.foldl_append]; rfl
  simp only [haulagelaw10_grown.b6]
  rw [if_pos (by omega), if_pos (by omega), rd_eq hi]
  by_cases c : C[i].Goes = true
  ·have hst : stepR R C[i] = delL C[i].Row.Key R := by unfold stepR; rw [if_pos c]
   obtain ⟨t', et, hM', hR', hs'⟩ := Delete_eq hk hb hM hR hs hkl hc.2.2
   rw [if_pos c, bind_eq (left_eq hk hC hi hR)]
   unfold haulagelaw10_grown.j5
   rw [rd_eq hi, bind_eq et]
   dsimp only
   rw [if_pos (by rw [has_len hs]; simp), wrS i (by omega)]
   exact ⟨_, rfl, by rw [hn, hst], rfl, ⟨t', rfl, hM'⟩, hR', hs', Nat.le_trans (List.length_filter_le ..) (by omega)⟩
  ·have hst : stepR R C[i] = putL C[i].Row R := by unfold stepR; rw [if_neg c]
   obtain ⟨t', et, hM', hR', hs'⟩ := Put_eq hk hb hM hR (by omega) hs hc
   have hRX : RL (R ++ [C[i].Row]) := ⟨by simp; omega, fun x hx => by
    rcases List.mem_append.1 hx with hx | hx
    ·exact hR.2 x hx
    ·rw [List.mem_singleton.1 hx]; exact hc⟩
   have eS : haulagelaw10_sorted.f k (R ++ [C[i].Row]) = some (putL C[i].Row R) := by rw [sorted_eq hk hRX, sortL_snoc, sortL_self hs]
   rw [if_neg c, bind_eq et, if_pos (by simp only [List.length_singleton]; omega), bind_eq eS, wrS i (by omega)]
   have := put_len_le (r := C[i].Row) hs
   exact ⟨_, rfl, by rw [hn, hst], rfl, ⟨t', rfl, hM'⟩, hR', hs', by show (putL C[i].Row R).length ≤ _; omega⟩
 ·rintro ⟨ot, R, j⟩ ⟨hr, hj, ⟨t, ht, hM⟩, hR, hs, hl⟩
  simp only at hr hj ht hM hR hs hl; subst hj ht
  rw [List.take_length] at hr
  simp only [haulagelaw10_grown.b6]
  rw [if_neg (by omega), hr]
  rw [hr] at hM hR hs hl
  exact ⟨_, rfl, t, rfl, hM, hR, hs, hl⟩
theorem owned_eq {k : Nat} (hk : Fuel k) {R : List api_Row} (hR : RL R) : merkle_owned.f k R = some R := by
 have h24 : 1099511627776 ≤ k := hk
 have hRl := hR.1
 unfold merkle_owned.f
 have L := loop_inv (f := fun (s_ : (List api_Row) × Int) => merkle_owned.b1 R s_.1 s_.2) (I := fun q s => s.1 = R.take q ∧ s.2 = (q : Int)) (P := fun x => x = R) (N := R.length) ?_ ?_ R.length 0 ([], 0) k ⟨rfl, rfl⟩ (by omega) (by omega)
 ·obtain ⟨x, e, rfl⟩ := L
  rw [bind_eq e]; rfl
 ·rintro q ⟨l, j⟩ hq ⟨hl, hj⟩
  left
  simp only at hl hj; subst hj
  have hll : l.length = q := by rw [hl]; simp; omega
  simp only [merkle_owned.b1]
  rw [if_pos (by omega), if_pos (by omega), rd_eq hq, bind_eq (own_RB (hR.2 _ (List.getElem_mem hq))), if_pos (by simp only [List.length_singleton]; omega), wrS q (by omega)]
  exact ⟨_, rfl, by rw [take_one hq, hl], rfl⟩
 ·rintro ⟨l, j⟩ ⟨hl, hj⟩
  simp only at hl hj; subst hj
  simp only [merkle_owned.b1]
  rw [if_neg (by omega)]
  rw [List.take_length] at hl
  exact ⟨_, rfl, hl⟩
def sib (n : Nat) : Nat := if n % 2 = 0 then n + 1 else n - 1
theorem xor_one (n : Nat) : n ^^^ 1 = sib n := by
 unfold sib
 apply Nat.eq_of_testBit_eq
 intro i
 rw [Nat.testBit_xor]
 cases i with
 | zero =>
  simp only [Nat.testBit_zero]
  by_cases c : n % 2 = 0
  ·have h2 : (n + 1) % 2 = 1 := by omega
   simp [c, h2]
  ·have h1 : n % 2 = 1 := by omega
   have h2 : (n - 1) % 2 = 0 := by omega
   simp [h1, h2]
 | succ i =>
  have h1 : Nat.testBit 1 (i + 1) = false := by
   rw [Nat.testBit_succ]; simp
  rw [h1, Bool.xor_false, Nat.testBit_succ]
  rw [Nat.testBit_succ]
  congr 1
  split <;> omega
theorem bxor_sib {n : Nat} (h : n < 1000000) : bxor .i64 (n : Int) 1 = (sib n : Int) := by
 have hs : sib n < 2000000 := by unfold sib; split <;> omega
 unfold bxor
 have e : (BitVec.ofInt IntKind.i64.bits (n : Int) ^^^ BitVec.ofInt IntKind.i64.bits 1).toNat = sib n := by
  rw [BitVec.toNat_xor]
  have e1 : BitVec.ofInt IntKind.i64.bits (1 : Int) = BitVec.ofNat 64 1 := rfl
  rw [e1]
  simp only [BitVec.ofInt_natCast, BitVec.toNat_ofNat, IntKind.bits]
  rw [Nat.mod_eq_of_lt (by omega), Nat.mod_eq_of_lt (by omega), xor_one]
 rw [e, wr (by omega) (by omega)]
theorem band_one {n : Nat} (h : n < 1000000) : band .i64 (n : Int) 1 = ((n % 2 : Nat) : Int) := by
 unfold band
 have e : (BitVec.ofInt IntKind.i64.bits (n : Int) &&& BitVec.ofInt IntKind.i64.bits 1).toNat = n % 2 := by
  rw [BitVec.toNat_and]
  have e1 : BitVec.ofInt IntKind.i64.bits (1 : Int) = BitVec.ofNat 64 1 := rfl
  rw [e1]
  simp only [BitVec.ofInt_natCast, BitVec.toNat_ofNat, IntKind.bits]
  rw [Nat.mod_eq_of_lt (by omega), Nat.mod_eq_of_lt (by omega)]
  exact Nat.and_two_pow_sub_one_eq_mod n 1
 rw [e, wr (by omega) (by omega)]
theorem shr_one (n : Nat) : shr .i64 (n : Int) 1 = ((n / 2 : Nat) : Int) := by
 unfold shr
 have : (2 : Int) ^ (min (1 : Int).toNat IntKind.i64.bits) = 2 := by decide
 rw [this, Int.fdiv_eq_ediv_of_nonneg _ (by omega)]
 omega
structure PathOk (D : List Int) (b : Nat) (L : List Int) : Prop where
 len : L.length = 8
 at_ : ∀ j : Nat, j < 8 → rd L (j : Int) = rd D ((sib ((256 + b) / 2 ^ j) : Nat) : Int)
theorem pow_lt {j : Nat} (h : j < 8) : 2 ^ j ≤ 128 := by
 have : 2 ^ j ≤ 2 ^ 7 := Nat.pow_le_pow_right (by decide) (by omega)
 have e : (2 : Nat) ^ 7 = 128 := by decide
 omega
theorem node_rng {b j : Nat} (hb : b < 256) (h : j < 8) : 2 ≤ (256 + b) / 2 ^ j ∧ (256 + b) / 2 ^ j < 512 := by
 have := pow_lt h
 have h2 := Nat.two_pow_pos j
 exact ⟨(Nat.le_div_iff_mul_le h2).2 (by omega), Nat.lt_of_le_of_lt (Nat.div_le_self ..) (by omega)⟩
theorem node_top {b : Nat} (hb : b < 256) : (256 + b) / 2 ^ 8 = 1 := by
 have e : (2 : Nat) ^ 8 = 256 := by decide
 rw [e]; omega
theorem node_next (n j : Nat) : n / 2 ^ (j + 1) = n / 2 ^ j / 2 := by rw [Nat.div_div_eq_div_mul, Nat.pow_succ]
theorem sib_lt {n : Nat} (h : n < 512) : sib n < 512 := by unfold sib; split <;> omega
theorem Prove_eq {k : Nat} (hk : Fuel k) {bits : Int} {t : Mer} {R : List api_Row} (h : MI k bits t R) (hR : RL R) {key : List Int} (hkl : key.length ≤ 1000000000) :
  ∃ L, merkle_Tree_Prove.f k (some t) key = some ⟨fbk (bkt key) R, L⟩ ∧ PathOk t.digests (bkt key) L := by
 have h24 : 1099511627776 ≤ k := hk
 have hl := bkt_lt key
 obtain ⟨b, hb⟩ : ∃ b, b = bkt key := ⟨_, rfl⟩
 unfold merkle_Tree_Prove.f
 rw [if_neg (by simp), bind_eq (bucket_eq hk hkl), Option.bind_some, if_pos (by omega), h.rows _ hl, bind_eq (owned_eq hk (hR.fbk _))]
 rw [← hb] at hl ⊢
 have w0 : IntKind.i64.wrap (256 + (b : Int)) = ((256 + b : Nat) : Int) := by rw [wr (by omega) (by omega)]; omega
 have L := loop_inv (f := fun (s_ : Int × Int × (List Int)) => merkle_Tree_Prove.b1 t s_.1 s_.2.1 s_.2.2) (I := fun i s => s.1 = (((256 + b) / 2 ^ i : Nat) : Int) ∧ s.2.1 = (i : Int) ∧ s.2.2.length = 8 ∧ ∀ j : Nat, j < i → rd s.2.2 (j : Int) = rd t.digests ((sib ((256 + b) / 2 ^ j) : Nat) : Int)) (P := fun x => PathOk t.digests b x) (N := 8) ?_ ?_ 8 0 (((256 + b : Nat) : Int), 0, List.replicate 8 (0 : Int)) k ⟨by simp, rfl, by simp, fun j h => absurd h (by omega)⟩ (by omega) (by omega)
 ·obtain ⟨x, e, hx⟩ := L
  rw [w0, bind_eq e]
  exact ⟨x, rfl, hx⟩
 ·rintro i ⟨n, j, l⟩ hi ⟨hn, hj, hll, hp⟩
  left
  simp only at hn hj hll hp; subst hn hj
  obtain ⟨n1, n2⟩ := node_rng hl hi
  have w1 : IntKind.i64.wrap (Int.tdiv (((256 + b) / 2 ^ i : Nat) : Int) 2) = (((256 + b) / 2 ^ (i + 1) : Nat) : Int) := by rw [tdiv2, node_next, wr (by omega) (by omega)]
  have hsb := sib_lt n2
  simp only [merkle_Tree_Prove.b1]
  rw [if_pos (by omega), bxor_sib (by omega), if_pos (by omega), if_pos (by omega), w1, wrS i (by omega)]
  refine ⟨_, rfl, rfl, rfl, by simpa using hll, fun j hj => ?_⟩
  simp only [Int.toNat_natCast]
  rw [rd_set _ _ _ _ (by omega)]
  by_cases c : j = i
  ·rw [if_pos c, c]
  ·rw [if_neg c]; exact hp j (by omega)
 ·rintro ⟨n, j, l⟩ ⟨hn, hj, hll, hp⟩
  simp only at hn hj hll hp; subst hn hj
  simp only [merkle_Tree_Prove.b1]
  rw [node_top hl, if_neg (by omega)]
  exact ⟨_, rfl, hll, hp⟩
def ck (k : Nat) (bits : Int) (L : List Int) (n : Nat) (a : Int) : Nat → Int
 | 0 => a
 | i + 1 => if (n / 2 ^ i) % 2 = 0 then hPair k bits (ck k bits L n a i) (rd L (i : Int)) else hPair k bits (rd L (i : Int)) (ck k bits L n a i)
theorem ck_loop {k : Nat} (hk : Fuel k) {bits : Int} (hb : okb bits) {p : merkle_Proof} (hp : p.Path.length = 8) {b : Nat} (hl : b < 256) (a : Int) :
  loop (fun (s_ : Int × Int × Int) => merkle_Check.b3 k bits p s_.1 s_.2.1 s_.2.2) k (((256 + b : Nat) : Int), a, 0) = some (ck k bits p.Path (256 + b) a 8) := by
 have h24 : 1099511627776 ≤ k := hk
 have L := loop_inv (f := fun (s_ : Int × Int × Int) => merkle_Check.b3 k bits p s_.1 s_.2.1 s_.2.2) (I := fun i s => s.1 = (((256 + b) / 2 ^ i : Nat) : Int) ∧ s.2.1 = ck k bits p.Path (256 + b) a i ∧ s.2.2 = (i : Int)) (P := fun x => x = ck k bits p.Path (256 + b) a 8) (N := 8) ?_ ?_ 8 0 (((256 + b : Nat) : Int), a, 0) k ⟨by simp, rfl, rfl⟩ (by omega) (by omega)
 ·obtain ⟨x, e, rfl⟩ := L
  exact e
 ·rintro i ⟨n, x, j⟩ hi ⟨hn, hx, hj⟩
  left
  simp only at hn hx hj; subst hn hx hj
  obtain ⟨n1, n2⟩ := node_rng hl hi
  simp only [merkle_Check.b3]
  rw [if_pos (by omega), if_pos (by omega), band_one (by omega), shr_one, wrS i (by omega), node_next]
  by_cases c : ((256 + b) / 2 ^ i) % 2 = 0
  ·rw [if_pos (by omega), bind_eq (ofPair_eq hk hb _ _)]
   exact ⟨_, rfl, rfl, by simp only [ck, if_pos c], rfl⟩
  ·rw [if_neg (by omega), bind_eq (ofPair_eq hk hb _ _)]
   exact ⟨_, rfl, rfl, by simp only [ck, if_neg c], rfl⟩
 ·rintro ⟨n, x, j⟩ ⟨hn, hx, hj⟩
  simp only at hn hx hj; subst hn hx hj
  simp only [merkle_Check.b3]
  rw [if_neg (by omega)]
  exact ⟨_, rfl, rfl⟩
theorem strange_eq {k : Nat} (hk : Fuel k) {R : List api_Row} (hR : RL R) (b : Nat) : ∃ c, slices_ContainsFunc.f k R (b : Int) = some c ∧ (c = false ↔ ∀ r ∈ R, bkt r.Key = b) := by
 have h24 : 1099511627776 ≤ k := hk
 have hRl := hR.1
 unfold slices_ContainsFunc.f slices_IndexFunc.f
 have L := loop_inv (f := fun (s_ : Int) => slices_IndexFunc.b1 k R (b : Int) s_) (I := fun q s => s = (q : Int) ∧ ∀ r ∈ R.take q, bkt r.Key = b) (P := fun x => (x = .inl () ∧ ∀ r ∈ R, bkt r.Key = b) ∨ (∃ q : Nat, x = .inr (q : Int) ∧ ¬ ∀ r ∈ R, bkt r.Key = b)) (N := R.length) ?_ ?_ R.length 0 0 k ⟨rfl, fun r h => by cases h⟩ (by omega) (by omega)
 ·obtain ⟨x, e, ⟨rfl, h⟩ | ⟨q, rfl, h⟩⟩ := L
  ·rw [bind_eq e]
   exact ⟨_, rfl, by simpa using h⟩
  ·rw [bind_eq e]
   exact ⟨_, rfl, by simp only [decide_eq_false_iff_not]; exact ⟨fun h2 => absurd (by omega) h2, fun h2 => absurd h2 h⟩⟩
 ·rintro q _ hq ⟨rfl, hp⟩
  have hr := hR.2 _ (List.getElem_mem hq)
  have eb := bucket_eq hk (p := R[q].Key) (by have := hr.1; omega)
  simp only [slices_IndexFunc.b1, merkle_Check_1.f]
  rw [if_pos (by omega), if_pos (by omega), rd_eq hq, bind_eq eb, Option.bind_some]
  by_cases c : bkt R[q].Key = b
  ·rw [if_neg (by simpa using (by omega : (bkt R[q].Key : Int) = (b : Int))), wrS q (by omega)]
   refine .inl ⟨_, rfl, rfl, fun r h => ?_⟩
   rw [take_one hq] at h
   rcases List.mem_append.1 h with h | h
   ·exact hp r h
   ·rw [List.mem_singleton.1 h]; exact c
  ·rw [if_pos (by simpa using (by omega : ¬ (bkt R[q].Key : Int) = (b : Int)))]
   exact .inr ⟨_, rfl, .inr ⟨q, rfl, fun h => c (h _ (List.getElem_mem hq))⟩⟩
 ·rintro _ ⟨rfl, hp⟩
  simp only [slices_IndexFunc.b1]
  rw [if_neg (by omega)]
  rw [List.take_length] at hp
  exact ⟨_, rfl, .inl ⟨rfl, hp⟩⟩
def zeroR : api_Row := api_Row.mk [] [] 0
def told (key : List Int) (R : List api_Row) : api_Row × Bool := match md key R with | [] => (zeroR, false) | x :: _ => (x, true)
def goodP (b : Nat) (R : List api_Row) : Prop := Srt R ∧ ∀ r ∈ R, bkt r.Key = b
theorem Check_good {k : Nat} (hk : Fuel k) {bits root : Int} (hb : okb bits) {p : merkle_Proof} (hR : RL p.Rows) (hp : p.Path.length = 8) {key : List Int} (hkl : key.length ≤ 1000000000) (hkb : brange key) (hg : goodP (bkt key) p.Rows) :
  merkle_Check.f k root bits key p = if ck k bits p.Path (256 + bkt key) (hBk k bits p.Rows) 8 = root then some ((told key p.Rows).1, (told key p.Rows).2, 0) else some (zeroR, false, 101) := by
 obtain ⟨b1, e1, h1⟩ := rising_eq hk (R := p.Rows) (by have := hR.1; omega) hR.br
 obtain ⟨c, ec, hc⟩ := strange_eq hk hR (bkt key)
 have hl := bkt_lt key
 have t1 := h1.2 hg.1
 have t2 := hc.2 hg.2
 subst t1 t2
 have w0 : IntKind.i64.wrap (256 + (bkt key : Int)) = ((256 + bkt key : Nat) : Int) := by rw [wr (by omega) (by omega)]; omega
 have es : slices_BinarySearchFunc.f k p.Rows (api_Row.mk key [] 0) = some (((lo key p.Rows).length : Int), has key p.Rows) := search_eq hk (by have := hR.1; omega) hg.1 hR.br (t := api_Row.mk key [] 0) hkb
 unfold merkle_Check.f merkle_Check.j1
 rw [if_neg (by omega), decide_eq_false (by omega), if_neg (by simp), bind_eq (bucket_eq hk hkl), bind_eq e1, if_pos rfl, bind_eq ec]
 unfold merkle_Check.j2
 rw [if_neg (by simp), bind_eq (ofBucket_eq hk hb hR), w0, bind_eq (ck_loop hk hb hp hl _)]
 unfold merkle_Check.j4
 by_cases c : ck k bits p.Path (256 + bkt key) (hBk k bits p.Rows) 8 = root
 ·rw [if_pos c, if_pos c, bind_eq es]
  dsimp only
  rcases at_lo (key := key) hg.1 with ⟨h1, h2, h3⟩ | ⟨x, h1, hx, h2, q, h3⟩
  ·have hh : ¬ has key p.Rows = true := by unfold has; rw [h1]; simp
   have ht : told key p.Rows = (zeroR, false) := by unfold told; rw [h1]
   rw [if_neg hh, ht]; rfl
  ·have hh : has key p.Rows = true := by unfold has; rw [h1]; simp
   have ht : told key p.Rows = (x, true) := by unfold told; rw [h1]
   have hm : x ∈ p.Rows := by
    have : x ∈ md key p.Rows := by rw [h1]; exact List.mem_singleton.2 rfl
    exact (List.mem_filter.1 this).1
   rw [if_pos hh, ht, if_pos (by omega), rd_eq q, h3, bind_eq (own_RB (hR.2 x hm))]
 ·rw [if_neg c, if_neg c]; rfl
theorem Get_told {k : Nat} (hk : Fuel k) {bits : Int} {t : Mer} {R : List api_Row} (h : MI k bits t R) (hR : RL R) (hs : Srt R) {key : List Int} (hkl : key.length ≤ 1000000000) (hkb : brange key) :
  merkle_Tree_Get.f k (some t) key = some (told key R) := by
 rw [Get_eq hk h hR hs hkl hkb]
 unfold told
 cases md key R <;> rfl
theorem told_fb (key : List Int) (R : List api_Row) : told key (fbk (bkt key) R) = told key R := by unfold told; rw [md_fb]
theorem ck_own {k : Nat} {bits : Int} {t : Mer} {R : List api_Row} (h : MI k bits t R) {b : Nat} (hl : b < 256) {L : List Int} (hL : PathOk t.digests b L) : ∀ i, i ≤ 8 → ck k bits L (256 + b) (hBk k bits (fbk b R)) i = rd t.digests (((256 + b) / 2 ^ i : Nat) : Int)
 | 0, _ => by simp only [ck, Nat.pow_zero, Nat.div_one]; exact (h.leaf b hl).symm
 | i + 1, hi => by
  have ih := ck_own h hl hL i (by omega)
  obtain ⟨n1, n2⟩ := node_rng hl (show i < 8 by omega)
  have hn := h.node ((256 + b) / 2 ^ (i + 1)) (by rw [node_next]; omega) (by rw [node_next]; omega)
  unfold nodeOk at hn
  rw [hn, node_next]
  simp only [ck]
  rw [ih, hL.at_ i (by omega)]
  obtain ⟨n, hn'⟩ : ∃ n, n = (256 + b) / 2 ^ i := ⟨_, rfl⟩
  rw [← hn'] at n1 n2 ⊢
  unfold sib
  by_cases c : n % 2 = 0
  ·rw [if_pos c, if_pos c]
   congr 2
   ·omega
   ·congr 1; omega
  ·rw [if_neg c, if_neg c]
   congr 2
   ·congr 1; omega
   ·congr 1; omega
end Go.Proofs.Ytdnaoecfnjalgaa.G
namespace Go.Proofs.Ytdnaoecfnjalgaa.G
open Go
set_option maxRecDepth 100000 in
theorem awake_true : haulagelaw10_awake.f 1099511627776 = some true := by kernel_rfl
end Go.Proofs.Ytdnaoecfnjalgaa.G
namespace Go.Proofs.Ytdnaoecfnjalgaa.G
open Go
set_option linter.unusedVariables false
set_option linter.unusedSimpArgs false
theorem round_eq (w : Int) : ∃ n, haulagelaw10_round.f w 64 = some n ∧ 0 ≤ n ∧ n < 64 := by
 have h1 := Int.tmod_lt_of_pos w (show (0 : Int) < 64 by decide)
 have h2 : -64 < Int.tmod w 64 := Int.lt_tmod_of_pos w (by decide)
 unfold haulagelaw10_round.f
 rw [if_pos (by decide)]
 split
 ·exact ⟨_, rfl, by rw [wr (by omega) (by omega)]; omega, by rw [wr (by omega) (by omega)]; omega⟩
 ·exact ⟨_, rfl, by omega, h1⟩
theorem bits_eq (w : Int) : ∃ n, haulagelaw10_round.f w 64 = some n ∧ okb (IntKind.i64.wrap (1 + n)) := by
 obtain ⟨n, e, h0, h1⟩ := round_eq w
 exact ⟨n, e, by rw [wr (by omega) (by omega)]; omega, by rw [wr (by omega) (by omega)]; omega⟩
theorem zero_len : zeroR.Key.length < 4000000000 ∧ zeroR.Value.length < 4000000000 := by decide
theorem told_cases (key : List Int) {R : List api_Row} (hR : RL R) (hs : Srt R) : (told key R = (zeroR, false) ∧ has key R = false ∧ ∀ r ∈ R, r.Key ≠ key) ∨ ∃ x, told key R = (x, true) ∧ has key R = true ∧ x ∈ R ∧ x.Key = key ∧ ∀ r ∈ R, r.Key = key → r = x := by
 rcases (hs.split key).2 with q | ⟨x, q, hx⟩
 ·refine .inl ⟨by unfold told; rw [q], by unfold has; rw [q]; rfl, fun r hr e => ?_⟩
  have : r ∈ md key R := List.mem_filter.2 ⟨hr, by simpa using e⟩
  rw [q] at this; cases this
 ·have hm : x ∈ md key R := by rw [q]; exact List.mem_singleton.2 rfl
  refine .inr ⟨x, by unfold told; rw [q], by unfold has; rw [q]; rfl, (List.mem_filter.1 hm).1, hx, fun r hr e => ?_⟩
  have : r ∈ md key R := List.mem_filter.2 ⟨hr, by simpa using e⟩
  rw [q] at this
  exact List.mem_singleton.1 this
theorem told_len {key : List Int} {R : List api_Row} (hR : RL R) (hs : Srt R) : (told key R).1.Key.length < 4000000000 ∧ (told key R).1.Value.length < 4000000000 := by
 rcases told_cases key hR hs with ⟨h, _⟩ | ⟨x, h, _, hm, _⟩
 ·rw [h]; exact zero_len
 ·rw [h]
  have h1 := (hR.2 x hm).1
  have h2 := (hR.2 x hm).2.1
  exact ⟨by show x.Key.length < _; omega, by show x.Value.length < _; omega⟩
theorem found_eq {k : Nat} (hk : Fuel k) {R : List api_Row} (hR : RL R) (hs : Srt R) {key : List Int} {o : Option Mer} {e : Int} :
  loop (fun (s_ : Bool × Int) => haulagelaw10_MerkleProves.b3 k key (o, R) ((told key R).1, (told key R).2, e) s_.1 s_.2) k (false, 0) = some (has key R) := by
 have h24 : 1099511627776 ≤ k := hk
 have hRl := hR.1
 have L := loop_inv (f := fun (s_ : Bool × Int) => haulagelaw10_MerkleProves.b3 k key (o, R) ((told key R).1, (told key R).2, e) s_.1 s_.2) (I := fun q s => s.1 = has key (R.take q) ∧ s.2 = (q : Int)) (P := fun x => x = has key R) (N := R.length) ?_ ?_ R.length 0 (false, 0) k ⟨rfl, rfl⟩ (by omega) (by omega)
 ·obtain ⟨x, e, rfl⟩ := L
  exact e
 ·rintro q ⟨b, j⟩ hq ⟨hb, hj⟩
  left
  simp only at hb hj; subst hj
  have hr := hR.2 _ (List.getElem_mem hq)
  have es := same_eq hk R[q].Key key (.inl (by have := hr.1; omega))
  have e2 : md key (R.take (q + 1)) = md key (R.take q) ++ (if R[q].Key = key then [R[q]] else []) := by
   rw [take_one hq]
   unfold md
   rw [List.filter_append]
   congr 1
   by_cases c : R[q].Key = key
   ·rw [if_pos c, List.filter_cons_of_pos (by simpa using c)]; rfl
   ·rw [if_neg c, List.filter_cons_of_neg (by simpa using c)]; rfl
  simp only [haulagelaw10_MerkleProves.b3]
  rw [if_pos (by omega), if_pos (by omega), rd_eq hq, bind_eq es]
  by_cases c : R[q].Key = key
  ·rcases told_cases key hR hs with ⟨_, _, h⟩ | ⟨x, ht, _, _, _, h⟩
   ·exact absurd c (h _ (List.getElem_mem hq))
   ·have hx := h _ (List.getElem_mem hq) c
    have er := sameRow_eq hk R[q] (told key R).1 (by have := hr.1; omega) (by have := hr.2.1; omega)
    rw [if_pos (by simpa using c), if_pos (by omega), bind_eq er, wrS q (by omega)]
    refine ⟨_, rfl, ?_, rfl⟩
    simp only [has]
    rw [e2, if_pos c, ht, hx]
    simp
  ·rw [if_neg (by simpa using c), wrS q (by omega)]
   refine ⟨_, rfl, ?_, rfl⟩
   simp only [hb, has]
   rw [e2, if_neg c, List.append_nil]
 ·rintro ⟨b, j⟩ ⟨hb, hj⟩
  simp only at hb hj; subst hj
  simp only [haulagelaw10_MerkleProves.b3]
  rw [if_neg (by omega)]
  rw [List.take_length] at hb
  exact ⟨_, rfl, hb⟩
theorem good_fb {R : List api_Row} (hs : Srt R) (b : Nat) : goodP b (fbk b R) := ⟨hs.filter _, fun r hr => by simpa [fbk] using (List.mem_filter.1 hr).2⟩
theorem MerkleProves_true (C : List haulagelaw10_Change) (w : Int) (key : List Int) (hC : CL C) (hkl : key.length ≤ 2097152) (hkb : brange key) : haulagelaw10_MerkleProves.f 1099511627776 C w key = some true := by
 have hk : Fuel 1099511627776 := Nat.le_refl _
 obtain ⟨n, en, hb⟩ := bits_eq w
 obtain ⟨t, et, hM, hR, hs, hl⟩ := grown_eq hk hb hC
 obtain ⟨L, eL, hL⟩ := Prove_eq hk hM hR (key := key) (by omega)
 have hbk := bkt_lt key
 have e1 := ck_own hM hbk hL 8 (Nat.le_refl _)
 rw [node_top hbk] at e1
 have e1 : _ = rd t.digests 1 := e1
 have eC := Check_good hk (root := rd t.digests 1) hb (p := ⟨fbk (bkt key) (runR C), L⟩) (hR.fbk _) hL.len (key := key) (by omega) hkb (good_fb hs _)
 dsimp only at eC
 rw [if_pos e1] at eC
 simp only [told_fb] at eC
 have eG := Get_told hk hM hR hs (key := key) (by omega) hkb
 have hlen := told_len (key := key) hR hs
 have er := sameRow_eq hk (told key (runR C)).1 (told key (runR C)).1 hlen.1 hlen.2
 have hf := fb_len (bkt key) (runR C)
 unfold haulagelaw10_MerkleProves.f
 rw [bind_eq awake_true, if_pos rfl, bind_eq en, bind_eq et]
 dsimp only
 rw [if_neg (by simp), bind_eq eL, bind_eq Root_eq, bind_eq eC]
 unfold haulagelaw10_MerkleProves.j1
 dsimp only
 rw [bind_eq eG, if_pos rfl, if_pos (by simp), bind_eq er, if_pos (by simp)]
 unfold haulagelaw10_MerkleProves.j2
 rw [if_neg (by simp; omega), bind_eq (found_eq hk hR hs)]
 unfold haulagelaw10_MerkleProves.j4
 have ht : (told key (runR C)).2 = has key (runR C) := by
  rcases told_cases key hR hs with ⟨h, h2, _⟩ | ⟨x, h, h2, _⟩ <;> rw [h, h2]
 rw [ht]; simp
end Go.Proofs.Ytdnaoecfnjalgaa.G
namespace Go.Proofs.Ytdnaoecfnjalgaa.G
open Go Go.ChangeShapes Go.WideShapes
set_option linter.unusedVariables false
theorem key_br {xs : List Int} (h : ∀ n ∈ xs, (Lit.int .u8 n).wf = true) : brange xs := fun n hn => byteok.range (h n hn)
theorem row_RB {r : api_Row} {s : Nat} (hs : wt_api_Row r ≤ s) (hb : s ≤ 1048576) (h : ok_api_Row r) : RB r := by
 have h1 : r.Key.length + r.Value.length + 1 ≤ s := hs
 exact ⟨by omega, by omega, key_br h.1⟩
theorem arg_CL {C : List haulagelaw10_Change} (hs : (C.map wt_haulagelaw10_Change).sum ≤ 1048576) (h : ∀ o ∈ C, ok_haulagelaw10_Change o) : CL C := by
 have hl := len_sum wt_haulagelaw10_Change wt_haulagelaw10_Change_pos C
 refine ⟨by omega, fun c hc => ?_⟩
 have h1 := mem_sum wt_haulagelaw10_Change hc
 have h2 : wt_api_Row c.Row + 1 ≤ (C.map wt_haulagelaw10_Change).sum := h1
 exact row_RB (s := (C.map wt_haulagelaw10_Change).sum) (by omega) hs (h c hc)
end Go.Proofs.Ytdnaoecfnjalgaa.G
namespace Go.Proofs.Ytdnaoecfnjalgaa.merkleProves
open Go.ChangeShapes Go.WideShapes Go.ChangeAt Go.RowKit
set_option linter.unusedVariables false
set_option maxRecDepth 100000 in
theorem contract (H : Type) (enc : TypeId × Value → H) (W : World) (base : Nat) (args : Array Value) (ds gs : List (DataW H)) (before : List MemPlace)
  (hval : ∀ (j : Nat) t v, Try.f3.params[j]? = some t → args[j]? = some v → Value.okWide Try.prog W .any base t v)
  (hW : DataW.Whole enc Try.prog Try.f3.params.toList Rows.merkleProvesSpec.vars false W args.toList ds gs before) (hk : Rows.uptoSmall H (ds ++ gs) = true) :
  Calls Try.prog 3 args W fun e W' => ∃ v, e = .returned v ∧ Rows.merkleProvesSpec.post enc Try.prog Try.f3 false true false false W args v W' := by
 have hW' := hW
 obtain ⟨p, q, hA0, hV, rfl, hfz, hnd⟩ := hW
 have hA : DataW.TrodAll enc Try.prog W 0 (fun _ => true) true Try.f3.params.toList args.toList ds p := hA0
 rw [Try.params3] at hA hval
 obtain ⟨v0, vs0, d0, ds0, p0, q0, hargs, rfl, rfl, h0, r0⟩ := trodAll_cons hA
 obtain ⟨v1, vs1, d1, ds1, p1, q1, rfl, rfl, rfl, h1, r1⟩ := trodAll_cons r0
 obtain ⟨v2, vs2, d2, ds2, p2, q2, rfl, rfl, rfl, h2, r2⟩ := trodAll_cons r1
 obtain ⟨rfl, rfl, rfl⟩ := trodAll_nil r2
 obtain rfl : args = #[v0, v1, v2] := by cases args; simp_all
 obtain ⟨rfl, rfl⟩ := trodVars_none hV
 have k0 := h0
 have lt0 : ∀ x ∈ p0, x.block < W.heap.size := by obtain ⟨m, hm⟩ := k0; exact DataW.trod_lt m _ _ _ hm
 obtain ⟨A0, C0, a0, rfl, s0, b0, o0⟩ := G.arg_changes (okWide_slice Try.underlying22 (hval 0 22 v0 rfl rfl)) h0
 have l0 := G.len_sum G.wt_haulagelaw10_Change G.wt_haulagelaw10_Change_pos a0
 obtain ⟨a1, rfl, rfl, rfl, w1⟩ := open_int Try.underlying3 (hval 1 3 v1 rfl rfl) h1
 have k2 := h2
 have lt2 : ∀ x ∈ p2, x.block < W.heap.size := by obtain ⟨m, hm⟩ := k2; exact DataW.trod_lt m _ _ _ hm
 obtain ⟨A2, C2, a2, rfl, s2, b2, o2⟩ := G.arg_key (okWide_slice Try.underlying23 (hval 2 23 v2 rfl rfl)) h2
 have l2 := G.len_sum (fun _ => 1) (fun _ => Nat.le_refl 1) a2
 have hb : Rows.uptoBulkAll [d0, (DataW.lit (H := H) (.int .i64 a1)), d2] ≤ 1048576 := of_decide_eq_true hk
 simp only [Rows.uptoBulkAll] at hb
 refine (G.haulagelaw10_MerkleProves.calls 1099511627776 (m := 1) (c0 := G.c0) (w0 := W) (Nat.lt_succ_self 0) (fun _ _ => Nat.lt_succ_self 0) s0 s2 true (G.MerkleProves_true _ _ _ (G.arg_CL (by omega) o0) (by omega) (G.key_br o2))).mono fun e W' ⟨c_, he, ev_, _⟩ => ?_
 subst he
 have bel : Below W.heap.size W W' := G.Ev.below ev_
 exact ⟨_, rfl, _, _, _, [], _, [], hW', trodAll_mk1 (shut_bool Try.underlying4 _), (trodAll_cons_mk (Below.trod G.row_laidOut (by kernel_rfl) (of_decide_eq_true (by kernel_rfl)) k0 bel lt0) (trodAll_cons_mk (shut_int Try.underlying3 w1) (trodAll_cons_mk (Below.trod G.row_laidOut (by kernel_rfl) (of_decide_eq_true (by kernel_rfl)) k2 bel lt2) trodAll_mk0))), rfl, bel.frame _, fun h => by cases h⟩
set_option maxRecDepth 100000 in
theorem lifted (os : Os) (started : os.Started) (H : Type) (enc : TypeId × Value → H) (F : Stop.Interp) :
  ReturnsInHanded {} Try.checked os 3 .any ((Rows.OpenSpec.upto Rows.merkleProvesSpec).pre6 enc Try.prog Try.f3 Rows.merkleProvesUptoRow.domain false) (((Rows.OpenSpec.upto Rows.merkleProvesSpec).at F).post enc Try.prog Try.f3 false true false false) := by
 refine returnsInHanded_of_cond (C := Try.checked) (s := Rows.OpenSpec.upto Rows.merkleProvesSpec) (k := Rows.uptoSmall) rfl G.row_own started (by kernel_rfl) Try.func3
  (OpenSpec.witness (enc := enc) (C := Try.checked) (s := Rows.OpenSpec.upto Rows.merkleProvesSpec) (k := Rows.uptoSmall) rfl false ⟨#[], #[.slice none 0 0, .int .i64 0, .slice none 0 0], []⟩ 8 (by kernel_rfl) (by kernel_rfl) (by kernel_rfl)
   (x := ([.nil, .lit (.int .i64 0), .nil], [], [])) (by kernel_rfl) rfl (by kernel_rfl)) ?_
 intro W base args ds gs before hval hW _ hk _
 exact contract H enc W base args ds gs before hval hW hk
theorem over : Rows.merkleProvesUptoRow.holds Try.pinned (Rows.OpenSpec.upto Rows.merkleProvesSpec) :=
 OpenClaim.holds_of_cond 3 Try.f3 rfl rfl rfl rfl rfl rfl rfl ⟨rfl, rfl, rfl, rfl, rfl⟩ rfl rfl rfl rfl rfl (by kernel_rfl) Try.func3 (by kernel_rfl)
  (of_decide_eq_true (by kernel_rfl)) (by unfold Func.isWrapper; first | (rw [if_pos (by decide +kernel)]; kernel_rfl) | (rw [if_neg (by decide +kernel)]; exact ⟨rfl, rfl⟩))
  (fun os started H enc _ F => lifted os started H enc F)
theorem proved : Rows.MerkleProvesUptoSaid := over
end Go.Proofs.Ytdnaoecfnjalgaa.merkleProves
namespace Go.Proofs.Ytdnaoecfnjalgaa
theorem merkleProves_holds : Rows.MerkleProvesUptoSaid := merkleProves.proved
end Go.Proofs.Ytdnaoecfnjalgaa