/- Words and laws on which the row of 'TableOwn' hangs (its '..UptoSaid': bulk at most 1048576). -/
import Derived.Test.YtoaldfpngihhcaaHTableOwnB
import Derived.Laws.Panics
import Derived.Recover
import Derived.WideLaws
import Derived.Test.YtoaldfpngihhcaaHTableOwnC
namespace Go.Proofs.Ytoaldfpngihhcaa.G
open Go Go.RowKit
set_option linter.unusedVariables false
set_option linter.unusedSimpArgs false
set_option maxRecDepth 100000
set_option maxHeartbeats 40000000
theorem haulagelaw13_parted.calls (k : Nat) {m : Nat} {c0 : Nat → Nat} {w0 : World} {j5 : Nat} {j10 : Nat} {A2 : Option Addr} {C3 : Nat} {A7 : Option Addr} {C8 : Nat} {a1 : List (Option (List Value))} {a6 : List (Option (List Value))} (hm0 : 0 < m) (B0 : CB m c0 w0) (h4 : SL true (Krw 3 (by decide)) j5 0 c0 w0 A2 C3 a1) (h9 : SL true (Krw 3 (by decide)) j10 0 c0 w0 A7 C8 a6) (bj5 : 0 < j5 ∧ j5 < m) (bj10 : 0 < j10 ∧ j10 < m ∧ j10 ≠ j5) (r : Bool) (H : haulagelaw13_parted.f k a1 a6 = some r) : Calls Try.prog 21 #[.slice A2 a1.length C3, .slice A7 a6.length C8] w0 (fun e w_ => ∃ (c_ : Nat → Nat), e = .returned (.bool r) ∧ Ev (fun x => (x = j5 ∨ x = j10)) c0 w0 c_ w_ ∧ CB m c_ w_) := by
 unfold haulagelaw13_parted.f at H; have B := B0.mono (show m ≤ m + 1 by omega); have E : Ev (fun x => (x = j5 ∨ x = j10) ∨ m ≤ x) c0 w0 c0 w0 := Ev.refl; refine enter (N := 116) (l := [.slice A2 a1.length C3, .slice A7 a6.length C8]) Try.func21 rfl rfl (nb rfl) fun a F => ?_; refine sr fun K11 hK11 => qa F fun a F => nil (hK11 _ _ ?_); refine sq fun K12 hK12 => ?_; refine sr fun K13 hK13 => qa F fun a F => nil (hK13 _ _ ?_); refine wp_block ?_; obtain ⟨x58, HL, HR57⟩ := bind_some H; have J87 : ∀ (c88 : Nat → Nat) (w89 : World) (a : Act) (l84 : List (Option (List Value))) (A85 : Option Addr) (C86 : Nat), Fr a 116 [(0, .slice A85 l84.length C86), (1, .slice A7 a6.length C8)] → Ev (fun x => (x = j5 ∨ x = j10) ∨ m ≤ x) c0 w0 c88 w89 → CB (m + 1) c88 w89 → SL true (Krw 3 (by decide)) j10 0 c88 w89 A7 C8 a6 → SL true (Krw 3 (by decide)) j5 0 c88 w89 A85 C86 l84 → haulagelaw13_parted.j2 k a6 l84 = some r → K12 a w89 := by
  intro c88 w89 a l84 A85 C86 F E B h9 h83 H; unfold haulagelaw13_parted.j2 at H; refine hK12 _ _ ?_; refine sq fun K90 hK90 => ?_; refine sr fun K91 hK91 => qa F fun a F => nil (hK91 _ _ ?_); refine wp_block ?_; obtain ⟨x136, HL, HR135⟩ := bind_some H; have J165 : ∀ (c166 : Nat → Nat) (w167 : World) (a : Act) (l162 : List (Option (List Value))) (A163 : Option Addr) (C164 : Nat), Fr a 116 [(0, .slice A85 l84.length C86), (1, .slice A163 l162.length C164)] → Ev (fun x => (x = j5 ∨ x = j10) ∨ m ≤ x) c0 w0 c166 w167 → CB (m + 1) c166 w167 → SL true (Krw 3 (by decide)) j5 0 c166 w167 A85 C86 l84 → SL true (Krw 3 (by decide)) j10 0 c166 w167 A163 C164 l162 → haulagelaw13_parted.j4 k l84 l162 = some r → K90 a w167 := by
   intro c166 w167 a l162 A163 C164 F E B h83 h161 H; unfold haulagelaw13_parted.j4 at H; refine hK90 _ _ ?_
   as_aux_lemma =>
   refine sr fun K168 hK168 => qm F fun a F => qm F fun a F => qa F fun a F => ?_; replace h83 := TW.start h83; refine qa F fun a F => ?_; replace h161 := TW.start h161; refine nil (hK168 _ _ ?_); refine sq fun K169 hK169 => ?_; refine sr fun K170 hK170 => qa F fun a F => nil (hK170 _ _ ?_); refine wp_block ?_; obtain ⟨x185, HL, HR184⟩ := bind_some H; have J217 : ∀ (c218 : Nat → Nat) (w219 : World) (a : Act) (l214 : List (Option (List Value))) (A215 : Option Addr) (C216 : Nat), Fr a 116 [(0, .slice A85 l84.length C86), (1, .slice A163 l162.length C164), (7, .slice A215 l214.length C216), (8, .slice A163 l162.length C164)] → Ev (fun x => (x = j5 ∨ x = j10) ∨ m ≤ x) c0 w0 c218 w219 → CB (m + 1) c218 w219 → TW (Krw 3 (by decide)) j10 c218 w219 A163 C164 l162 A163 C164 l162 → TW (Krw 3 (by decide)) j5 c218 w219 A85 C86 l84 A215 C216 l214 → haulagelaw13_parted.j6 k l84 l162 l214 = some r → K169 a w219 := by
    intro c218 w219 a l214 A215 C216 F E B h161 h213 H; unfold haulagelaw13_parted.j6 at H; refine hK169 _ _ ?_; refine sq fun K220 hK220 => ?_; refine sq fun K221 hK221 => ?_; obtain ⟨c222, hc222⟩ : ∃ c', c' = fun k => if c218 k = j5 then 0 else c218 k := ⟨_, rfl⟩; have e223 : ∀ b, c218 b ≠ j5 → c222 b = c218 b := fun b hb => by rw [hc222]; exact if_neg hb
    replace h161 := TW.rc h161 (rk e223 bj10.2.2) (rk e223 (ne_z bj5.1)); obtain ⟨h224, h213⟩ := TW.fr (c' := c222) h213 (fun k_ hk_ => by rw [hc222]; exact if_pos hk_) (rk e223 (ne_z bj5.1)); replace E : Ev (fun x => (x = j5 ∨ x = j10) ∨ m ≤ x) c0 w0 c222 w219 := E.rkM e223 (by simp); have B : CB (m + 1) c222 w219 := by rw [hc222]; exact B.freeze (by omega)
    refine reg ?_
    as_aux_lemma =>
    refine qa F fun a F => nil (hK221 _ _ ?_); refine wp_block ?_; obtain ⟨x239, HL, HR238⟩ := bind_some H; have J271 : ∀ (c272 : Nat → Nat) (w273 : World) (a : Act) (l268 : List (Option (List Value))) (A269 : Option Addr) (C270 : Nat), Fr a 116 [(0, .slice A85 l84.length C86), (1, .slice A163 l162.length C164), (7, .slice A215 l214.length C216), (8, .slice A269 l268.length C270)] → Ev (fun x => (x = j5 ∨ x = j10) ∨ m ≤ x) c0 w0 c272 w273 → CB (m + 1) c272 w273 → SL false (Krw 3 (by decide)) 0 0 c272 w273 A85 C86 l84 → SL false (Krw 3 (by decide)) 0 0 c272 w273 A215 C216 l214 → TW (Krw 3 (by decide)) j10 c272 w273 A163 C164 l162 A269 C270 l268 → haulagelaw13_parted.j8 k l84 l162 l214 l268 = some r → K220 a w273 := by
     intro c272 w273 a l268 A269 C270 F E B h224 h213 h267 H; unfold haulagelaw13_parted.j8 at H; refine hK220 _ _ ?_; refine sq fun K274 hK274 => ?_; refine sq fun K275 hK275 => ?_; obtain ⟨c276, hc276⟩ : ∃ c', c' = fun k => if c272 k = j10 then 0 else c272 k := ⟨_, rfl⟩; have e277 : ∀ b, c272 b ≠ j10 → c276 b = c272 b := fun b hb => by rw [hc276]; exact if_neg hb
     replace h224 := SL.rc h224 (rk e277 (ne_z bj10.1)) (rk e277 (ne_z bj10.1)); replace h213 := SL.rc h213 (rk e277 (ne_z bj10.1)) (rk e277 (ne_z bj10.1)); obtain ⟨h278, h267⟩ := TW.fr (c' := c276) h267 (fun k_ hk_ => by rw [hc276]; exact if_pos hk_) (rk e277 (ne_z bj10.1)); replace E : Ev (fun x => (x = j5 ∨ x = j10) ∨ m ≤ x) c0 w0 c276 w273 := E.rkM e277 (by simp); have B : CB (m + 1) c276 w273 := by rw [hc276]; exact B.freeze (by omega)
     refine reg ?_; refine qa F fun a F => nil (hK275 _ _ ?_); refine wp_block ?_; obtain ⟨x289, HL, HR288⟩ := bind_some H; have J313 : ∀ (c314 : Nat → Nat) (w315 : World) (a : Act), Fr a 116 [(0, .slice A85 l84.length C86), (1, .slice A163 l162.length C164), (7, .slice A215 l214.length C216), (8, .slice A269 l268.length C270)] → Ev (fun x => (x = j5 ∨ x = j10) ∨ m ≤ x) c0 w0 c314 w315 → CB (m + 1) c314 w315 → SL false (Krw 3 (by decide)) 0 0 c314 w315 A85 C86 l84 → SL false (Krw 3 (by decide)) 0 0 c314 w315 A163 C164 l162 → SL false (Krw 3 (by decide)) 0 0 c314 w315 A215 C216 l214 → SL false (Krw 3 (by decide)) 0 0 c314 w315 A269 C270 l268 → haulagelaw13_parted.j10 k l84 l162 l214 l268 = some r → K274 a w315 := by
      intro c314 w315 a  F E B h224 h278 h213 h267 H; unfold haulagelaw13_parted.j10 at H
      as_aux_lemma =>
      refine hK274 _ _ ?_; refine sq fun K316 hK316 => ?_; refine sr fun K317 hK317 => qa F fun a F => nil (hK317 _ _ ?_); refine wp_block ?_; obtain ⟨x328, HL, HR327⟩ := bind_some H; have J352 : ∀ (c353 : Nat → Nat) (w354 : World) (a : Act), Fr a 116 [(0, .slice A85 l84.length C86), (1, .slice A163 l162.length C164), (7, .slice A215 l214.length C216), (8, .slice A269 l268.length C270)] → Ev (fun x => (x = j5 ∨ x = j10) ∨ m ≤ x) c0 w0 c353 w354 → CB (m + 1) c353 w354 → SL false (Krw 3 (by decide)) 0 0 c353 w354 A85 C86 l84 → SL false (Krw 3 (by decide)) 0 0 c353 w354 A163 C164 l162 → SL false (Krw 3 (by decide)) 0 0 c353 w354 A215 C216 l214 → SL false (Krw 3 (by decide)) 0 0 c353 w354 A269 C270 l268 → haulagelaw13_parted.j12 k l84 l162 l214 l268 = some r → K316 a w354 := by
       intro c353 w354 a  F E B h224 h278 h213 h267 H; unfold haulagelaw13_parted.j12 at H; refine hK316 _ _ ?_; refine sq fun K355 hK355 => ?_; refine sr fun K356 hK356 => qa F fun a F => nil (hK356 _ _ ?_); refine wp_block ?_; obtain ⟨x367, HL, HR366⟩ := bind_some H; have J411 : ∀ (c412 : Nat → Nat) (w413 : World) (a : Act), Fr a 116 [] → Ev (fun x => (x = j5 ∨ x = j10) ∨ m ≤ x) c0 w0 c412 w413 → CB (m + 1) c412 w413 → haulagelaw13_parted.j15 = some r → K355 a w413 := by
        intro c412 w413 a  F E B  H; unfold haulagelaw13_parted.j15 at H; refine hK355 _ _ ?_; refine sr fun K414 hK414 => qa F fun a F => nil (hK414 _ _ ?_); refine wp_ret ?_; obtain rfl := si H; refine out1 F rfl rfl ?_; exact ⟨cf (ct m) c412, rfl, E.lv B0, cfb⟩
       refine loop_fuel (I := fun n a w => ∃ (i357 : Int) (c : Nat → Nat), Fr a 116 [(0, .slice A85 l84.length C86), (1, .slice A163 l162.length C164), (7, .slice A215 l214.length C216), (8, .slice A269 l268.length C270), (13, .int .i64 i357)] ∧ Ev (fun x => (x = j5 ∨ x = j10) ∨ m ≤ x) c0 w0 c w ∧ CB (m + 1) c w ∧ SL false (Krw 3 (by decide)) 0 0 c w A85 C86 l84 ∧ SL false (Krw 3 (by decide)) 0 0 c w A163 C164 l162 ∧ SL false (Krw 3 (by decide)) 0 0 c w A215 C216 l214 ∧ SL false (Krw 3 (by decide)) 0 0 c w A269 C270 l268 ∧ loop (fun (s_ : Int) => haulagelaw13_parted.b14 l84 l162 l214 l268 s_) n i357 = some x367) (k := k) ⟨0, c353, F.sub ⟨rfl, rfl, rfl, rfl, rfl, trivial⟩, E, B, h224, h278, h213, h267, HL⟩ ?_; clear HL H E F B; intro n364 X360 hX360 a w359 ⟨i357, c358, F, E, B, h224, h278, h213, h267, HL⟩; obtain ⟨n365, ctl363, rfl, HB, HN361, HD362⟩ := loop_some HL; have H : haulagelaw13_parted.b14 l84 l162 l214 l268 i357 = some ctl363 := HB; clear HB HL; unfold haulagelaw13_parted.b14 at H
       as_aux_lemma =>
       refine sq fun K368 hK368 => ?_; refine sr fun K369 hK369 => qm F fun a F => ?_; refine qv F (r_lss F rfl rfl) fun a F => ?_; refine nil (hK369 _ _ ?_)
       by_cases hb370 : i357 < 20
       ·replace H := ip hb370 H; refine wct (fb F (dt hb370)) (wp_skip (hK368 _ _ ?_)); refine sq fun K371 hK371 => ?_; refine wp_block ?_; refine sq fun K372 hK372 => ?_; have J405 : ∀ (c406 : Nat → Nat) (w407 : World) (a : Act) (b404 : Bool), Fr a 116 [(0, .slice A85 l84.length C86), (1, .slice A163 l162.length C164), (7, .slice A215 l214.length C216), (8, .slice A269 l268.length C270), (13, .int .i64 i357), (115, .bool b404)] → Ev (fun x => (x = j5 ∨ x = j10) ∨ m ≤ x) c0 w0 c406 w407 → CB (m + 1) c406 w407 → SL false (Krw 3 (by decide)) 0 0 c406 w407 A85 C86 l84 → SL false (Krw 3 (by decide)) 0 0 c406 w407 A163 C164 l162 → SL false (Krw 3 (by decide)) 0 0 c406 w407 A215 C216 l214 → SL false (Krw 3 (by decide)) 0 0 c406 w407 A269 C270 l268 → haulagelaw13_parted.j13 i357 b404 = some ctl363 → K372 a w407 := by
         intro c406 w407 a b404 F E B h224 h278 h213 h267 H; unfold haulagelaw13_parted.j13 at H; refine hK372 _ _ ?_
         by_cases hb408 : b404 = true
         ·replace H := ip hb408 H; refine wct (fb F hb408) ?_; refine sr fun K409 hK409 => qa F fun a F => nil (hK409 _ _ ?_); refine wp_ret ?_; refine inbR ?_; refine thenR ?_; refine thenR ?_; refine inbR ?_; refine thenR ?_; have hx_ := HD362 _ (si H).symm; have H := HR366; rw [← hx_] at H
          as_aux_lemma =>
          replace H : some false = some r := H; obtain rfl := si H; refine out1 F rfl rfl ?_; exact ⟨cf (ct m) c406, rfl, E.lv B0, cfb⟩
         replace H := im hb408 H; refine wcf (fb F (bfalse hb408)) (wp_skip (hK371 _ _ ?_)); refine reg ?_; refine qm F fun a F => ?_; refine qv F (r_add F rfl rfl) fun a F => ?_; refine qa F fun a F => nil ?_; replace H := HN361 _ (si H).symm; exact hX360 _ _ _ (Nat.lt_succ_self _) ⟨(IntKind.i64.wrap (i357 + 1)), c406, F.sub ⟨rfl, rfl, rfl, rfl, rfl, trivial⟩, E, B, h224, h278, h213, h267, H⟩
        refine reg ?_; refine qm F fun a F => qm F fun a F => ?_; refine qv F (r_lensl F Try.underlying39 rfl) fun a F => ?_; refine qm F fun a F => ?_; refine qv F (r_add F rfl rfl) fun a F => ?_; replace H := ifN H; obtain ⟨g373, H⟩ := H; obtain ⟨ad374, cs375, e376, h377, r378⟩ := SL.at h213 (IntKind.i64.wrap ((l84.length : Int) + i357)) g373.1 g373.2; obtain ⟨u379, u380, u381, rfl⟩ := cells_n3 r378.1; obtain ⟨qa382, qqa382⟩ : ∃ q, q = (ad374.add ((IntKind.i64.wrap ((l84.length : Int) + i357)).toNat * 3)) := ⟨_, rfl⟩; have h377 : AT false 0 c358 w359 qa382 [u379, u380, u381] := by rw [qqa382]; exact h377
        as_aux_lemma =>
        refine qv F (r_indexAddr' F Try.underlying39 sz_51 rfl rfl g373.1 g373.2 e376 qqa382) fun a F => ?_; refine qf F ff_51_2 fun a F => ?_; obtain ⟨i384, x385, hx386, hq387, H⟩ := rawI_some H; obtain rfl := r378.2.2 _ hx386; obtain rfl : u381 = .int .i64 i384 := Option.some.inj hq387; refine ql F ag_3 h377 fun a F => ?_; refine qm F fun a F => ?_; refine qv F (r_sub F rfl rfl) fun a F => ?_; refine qv F (r_neq F rfl rfl) fun a F => ?_; refine qm F fun a F => ?_
        by_cases hb388 : i384 = (IntKind.i64.wrap ((-1) - i357))
        ·replace H := ip hb388 H; refine qy F (congrArg not (dt hb388)) ?_; refine qm F fun a F => ?_; refine qy F (congrArg not (dt hb388)) ?_; refine qm F fun a F => ?_; refine qy F (congrArg not (dt hb388)) ?_; refine qv F (r_lensl F Try.underlying39 rfl) fun a F => ?_; refine qy F (congrArg not (dt hb388)) ?_; refine qm F fun a F => ?_; refine qy F (congrArg not (dt hb388)) ?_; refine qv F (r_add F rfl rfl) fun a F => ?_; replace H := ifN H; obtain ⟨g389, H⟩ := H; obtain ⟨ad390, cs391, e392, h393, r394⟩ := SL.at h267 (IntKind.i64.wrap ((l162.length : Int) + i357)) g389.1 g389.2; obtain ⟨u395, u396, u397, rfl⟩ := cells_n3 r394.1; obtain ⟨qa398, qqa398⟩ : ∃ q, q = (ad390.add ((IntKind.i64.wrap ((l162.length : Int) + i357)).toNat * 3)) := ⟨_, rfl⟩; have h393 : AT false 0 c358 w359 qa398 [u395, u396, u397] := by rw [qqa398]; exact h393
         as_aux_lemma =>
         refine qy F (congrArg not (dt hb388)) ?_; refine qv F (r_indexAddr' F Try.underlying39 sz_51 rfl rfl g389.1 g389.2 e392 qqa398) fun a F => ?_; refine qy F (congrArg not (dt hb388)) ?_; refine qf F ff_51_2 fun a F => ?_; obtain ⟨i400, x401, hx402, hq403, H⟩ := rawI_some H; obtain rfl := r394.2.2 _ hx402; obtain rfl : u397 = .int .i64 i400 := Option.some.inj hq403; refine qy F (congrArg not (dt hb388)) ?_; refine ql F ag_3 h393 fun a F => ?_; refine qy F (congrArg not (dt hb388)) ?_; refine qm F fun a F => ?_; refine qy F (congrArg not (dt hb388)) ?_; refine qv F (r_sub F rfl rfl) fun a F => ?_; refine qy F (congrArg not (dt hb388)) ?_; refine qv F (r_neq F rfl rfl) fun a F => ?_; refine qv F (r_pick_f F rfl (congrArg not (dt hb388)) rfl) fun a F => ?_; refine nil ?_; exact J405 c358 w359 a (!decide (i400 = (IntKind.i64.wrap ((-100) - i357)))) (F.sub ⟨rfl, rfl, rfl, rfl, rfl, rfl, trivial⟩) E B h224 h278 h213 h267 H
        replace H := im hb388 H; refine qn F (congrArg not (dz hb388)) fun a F => qn F (congrArg not (dz hb388)) fun a F => qn F (congrArg not (dz hb388)) fun a F => qn F (congrArg not (dz hb388)) fun a F => qn F (congrArg not (dz hb388)) fun a F => qn F (congrArg not (dz hb388)) fun a F => qn F (congrArg not (dz hb388)) fun a F => qn F (congrArg not (dz hb388)) fun a F => ?_; refine qn F (congrArg not (dz hb388)) fun a F => qn F (congrArg not (dz hb388)) fun a F => qn F (congrArg not (dz hb388)) fun a F => ?_; refine qv F (r_pick_t F rfl (congrArg not (dz hb388)) rfl) fun a F => ?_
        as_aux_lemma =>
        refine nil ?_; exact J405 c358 w359 a true (F.sub ⟨rfl, rfl, rfl, rfl, rfl, rfl, trivial⟩) E B h224 h278 h213 h267 H
       replace H := im hb370 H; refine wcf (fb F (dz hb370)) ?_; refine wp_exit ?_; refine thenE ?_; refine thenE ?_; refine inbE ?_; have hx_ := HD362 _ (si H).symm; have H := HR366; rw [← hx_] at H; exact J411 c358 w359 a  (F.sub trivial) E B  H
      refine loop_fuel (I := fun n a w => ∃ (i318 : Int) (c : Nat → Nat), Fr a 116 [(0, .slice A85 l84.length C86), (1, .slice A163 l162.length C164), (7, .slice A215 l214.length C216), (8, .slice A269 l268.length C270), (12, .int .i64 i318)] ∧ Ev (fun x => (x = j5 ∨ x = j10) ∨ m ≤ x) c0 w0 c w ∧ CB (m + 1) c w ∧ SL false (Krw 3 (by decide)) 0 0 c w A85 C86 l84 ∧ SL false (Krw 3 (by decide)) 0 0 c w A163 C164 l162 ∧ SL false (Krw 3 (by decide)) 0 0 c w A215 C216 l214 ∧ SL false (Krw 3 (by decide)) 0 0 c w A269 C270 l268 ∧ loop (fun (s_ : Int) => haulagelaw13_parted.b11 l162 s_) n i318 = some x328) (k := k) ⟨0, c314, F.sub ⟨rfl, rfl, rfl, rfl, rfl, trivial⟩, E, B, h224, h278, h213, h267, HL⟩ ?_; clear HL H E F B; intro n325 X321 hX321 a w320 ⟨i318, c319, F, E, B, h224, h278, h213, h267, HL⟩; obtain ⟨n326, ctl324, rfl, HB, HN322, HD323⟩ := loop_some HL; have H : haulagelaw13_parted.b11 l162 i318 = some ctl324 := HB; clear HB HL; unfold haulagelaw13_parted.b11 at H; refine sq fun K329 hK329 => ?_; refine sr fun K330 hK330 => qm F fun a F => qm F fun a F => ?_; refine qv F (r_lensl F Try.underlying39 rfl) fun a F => ?_
      as_aux_lemma =>
      refine qv F (r_lss F rfl rfl) fun a F => ?_; refine nil (hK330 _ _ ?_)
      by_cases hb331 : i318 < (l162.length : Int)
      ·replace H := ip hb331 H; refine wct (fb F (dt hb331)) (wp_skip (hK329 _ _ ?_)); refine sq fun K332 hK332 => ?_; refine wp_block ?_; refine sr fun K333 hK333 => qm F fun a F => qm F fun a F => ?_; replace H := ifN H; obtain ⟨g334, H⟩ := H; obtain ⟨ad335, cs336, e337, h338, r339⟩ := SL.at h278 i318 g334.1 g334.2; obtain ⟨u340, u341, u342, rfl⟩ := cells_n3 r339.1; obtain ⟨qa343, qqa343⟩ : ∃ q, q = (ad335.add (i318.toNat * 3)) := ⟨_, rfl⟩; have h338 : AT false 0 c319 w320 qa343 [u340, u341, u342] := by rw [qqa343]; exact h338
       refine qv F (r_indexAddr' F Try.underlying39 sz_51 rfl rfl g334.1 g334.2 e337 qqa343) fun a F => ?_; refine qf F ff_51_2 fun a F => ?_; obtain ⟨i345, x346, hx347, hq348, H⟩ := rawI_some H; obtain rfl := r339.2.2 _ hx347; obtain rfl : u342 = .int .i64 i345 := Option.some.inj hq348; refine ql F ag_3 h338 fun a F => ?_; refine qm F fun a F => ?_; refine qv F (r_add F rfl rfl) fun a F => ?_; refine qv F (r_neq F rfl rfl) fun a F => ?_
       as_aux_lemma =>
       refine nil (hK333 _ _ ?_); replace F : Fr a 116 [(0, .slice A85 l84.length C86), (1, .slice A163 l162.length C164), (7, .slice A215 l214.length C216), (8, .slice A269 l268.length C270), (12, .int .i64 i318), (87, .bool (!decide (i345 = (IntKind.i64.wrap (20000 + i318)))))] := F.sub ⟨rfl, rfl, rfl, rfl, rfl, rfl, trivial⟩
       by_cases hb349 : i345 = (IntKind.i64.wrap (20000 + i318))
       ·replace H := ip hb349 H; refine wcf (fb F (congrArg not (dt hb349))) (wp_skip (hK332 _ _ ?_)); refine reg ?_; refine qm F fun a F => ?_; refine qv F (r_add F rfl rfl) fun a F => ?_; refine qa F fun a F => nil ?_; replace H := HN322 _ (si H).symm; exact hX321 _ _ _ (Nat.lt_succ_self _) ⟨(IntKind.i64.wrap (i318 + 1)), c319, F.sub ⟨rfl, rfl, rfl, rfl, rfl, trivial⟩, E, B, h224, h278, h213, h267, H⟩
       replace H := im hb349 H; refine wct (fb F (congrArg not (dz hb349))) ?_; refine sr fun K350 hK350 => qa F fun a F => nil (hK350 _ _ ?_); refine wp_ret ?_; refine inbR ?_; refine thenR ?_; refine thenR ?_; refine inbR ?_; refine thenR ?_; have hx_ := HD323 _ (si H).symm; have H := HR327; rw [← hx_] at H
       as_aux_lemma =>
       replace H : some false = some r := H; obtain rfl := si H; refine out1 F rfl rfl ?_; exact ⟨cf (ct m) c319, rfl, E.lv B0, cfb⟩
      replace H := im hb331 H; refine wcf (fb F (dz hb331)) ?_; refine wp_exit ?_; refine thenE ?_; refine thenE ?_; refine inbE ?_; have hx_ := HD323 _ (si H).symm; have H := HR327; rw [← hx_] at H; exact J352 c319 w320 a  (F.sub ⟨rfl, rfl, rfl, rfl, trivial⟩) E B h224 h278 h213 h267 H
     refine loop_fuel (I := fun n a w => ∃ (i279 : Int) (c : Nat → Nat), Fr a 116 [(0, .slice A85 l84.length C86), (1, .slice A163 l162.length C164), (7, .slice A215 l214.length C216), (8, .slice A269 l268.length C270), (11, .int .i64 i279)] ∧ Ev (fun x => (x = j5 ∨ x = j10) ∨ m ≤ x) c0 w0 c w ∧ CB (m + 1) c w ∧ SL false (Krw 3 (by decide)) 0 0 c w A85 C86 l84 ∧ SL false (Krw 3 (by decide)) 0 0 c w A163 C164 l162 ∧ SL false (Krw 3 (by decide)) 0 0 c w A215 C216 l214 ∧ SL false (Krw 3 (by decide)) 0 0 c w A269 C270 l268 ∧ loop (fun (s_ : Int) => haulagelaw13_parted.b9 l84 s_) n i279 = some x289) (k := k) ⟨0, c276, F.sub ⟨rfl, rfl, rfl, rfl, rfl, trivial⟩, E, B, h224, h278, h213, h267, HL⟩ ?_; clear HL H E F B; intro n286 X282 hX282 a w281 ⟨i279, c280, F, E, B, h224, h278, h213, h267, HL⟩; obtain ⟨n287, ctl285, rfl, HB, HN283, HD284⟩ := loop_some HL; have H : haulagelaw13_parted.b9 l84 i279 = some ctl285 := HB; clear HB HL; unfold haulagelaw13_parted.b9 at H; refine sq fun K290 hK290 => ?_
     as_aux_lemma =>
     refine sr fun K291 hK291 => qm F fun a F => qm F fun a F => ?_; refine qv F (r_lensl F Try.underlying39 rfl) fun a F => ?_; refine qv F (r_lss F rfl rfl) fun a F => ?_; refine nil (hK291 _ _ ?_)
     by_cases hb292 : i279 < (l84.length : Int)
     ·replace H := ip hb292 H; refine wct (fb F (dt hb292)) (wp_skip (hK290 _ _ ?_)); refine sq fun K293 hK293 => ?_; refine wp_block ?_; refine sr fun K294 hK294 => qm F fun a F => qm F fun a F => ?_; replace H := ifN H; obtain ⟨g295, H⟩ := H; obtain ⟨ad296, cs297, e298, h299, r300⟩ := SL.at h224 i279 g295.1 g295.2; obtain ⟨u301, u302, u303, rfl⟩ := cells_n3 r300.1; obtain ⟨qa304, qqa304⟩ : ∃ q, q = (ad296.add (i279.toNat * 3)) := ⟨_, rfl⟩; have h299 : AT false 0 c280 w281 qa304 [u301, u302, u303] := by rw [qqa304]; exact h299
      refine qv F (r_indexAddr' F Try.underlying39 sz_51 rfl rfl g295.1 g295.2 e298 qqa304) fun a F => ?_; refine qf F ff_51_2 fun a F => ?_; obtain ⟨i306, x307, hx308, hq309, H⟩ := rawI_some H; obtain rfl := r300.2.2 _ hx308; obtain rfl : u303 = .int .i64 i306 := Option.some.inj hq309; refine ql F ag_3 h299 fun a F => ?_; refine qm F fun a F => ?_
      as_aux_lemma =>
      refine qv F (r_add F rfl rfl) fun a F => ?_; refine qv F (r_neq F rfl rfl) fun a F => ?_; refine nil (hK294 _ _ ?_); replace F : Fr a 116 [(0, .slice A85 l84.length C86), (1, .slice A163 l162.length C164), (7, .slice A215 l214.length C216), (8, .slice A269 l268.length C270), (11, .int .i64 i279), (73, .bool (!decide (i306 = (IntKind.i64.wrap (100 + i279)))))] := F.sub ⟨rfl, rfl, rfl, rfl, rfl, rfl, trivial⟩
      by_cases hb310 : i306 = (IntKind.i64.wrap (100 + i279))
      ·replace H := ip hb310 H; refine wcf (fb F (congrArg not (dt hb310))) (wp_skip (hK293 _ _ ?_)); refine reg ?_; refine qm F fun a F => ?_; refine qv F (r_add F rfl rfl) fun a F => ?_; refine qa F fun a F => nil ?_; replace H := HN283 _ (si H).symm; exact hX282 _ _ _ (Nat.lt_succ_self _) ⟨(IntKind.i64.wrap (i279 + 1)), c280, F.sub ⟨rfl, rfl, rfl, rfl, rfl, trivial⟩, E, B, h224, h278, h213, h267, H⟩
      replace H := im hb310 H; refine wct (fb F (congrArg not (dz hb310))) ?_; refine sr fun K311 hK311 => qa F fun a F => nil (hK311 _ _ ?_); refine wp_ret ?_; refine inbR ?_; refine thenR ?_; refine thenR ?_; refine inbR ?_; refine thenR ?_; have hx_ := HD284 _ (si H).symm; have H := HR288; rw [← hx_] at H
      as_aux_lemma =>
      replace H : some false = some r := H; obtain rfl := si H; refine out1 F rfl rfl ?_; exact ⟨cf (ct m) c280, rfl, E.lv B0, cfb⟩
     replace H := im hb292 H; refine wcf (fb F (dz hb292)) ?_; refine wp_exit ?_; refine thenE ?_; refine thenE ?_; refine inbE ?_; have hx_ := HD284 _ (si H).symm; have H := HR288; rw [← hx_] at H; exact J313 c280 w281 a  (F.sub ⟨rfl, rfl, rfl, rfl, trivial⟩) E B h224 h278 h213 h267 H
    refine loop_fuel (I := fun n a w => ∃ (l225 : List (Option (List Value))) (A226 : Option Addr) (C227 : Nat) (i229 : Int) (c : Nat → Nat), Fr a 116 [(0, .slice A85 l84.length C86), (1, .slice A163 l162.length C164), (7, .slice A215 l214.length C216), (8, .slice A226 l225.length C227), (10, .int .i64 i229)] ∧ Ev (fun x => (x = j5 ∨ x = j10) ∨ m ≤ x) c0 w0 c w ∧ CB (m + 1) c w ∧ SL false (Krw 3 (by decide)) 0 0 c w A85 C86 l84 ∧ SL false (Krw 3 (by decide)) 0 0 c w A215 C216 l214 ∧ TW (Krw 3 (by decide)) j10 c w A163 C164 l162 A226 C227 l225 ∧ loop (fun (s_ : (List (Option (List Value))) × Int) => haulagelaw13_parted.b7 s_.1 s_.2) n (l225, i229) = some x239) (k := k) ⟨l162, A163, C164, 0, c222, F.sub ⟨rfl, rfl, rfl, rfl, rfl, trivial⟩, E, B, h224, h213, h161, HL⟩ ?_; clear HL H E F B; intro n236 X232 hX232 a w231 ⟨l225, A226, C227, i229, c230, F, E, B, h224, h213, h228, HL⟩; obtain ⟨n237, ctl235, rfl, HB, HN233, HD234⟩ := loop_some HL; have H : haulagelaw13_parted.b7 l225 i229 = some ctl235 := HB; clear HB HL; unfold haulagelaw13_parted.b7 at H; refine sq fun K240 hK240 => ?_
    as_aux_lemma =>
    refine sr fun K241 hK241 => qm F fun a F => ?_; refine qv F (r_lss F rfl rfl) fun a F => ?_; refine nil (hK241 _ _ ?_)
    by_cases hb242 : i229 < 20
    ·replace H := ip hb242 H; refine wct (fb F (dt hb242)) (wp_skip (hK240 _ _ ?_)); refine sq fun K243 hK243 => ?_; refine wp_block ?_; refine reg ?_; refine qm F fun a F => qm F fun a F => ?_; refine qv F (r_sub F rfl rfl) fun a F => ?_; refine qv F (r_build (v := .agg #[.slice none 0 0, .slice none 0 0, .int .i64 (IntKind.i64.wrap ((-100) - i229))]) F [(2, .int .i64 (IntKind.i64.wrap ((-100) - i229)))] (by exact ⟨rfl, rfl, trivial⟩) (fun w => by kernel_rfl)) fun a F => ?_; refine q_eff F rfl rfl (by decide) (e_buildSlice (n := 1) (e := 51) (c := c230) (k := (Krw 3 (by decide))) (i := 0) F [(0, .agg #[.slice none 0 0, .slice none 0 0, .int .i64 (IntKind.i64.wrap ((-100) - i229))])] [.slice none 0 0, .slice none 0 0, .int .i64 (IntKind.i64.wrap ((-100) - i229))] ([some ([.slice none 0 0, .slice none 0 0, .int .i64 (IntKind.i64.wrap ((-100) - i229))] : List Value)] : List (Option (List Value))) (by exact ⟨rfl, rfl, trivial⟩) (fun w => by kernel_rfl) rfl (by decide) rfl ⟨(Krw.mk rfl rfl), trivial⟩ (fun q => q) 0) ?_; rintro v w245 a ⟨c244, A246, C247, rfl, E248, h249, B250⟩ F; replace B := B250 _ B (pl hm0); replace h224 := h224.ev E248; replace h213 := h213.ev E248; replace h228 := h228.ev E248; replace E := E.n E248; replace H := ifN H; obtain ⟨g251, H⟩ := H; refine q_eff F rfl rfl (by decide) (e_appendT (e := (Krw 3 (by decide))) (ys := l225) (vs := [some ([.slice none 0 0, .slice none 0 0, .int .i64 (IntKind.i64.wrap ((-100) - i229))] : List Value)]) (c := c244) F et_39 rfl rfl h228 h249 g251 (len_ok g251) bj10.1) ?_; rintro v w256 a ⟨c252, A257, C258, rfl, E259, B261, c253, e254, e255, h260⟩ F
     as_aux_lemma =>
     replace B := B261 _ B (Nat.lt_add_right _ bj10.2.1); replace h224 := h224.ev E259 (ne_z bj10.1) (ne_z bj10.1); replace h213 := h213.ev E259 (ne_z bj10.1) (ne_z bj10.1); replace E := E.trans E259 (fun x (q : x = j10) => Or.inl (Or.inr (q))); replace h224 := SL.rc h224 (rk e254 (ne_z bj10.1)) (rk e254 (ne_z bj10.1)); replace h213 := SL.rc h213 (rk e254 (ne_z bj10.1)) (rk e254 (ne_z bj10.1)); replace E : Ev (fun x => (x = j5 ∨ x = j10) ∨ m ≤ x) c0 w0 c253 w256 := E.rkM e254 (by simp); replace B := B.rk e255 (pl hm0); refine qa F fun a F => nil (hK243 _ _ ?_); refine reg ?_; refine qm F fun a F => ?_; refine qv F (r_add F rfl rfl) fun a F => ?_; refine qa F fun a F => nil ?_; replace H := HN233 _ (si H).symm; exact hX232 _ _ _ (Nat.lt_succ_self _) ⟨(l225 ++ [some ([.slice none 0 0, .slice none 0 0, .int .i64 (IntKind.i64.wrap ((-100) - i229))] : List Value)]), A257, C258, (IntKind.i64.wrap (i229 + 1)), c253, F.sub ⟨rfl, rfl, rfl, rfl, rfl, trivial⟩, E, B, h224, h213, h260, H⟩
    replace H := im hb242 H; refine wcf (fb F (dz hb242)) ?_; refine wp_exit ?_; refine thenE ?_; refine thenE ?_; refine inbE ?_; have hx_ := HD234 _ (si H).symm; have H := HR238; rw [← hx_] at H; exact J271 c230 w231 a l225 A226 C227 (F.sub ⟨rfl, rfl, rfl, rfl, trivial⟩) E B h224 h213 h228 H
   refine loop_fuel (I := fun n a w => ∃ (l171 : List (Option (List Value))) (A172 : Option Addr) (C173 : Nat) (i175 : Int) (c : Nat → Nat), Fr a 116 [(0, .slice A85 l84.length C86), (1, .slice A163 l162.length C164), (7, .slice A172 l171.length C173), (8, .slice A163 l162.length C164), (9, .int .i64 i175)] ∧ Ev (fun x => (x = j5 ∨ x = j10) ∨ m ≤ x) c0 w0 c w ∧ CB (m + 1) c w ∧ TW (Krw 3 (by decide)) j10 c w A163 C164 l162 A163 C164 l162 ∧ TW (Krw 3 (by decide)) j5 c w A85 C86 l84 A172 C173 l171 ∧ loop (fun (s_ : (List (Option (List Value))) × Int) => haulagelaw13_parted.b5 s_.1 s_.2) n (l171, i175) = some x185) (k := k) ⟨l84, A85, C86, 0, c166, F.sub ⟨rfl, rfl, rfl, rfl, rfl, trivial⟩, E, B, h161, h83, HL⟩ ?_; clear HL H E F B; intro n182 X178 hX178 a w177 ⟨l171, A172, C173, i175, c176, F, E, B, h161, h174, HL⟩; obtain ⟨n183, ctl181, rfl, HB, HN179, HD180⟩ := loop_some HL; have H : haulagelaw13_parted.b5 l171 i175 = some ctl181 := HB; clear HB HL; unfold haulagelaw13_parted.b5 at H
   as_aux_lemma =>
   refine sq fun K186 hK186 => ?_; refine sr fun K187 hK187 => qm F fun a F => ?_; refine qv F (r_lss F rfl rfl) fun a F => ?_; refine nil (hK187 _ _ ?_)
   by_cases hb188 : i175 < 20
   ·replace H := ip hb188 H; refine wct (fb F (dt hb188)) (wp_skip (hK186 _ _ ?_)); refine sq fun K189 hK189 => ?_; refine wp_block ?_; refine reg ?_; refine qm F fun a F => qm F fun a F => ?_; refine qv F (r_sub F rfl rfl) fun a F => ?_; refine qv F (r_build (v := .agg #[.slice none 0 0, .slice none 0 0, .int .i64 (IntKind.i64.wrap ((-1) - i175))]) F [(2, .int .i64 (IntKind.i64.wrap ((-1) - i175)))] (by exact ⟨rfl, rfl, trivial⟩) (fun w => by kernel_rfl)) fun a F => ?_; refine q_eff F rfl rfl (by decide) (e_buildSlice (n := 1) (e := 51) (c := c176) (k := (Krw 3 (by decide))) (i := 0) F [(0, .agg #[.slice none 0 0, .slice none 0 0, .int .i64 (IntKind.i64.wrap ((-1) - i175))])] [.slice none 0 0, .slice none 0 0, .int .i64 (IntKind.i64.wrap ((-1) - i175))] ([some ([.slice none 0 0, .slice none 0 0, .int .i64 (IntKind.i64.wrap ((-1) - i175))] : List Value)] : List (Option (List Value))) (by exact ⟨rfl, rfl, trivial⟩) (fun w => by kernel_rfl) rfl (by decide) rfl ⟨(Krw.mk rfl rfl), trivial⟩ (fun q => q) 0) ?_; rintro v w191 a ⟨c190, A192, C193, rfl, E194, h195, B196⟩ F; replace B := B196 _ B (pl hm0); replace h161 := h161.ev E194; replace h174 := h174.ev E194; replace E := E.n E194; replace H := ifN H; obtain ⟨g197, H⟩ := H; refine q_eff F rfl rfl (by decide) (e_appendT (e := (Krw 3 (by decide))) (ys := l171) (vs := [some ([.slice none 0 0, .slice none 0 0, .int .i64 (IntKind.i64.wrap ((-1) - i175))] : List Value)]) (c := c190) F et_39 rfl rfl h174 h195 g197 (len_ok g197) bj5.1) ?_; rintro v w202 a ⟨c198, A203, C204, rfl, E205, B207, c199, e200, e201, h206⟩ F
    as_aux_lemma =>
    replace B := B207 _ B (Nat.lt_add_right _ bj5.2); replace h161 := h161.ev E205 bj10.2.2 (ne_z bj5.1); replace E := E.trans E205 (fun x (q : x = j5) => Or.inl (Or.inl q)); replace h161 := TW.rc h161 (rk e200 bj10.2.2) (rk e200 (ne_z bj5.1)); replace E : Ev (fun x => (x = j5 ∨ x = j10) ∨ m ≤ x) c0 w0 c199 w202 := E.rkM e200 (by simp); replace B := B.rk e201 (pl hm0); refine qa F fun a F => nil (hK189 _ _ ?_); refine reg ?_; refine qm F fun a F => ?_; refine qv F (r_add F rfl rfl) fun a F => ?_; refine qa F fun a F => nil ?_; replace H := HN179 _ (si H).symm; exact hX178 _ _ _ (Nat.lt_succ_self _) ⟨(l171 ++ [some ([.slice none 0 0, .slice none 0 0, .int .i64 (IntKind.i64.wrap ((-1) - i175))] : List Value)]), A203, C204, (IntKind.i64.wrap (i175 + 1)), c199, F.sub ⟨rfl, rfl, rfl, rfl, rfl, trivial⟩, E, B, h161, h206, H⟩
   replace H := im hb188 H; refine wcf (fb F (dz hb188)) ?_; refine wp_exit ?_; refine thenE ?_; refine thenE ?_; refine inbE ?_; have hx_ := HD180 _ (si H).symm; have H := HR184; rw [← hx_] at H; exact J217 c176 w177 a l171 A172 C173 (F.sub ⟨rfl, rfl, rfl, rfl, trivial⟩) E B h161 h174 H
  refine loop_fuel (I := fun n a w => ∃ (l125 : List (Option (List Value))) (A122 : Option Addr) (C123 : Nat) (i126 : Int) (c : Nat → Nat), Fr a 116 [(0, .slice A85 l84.length C86), (1, .slice A122 l125.length C123), (6, .int .i64 i126)] ∧ Ev (fun x => (x = j5 ∨ x = j10) ∨ m ≤ x) c0 w0 c w ∧ CB (m + 1) c w ∧ SL true (Krw 3 (by decide)) j5 0 c w A85 C86 l84 ∧ SL true (Krw 3 (by decide)) j10 0 c w A122 C123 l125 ∧ loop (fun (s_ : (List (Option (List Value))) × Int) => haulagelaw13_parted.b3 s_.1 s_.2) n (l125, i126) = some x136) (k := k) ⟨a6, A7, C8, 0, c88, F.sub ⟨rfl, rfl, rfl, trivial⟩, E, B, h83, h9, HL⟩ ?_; clear HL H E F B; intro n133 X129 hX129 a w128 ⟨l125, A122, C123, i126, c127, F, E, B, h83, h124, HL⟩; obtain ⟨n134, ctl132, rfl, HB, HN130, HD131⟩ := loop_some HL; have H : haulagelaw13_parted.b3 l125 i126 = some ctl132 := HB; clear HB HL; unfold haulagelaw13_parted.b3 at H
  as_aux_lemma =>
  refine sq fun K137 hK137 => ?_; refine sr fun K138 hK138 => qm F fun a F => qm F fun a F => ?_; refine qv F (r_lensl F Try.underlying39 rfl) fun a F => ?_; refine qv F (r_lss F rfl rfl) fun a F => ?_; refine nil (hK138 _ _ ?_)
  by_cases hb139 : i126 < (l125.length : Int)
  ·replace H := ip hb139 H; refine wct (fb F (dt hb139)) (wp_skip (hK137 _ _ ?_)); refine sq fun K140 hK140 => ?_; refine wp_block ?_; refine reg ?_; refine qm F fun a F => qm F fun a F => qm F fun a F => ?_; refine qv F (r_add F rfl rfl) fun a F => ?_; refine qv F (r_build (v := .agg #[.slice none 0 0, .slice none 0 0, .int .i64 (IntKind.i64.wrap (20000 + i126))]) F [(2, .int .i64 (IntKind.i64.wrap (20000 + i126)))] (by exact ⟨rfl, rfl, trivial⟩) (fun w => by kernel_rfl)) fun a F => ?_; replace H := ifN H; obtain ⟨g141, H⟩ := H; obtain ⟨ad142, cs143, e144, h145, r146⟩ := SL.at h124 i126 g141.1 g141.2; obtain ⟨u147, u148, u149, rfl⟩ := cells_n3 r146.1; obtain ⟨qa150, qqa150⟩ : ∃ q, q = (ad142.add (i126.toNat * 3)) := ⟨_, rfl⟩; have h145 : AT true j10 c127 w128 qa150 [u147, u148, u149] := by rw [qqa150]; exact h145
   refine qv F (r_indexAddr' F Try.underlying39 sz_51 rfl rfl g141.1 g141.2 e144 qqa150) fun a F => ?_; refine q_eff0 F rfl rfl (e_storeelN (us := [.slice none 0 0, .slice none 0 0, .int .i64 (IntKind.i64.wrap (20000 + i126))]) (k := (Krw 3 (by decide))) F rfl rfl sz_51 h124 g141.1 g141.2 e144 qqa150 h145 rfl (nb rfl) (one_all rfl) (some ([.slice none 0 0, .slice none 0 0, .int .i64 (IntKind.i64.wrap (20000 + i126))] : List Value)) (Krw.mk rfl rfl) (ne_z bj10.1)) ?_; rintro w152 a ⟨E153, h124, Z154⟩ F
   as_aux_lemma =>
   replace B := B.size Z154; replace h83 := h83.ev E153 (Ne.symm bj10.2.2) (ne_z bj10.1); replace E := E.trans E153 (fun x (q : x = j10) => Or.inl (Or.inr (q))); have hl155 : l125.length = (l125.set i126.toNat (some ([.slice none 0 0, .slice none 0 0, .int .i64 (IntKind.i64.wrap (20000 + i126))] : List Value))).length := by simp
   replace F := F.sub (L' := [(0, .slice A85 l84.length C86), (1, .slice A122 (l125.set i126.toNat (some ([.slice none 0 0, .slice none 0 0, .int .i64 (IntKind.i64.wrap (20000 + i126))] : List Value))).length C123), (6, .int .i64 i126), (36, .agg #[.slice none 0 0, .slice none 0 0, .int .i64 (IntKind.i64.wrap (20000 + i126))])]) ⟨rfl, (by rw [← hl155]; rfl), rfl, rfl, trivial⟩; refine nil (hK140 _ _ ?_); refine reg ?_; refine qm F fun a F => ?_; refine qv F (r_add F rfl rfl) fun a F => ?_; refine qa F fun a F => nil ?_; replace H := HN130 _ (si H).symm; exact hX129 _ _ _ (Nat.lt_succ_self _) ⟨(l125.set i126.toNat (some ([.slice none 0 0, .slice none 0 0, .int .i64 (IntKind.i64.wrap (20000 + i126))] : List Value))), A122, C123, (IntKind.i64.wrap (i126 + 1)), c127, F.sub ⟨rfl, rfl, rfl, trivial⟩, E, B, h83, h124, H⟩
  replace H := im hb139 H; refine wcf (fb F (dz hb139)) ?_; refine wp_exit ?_; refine thenE ?_; refine thenE ?_; refine inbE ?_; have hx_ := HD131 _ (si H).symm; have H := HR135; rw [← hx_] at H; exact J165 c127 w128 a l125 A122 C123 (F.sub ⟨rfl, rfl, trivial⟩) E B h83 h124 H
 refine loop_fuel (I := fun n a w => ∃ (l47 : List (Option (List Value))) (A44 : Option Addr) (C45 : Nat) (i48 : Int) (c : Nat → Nat), Fr a 116 [(0, .slice A44 l47.length C45), (1, .slice A7 a6.length C8), (5, .int .i64 i48)] ∧ Ev (fun x => (x = j5 ∨ x = j10) ∨ m ≤ x) c0 w0 c w ∧ CB (m + 1) c w ∧ SL true (Krw 3 (by decide)) j10 0 c w A7 C8 a6 ∧ SL true (Krw 3 (by decide)) j5 0 c w A44 C45 l47 ∧ loop (fun (s_ : (List (Option (List Value))) × Int) => haulagelaw13_parted.b1 s_.1 s_.2) n (l47, i48) = some x58) (k := k) ⟨a1, A2, C3, 0, c0, F.sub ⟨rfl, rfl, rfl, trivial⟩, E, B, h9, h4, HL⟩ ?_; clear HL H E F B; intro n55 X51 hX51 a w50 ⟨l47, A44, C45, i48, c49, F, E, B, h9, h46, HL⟩; obtain ⟨n56, ctl54, rfl, HB, HN52, HD53⟩ := loop_some HL; have H : haulagelaw13_parted.b1 l47 i48 = some ctl54 := HB; clear HB HL; unfold haulagelaw13_parted.b1 at H
 as_aux_lemma =>
 refine sq fun K59 hK59 => ?_; refine sr fun K60 hK60 => qm F fun a F => qm F fun a F => ?_; refine qv F (r_lensl F Try.underlying39 rfl) fun a F => ?_; refine qv F (r_lss F rfl rfl) fun a F => ?_; refine nil (hK60 _ _ ?_)
 by_cases hb61 : i48 < (l47.length : Int)
 ·replace H := ip hb61 H; refine wct (fb F (dt hb61)) (wp_skip (hK59 _ _ ?_)); refine sq fun K62 hK62 => ?_; refine wp_block ?_; refine reg ?_; refine qm F fun a F => qm F fun a F => qm F fun a F => ?_; refine qv F (r_add F rfl rfl) fun a F => ?_; refine qv F (r_build (v := .agg #[.slice none 0 0, .slice none 0 0, .int .i64 (IntKind.i64.wrap (100 + i48))]) F [(2, .int .i64 (IntKind.i64.wrap (100 + i48)))] (by exact ⟨rfl, rfl, trivial⟩) (fun w => by kernel_rfl)) fun a F => ?_; replace H := ifN H; obtain ⟨g63, H⟩ := H; obtain ⟨ad64, cs65, e66, h67, r68⟩ := SL.at h46 i48 g63.1 g63.2; obtain ⟨u69, u70, u71, rfl⟩ := cells_n3 r68.1; obtain ⟨qa72, qqa72⟩ : ∃ q, q = (ad64.add (i48.toNat * 3)) := ⟨_, rfl⟩; have h67 : AT true j5 c49 w50 qa72 [u69, u70, u71] := by rw [qqa72]; exact h67
  refine qv F (r_indexAddr' F Try.underlying39 sz_51 rfl rfl g63.1 g63.2 e66 qqa72) fun a F => ?_; refine q_eff0 F rfl rfl (e_storeelN (us := [.slice none 0 0, .slice none 0 0, .int .i64 (IntKind.i64.wrap (100 + i48))]) (k := (Krw 3 (by decide))) F rfl rfl sz_51 h46 g63.1 g63.2 e66 qqa72 h67 rfl (nb rfl) (one_all rfl) (some ([.slice none 0 0, .slice none 0 0, .int .i64 (IntKind.i64.wrap (100 + i48))] : List Value)) (Krw.mk rfl rfl) (ne_z bj5.1)) ?_; rintro w74 a ⟨E75, h46, Z76⟩ F
  as_aux_lemma =>
  replace B := B.size Z76; replace h9 := h9.ev E75 bj10.2.2 (ne_z bj5.1); replace E := E.trans E75 (fun x (q : x = j5) => Or.inl (Or.inl q)); have hl77 : l47.length = (l47.set i48.toNat (some ([.slice none 0 0, .slice none 0 0, .int .i64 (IntKind.i64.wrap (100 + i48))] : List Value))).length := by simp
  replace F := F.sub (L' := [(0, .slice A44 (l47.set i48.toNat (some ([.slice none 0 0, .slice none 0 0, .int .i64 (IntKind.i64.wrap (100 + i48))] : List Value))).length C45), (1, .slice A7 a6.length C8), (5, .int .i64 i48), (24, .agg #[.slice none 0 0, .slice none 0 0, .int .i64 (IntKind.i64.wrap (100 + i48))])]) ⟨(by rw [← hl77]; rfl), rfl, rfl, rfl, trivial⟩; refine nil (hK62 _ _ ?_); refine reg ?_; refine qm F fun a F => ?_; refine qv F (r_add F rfl rfl) fun a F => ?_; refine qa F fun a F => nil ?_; replace H := HN52 _ (si H).symm; exact hX51 _ _ _ (Nat.lt_succ_self _) ⟨(l47.set i48.toNat (some ([.slice none 0 0, .slice none 0 0, .int .i64 (IntKind.i64.wrap (100 + i48))] : List Value))), A44, C45, (IntKind.i64.wrap (i48 + 1)), c49, F.sub ⟨rfl, rfl, rfl, trivial⟩, E, B, h9, h46, H⟩
 replace H := im hb61 H; refine wcf (fb F (dz hb61)) ?_; refine wp_exit ?_; refine thenE ?_; refine thenE ?_; refine inbE ?_; have hx_ := HD53 _ (si H).symm; have H := HR57; rw [← hx_] at H; exact J87 c49 w50 a l47 A44 C45 (F.sub ⟨rfl, rfl, trivial⟩) E B h9 h46 H
theorem haulagelaw13_sameAnswer.calls (k : Nat) {m : Nat} {c0 : Nat → Nat} {w0 : World} {j5 : Nat} {j9 : Nat} {j14 : Nat} {j18 : Nat} {A2 : Option Addr} {C3 : Nat} {A6 : Option Addr} {C7 : Nat} {A11 : Option Addr} {C12 : Nat} {A15 : Option Addr} {C16 : Nat} {a1 : api_Answer} {a10 : api_Answer} (hm0 : 0 < m) (B0 : CB m c0 w0) (h4 : SL false (Kint .u8) j5 0 c0 w0 A2 C3 a1.Key) (h8 : SL false (Kint .u8) j9 0 c0 w0 A6 C7 a1.Value) (h13 : SL false (Kint .u8) j14 0 c0 w0 A11 C12 a10.Key) (h17 : SL false (Kint .u8) j18 0 c0 w0 A15 C16 a10.Value) (bj5 : j5 < m) (bj9 : j9 < m) (bj14 : j14 < m) (bj18 : j18 < m) (r : Bool) (H : haulagelaw13_sameAnswer.f k a1 a10 = some r) : Calls Try.prog 16 #[.agg #[.bool a1.Done, .slice A2 a1.Key.length C3, .slice A6 a1.Value.length C7, .int .i64 a1.Rev, .int .i64 a1.At], .agg #[.bool a10.Done, .slice A11 a10.Key.length C12, .slice A15 a10.Value.length C16, .int .i64 a10.Rev, .int .i64 a10.At]] w0 (fun e w_ => ∃ (c_ : Nat → Nat), e = .returned (.bool r) ∧ Ev (fun x => False) c0 w0 c_ w_ ∧ CB m c_ w_) := by
 unfold haulagelaw13_sameAnswer.f at H; have B := B0.mono (show m ≤ m + 3 by omega); have E : Ev (fun x => False ∨ m ≤ x) c0 w0 c0 w0 := Ev.refl; refine enter (N := 38) (l := [.agg #[.bool a1.Done, .slice A2 a1.Key.length C3, .slice A6 a1.Value.length C7, .int .i64 a1.Rev, .int .i64 a1.At], .agg #[.bool a10.Done, .slice A11 a10.Key.length C12, .slice A15 a10.Value.length C16, .int .i64 a10.Rev, .int .i64 a10.At]]) Try.func16 rfl rfl (nb rfl) fun a F => ?_; refine sr fun K19 hK19 => ?_; refine q_eff F rfl rfl (by decide) (e_box F (v := .agg #[.bool a1.Done, .slice A2 a1.Key.length C3, .slice A6 a1.Value.length C7, .int .i64 a1.Rev, .int .i64 a1.At]) rfl c0 (m + 1)) ?_; rintro v w21 a ⟨c20, qa22, rfl, E23, h24, B25⟩ F; replace B := B25 _ B lm; replace E := E.n E23; replace h24 : AT _ _ _ _ _ [.bool a1.Done, .slice A2 a1.Key.length C3, .slice A6 a1.Value.length C7, .int .i64 a1.Rev, .int .i64 a1.At] := h24; refine q_eff F rfl rfl (by decide) (e_box F (v := .agg #[.bool a10.Done, .slice A11 a10.Key.length C12, .slice A15 a10.Value.length C16, .int .i64 a10.Rev, .int .i64 a10.At]) rfl c20 (m + 2)) ?_; rintro v w28 a ⟨c27, qa29, rfl, E30, h31, B32⟩ F; replace B := B32 _ B lm; replace h4 := (h4.ev E23).ev E30; replace h8 := (h8.ev E23).ev E30; replace h13 := (h13.ev E23).ev E30; replace h17 := (h17.ev E23).ev E30; replace h24 := h24.ev E30; replace E := E.n E30; replace h31 : AT _ _ _ _ _ [.bool a10.Done, .slice A11 a10.Key.length C12, .slice A15 a10.Value.length C16, .int .i64 a10.Rev, .int .i64 a10.At] := h31; refine qa F fun a F => nil (hK19 _ _ ?_); refine sr fun K34 hK34 => qf F ff_33_0 fun a F => ?_; refine ql F ag_4 h24 fun a F => ?_; refine qf F ff_33_0 fun a F => ?_; refine ql F ag_4 h31 fun a F => ?_; refine qv F (r_beql F Try.underlying4 rfl rfl) fun a F => ?_; refine qm F fun a F => ?_
 by_cases hb35 : (a1.Done == a10.Done) = true
 ·replace H := ip hb35 H; refine qy F hb35 ?_; refine qf F ff_33_1 fun a F => ?_; refine qy F hb35 ?_; refine ql F ag_23 h24 fun a F => ?_; refine qy F hb35 ?_; refine qf F ff_33_1 fun a F => ?_; refine qy F hb35 ?_; refine ql F ag_23 h31 fun a F => ?_; obtain ⟨t36, q37, H⟩ := bind_some H; refine qy F hb35 ?_; refine qc F Try.func12 (haulagelaw13_same.calls k (m := m + 3) (pl hm0) B h4 h13 (Nat.lt_add_right _ bj5) (Nat.lt_add_right _ bj14) _ q37) ?_; rintro e w39 ⟨c38, rfl, E40, B⟩; refine rt fun a F => ?_; replace h8 := h8.ev E40; replace h17 := h17.ev E40; replace h24 := h24.ev E40; replace h31 := h31.ev E40; replace E := E.n E40; refine qv F (r_pick_t F rfl hb35 rfl) fun a F => ?_; refine qm F fun a F => ?_
  by_cases hb43 : t36 = true
  ·replace H := ip hb43 H; refine qy F hb43 ?_; refine qf F ff_33_2 fun a F => ?_; refine qy F hb43 ?_; refine ql F ag_23 h24 fun a F => ?_; refine qy F hb43 ?_; refine qf F ff_33_2 fun a F => ?_; refine qy F hb43 ?_; refine ql F ag_23 h31 fun a F => ?_; obtain ⟨t44, q45, H⟩ := bind_some H; refine qy F hb43 ?_; refine qc F Try.func12 (haulagelaw13_same.calls k (m := m + 3) (pl hm0) B h8 h17 (Nat.lt_add_right _ bj9) (Nat.lt_add_right _ bj18) _ q45) ?_; rintro e w47 ⟨c46, rfl, E48, B⟩; refine rt fun a F => ?_; replace h24 := h24.ev E48; replace h31 := h31.ev E48; replace E := E.n E48; refine qv F (r_pick_t F rfl hb43 rfl) fun a F => ?_; refine qm F fun a F => ?_
   by_cases hb51 : t44 = true
   ·replace H := ip hb51 H; refine qy F hb51 ?_; refine qf F ff_33_3 fun a F => ?_; refine qy F hb51 ?_; refine ql F ag_3 h24 fun a F => ?_; refine qy F hb51 ?_; refine qf F ff_33_3 fun a F => ?_; refine qy F hb51 ?_; refine ql F ag_3 h31 fun a F => ?_; refine qy F hb51 ?_; refine qv F (r_eql F rfl rfl) fun a F => ?_; refine qv F (r_pick_t F rfl hb51 rfl) fun a F => ?_; refine qm F fun a F => ?_
    by_cases hb52 : a1.Rev = a10.Rev
    ·replace H := ip hb52 H; refine qy F (dt hb52) ?_; refine qf F ff_33_4 fun a F => ?_; refine qy F (dt hb52) ?_; refine ql F ag_3 h24 fun a F => ?_; refine qy F (dt hb52) ?_; refine qf F ff_33_4 fun a F => ?_; refine qy F (dt hb52) ?_; refine ql F ag_3 h31 fun a F => ?_; refine qy F (dt hb52) ?_; refine qv F (r_eql F rfl rfl) fun a F => ?_; refine qv F (r_pick_t F rfl (dt hb52) rfl) fun a F => ?_; refine qa F fun a F => nil (hK34 _ _ ?_); replace F : Fr a 38 [(4, .bool (decide (a1.At = a10.At)))] := F.sub ⟨rfl, trivial⟩; refine wp_ret ?_; obtain rfl := si H; refine out1 F rfl rfl ?_; exact ⟨cf (ct m) c46, rfl, E.lv B0, cfb⟩
    replace H := im hb52 H; refine qn F (dz hb52) fun a F => qn F (dz hb52) fun a F => qn F (dz hb52) fun a F => qn F (dz hb52) fun a F => qn F (dz hb52) fun a F => ?_; refine qv F (r_pick_f F rfl (dz hb52) rfl) fun a F => ?_; refine qa F fun a F => nil (hK34 _ _ ?_); replace F : Fr a 38 [(4, .bool false)] := F.sub ⟨rfl, trivial⟩; refine wp_ret ?_; obtain rfl := si H; refine out1 F rfl rfl ?_; exact ⟨cf (ct m) c46, rfl, E.lv B0, cfb⟩
   replace H := im hb51 H; refine qn F (bfalse hb51) fun a F => qn F (bfalse hb51) fun a F => qn F (bfalse hb51) fun a F => qn F (bfalse hb51) fun a F => qn F (bfalse hb51) fun a F => ?_; refine qv F (r_pick_f F rfl (bfalse hb51) rfl) fun a F => ?_; refine qm F fun a F => qn F rfl fun a F => qn F rfl fun a F => qn F rfl fun a F => qn F rfl fun a F => qn F rfl fun a F => ?_; refine qp F fun a F => ?_; refine qa F fun a F => nil (hK34 _ _ ?_); replace F : Fr a 38 [(4, .bool false)] := F.sub ⟨rfl, trivial⟩; refine wp_ret ?_; obtain rfl := si H; refine out1 F rfl rfl ?_; exact ⟨cf (ct m) c46, rfl, E.lv B0, cfb⟩
  replace H := im hb43 H; refine qn F (bfalse hb43) fun a F => qn F (bfalse hb43) fun a F => qn F (bfalse hb43) fun a F => qn F (bfalse hb43) fun a F => qn F (bfalse hb43) fun a F => ?_; refine qv F (r_pick_f F rfl (bfalse hb43) rfl) fun a F => ?_; refine qm F fun a F => qn F rfl fun a F => qn F rfl fun a F => qn F rfl fun a F => qn F rfl fun a F => qn F rfl fun a F => ?_; refine qp F fun a F => ?_; refine qm F fun a F => qn F rfl fun a F => qn F rfl fun a F => qn F rfl fun a F => qn F rfl fun a F => qn F rfl fun a F => ?_; refine qp F fun a F => ?_; refine qa F fun a F => nil (hK34 _ _ ?_); replace F : Fr a 38 [(4, .bool false)] := F.sub ⟨rfl, trivial⟩; refine wp_ret ?_; obtain rfl := si H; refine out1 F rfl rfl ?_; exact ⟨cf (ct m) c38, rfl, E.lv B0, cfb⟩
 replace H := im hb35 H; refine qn F (bfalse hb35) fun a F => qn F (bfalse hb35) fun a F => qn F (bfalse hb35) fun a F => qn F (bfalse hb35) fun a F => qn F (bfalse hb35) fun a F => ?_; refine qv F (r_pick_f F rfl (bfalse hb35) rfl) fun a F => ?_; refine qm F fun a F => qn F rfl fun a F => qn F rfl fun a F => qn F rfl fun a F => qn F rfl fun a F => qn F rfl fun a F => ?_; refine qp F fun a F => ?_; refine qm F fun a F => qn F rfl fun a F => qn F rfl fun a F => qn F rfl fun a F => qn F rfl fun a F => qn F rfl fun a F => ?_; refine qp F fun a F => ?_; refine qm F fun a F => qn F rfl fun a F => qn F rfl fun a F => qn F rfl fun a F => qn F rfl fun a F => qn F rfl fun a F => ?_; refine qp F fun a F => ?_; refine qa F fun a F => nil (hK34 _ _ ?_); replace F : Fr a 38 [(4, .bool false)] := F.sub ⟨rfl, trivial⟩; refine wp_ret ?_; obtain rfl := si H; refine out1 F rfl rfl ?_; exact ⟨cf (ct m) c27, rfl, E.lv B0, cfb⟩
theorem haulagelaw13_sameRow.calls (k : Nat) {m : Nat} {c0 : Nat → Nat} {w0 : World} {j5 : Nat} {j9 : Nat} {j14 : Nat} {j18 : Nat} {A2 : Option Addr} {C3 : Nat} {A6 : Option Addr} {C7 : Nat} {A11 : Option Addr} {C12 : Nat} {A15 : Option Addr} {C16 : Nat} {a1 : api_Row} {a10 : api_Row} (hm0 : 0 < m) (B0 : CB m c0 w0) (h4 : SL false (Kint .u8) j5 0 c0 w0 A2 C3 a1.Key) (h8 : SL false (Kint .u8) j9 0 c0 w0 A6 C7 a1.Value) (h13 : SL false (Kint .u8) j14 0 c0 w0 A11 C12 a10.Key) (h17 : SL false (Kint .u8) j18 0 c0 w0 A15 C16 a10.Value) (bj5 : j5 < m) (bj9 : j9 < m) (bj14 : j14 < m) (bj18 : j18 < m) (r : Bool) (H : haulagelaw13_sameRow.f k a1 a10 = some r) : Calls Try.prog 42 #[.agg #[.slice A2 a1.Key.length C3, .slice A6 a1.Value.length C7, .int .i64 a1.Rev], .agg #[.slice A11 a10.Key.length C12, .slice A15 a10.Value.length C16, .int .i64 a10.Rev]] w0 (fun e w_ => ∃ (c_ : Nat → Nat), e = .returned (.bool r) ∧ Ev (fun x => False) c0 w0 c_ w_ ∧ CB m c_ w_) := by
 unfold haulagelaw13_sameRow.f at H; have B := B0.mono (show m ≤ m + 3 by omega); have E : Ev (fun x => False ∨ m ≤ x) c0 w0 c0 w0 := Ev.refl; refine enter (N := 24) (l := [.agg #[.slice A2 a1.Key.length C3, .slice A6 a1.Value.length C7, .int .i64 a1.Rev], .agg #[.slice A11 a10.Key.length C12, .slice A15 a10.Value.length C16, .int .i64 a10.Rev]]) Try.func42 rfl rfl (nb rfl) fun a F => ?_; refine sr fun K19 hK19 => ?_; refine q_eff F rfl rfl (by decide) (e_box F (v := .agg #[.slice A2 a1.Key.length C3, .slice A6 a1.Value.length C7, .int .i64 a1.Rev]) rfl c0 (m + 1)) ?_; rintro v w21 a ⟨c20, qa22, rfl, E23, h24, B25⟩ F; replace B := B25 _ B lm; replace E := E.n E23; replace h24 : AT _ _ _ _ _ [.slice A2 a1.Key.length C3, .slice A6 a1.Value.length C7, .int .i64 a1.Rev] := h24; refine q_eff F rfl rfl (by decide) (e_box F (v := .agg #[.slice A11 a10.Key.length C12, .slice A15 a10.Value.length C16, .int .i64 a10.Rev]) rfl c20 (m + 2)) ?_; rintro v w28 a ⟨c27, qa29, rfl, E30, h31, B32⟩ F; replace B := B32 _ B lm; replace h4 := (h4.ev E23).ev E30; replace h13 := (h13.ev E23).ev E30; replace h24 := h24.ev E30; replace E := E.n E30; replace h31 : AT _ _ _ _ _ [.slice A11 a10.Key.length C12, .slice A15 a10.Value.length C16, .int .i64 a10.Rev] := h31; refine qa F fun a F => nil (hK19 _ _ ?_); refine sr fun K34 hK34 => qf F ff_51_0 fun a F => ?_; refine ql F ag_23 h24 fun a F => ?_; refine qf F ff_51_0 fun a F => ?_; refine ql F ag_23 h31 fun a F => ?_; obtain ⟨t35, q36, H⟩ := bind_some H; refine qc F Try.func12 (haulagelaw13_same.calls k (m := m + 3) (pl hm0) B h4 h13 (Nat.lt_add_right _ bj5) (Nat.lt_add_right _ bj14) _ q36) ?_; rintro e w38 ⟨c37, rfl, E39, B⟩; refine rt fun a F => ?_; replace h8 := ((h8.ev E23).ev E30).ev E39; replace h17 := ((h17.ev E23).ev E30).ev E39; replace h24 := h24.ev E39; replace h31 := h31.ev E39; replace E := E.n E39; refine qm F fun a F => ?_
 by_cases hb42 : t35 = true
 ·replace H := ip hb42 H; refine qy F hb42 ?_; refine qf F ff_51_1 fun a F => ?_; refine qy F hb42 ?_; refine ql F ag_23 h24 fun a F => ?_; refine qy F hb42 ?_; refine qf F ff_51_1 fun a F => ?_; refine qy F hb42 ?_; refine ql F ag_23 h31 fun a F => ?_; obtain ⟨t43, q44, H⟩ := bind_some H; refine qy F hb42 ?_; refine qc F Try.func12 (haulagelaw13_same.calls k (m := m + 3) (pl hm0) B h8 h17 (Nat.lt_add_right _ bj9) (Nat.lt_add_right _ bj18) _ q44) ?_; rintro e w46 ⟨c45, rfl, E47, B⟩; refine rt fun a F => ?_; replace h24 := h24.ev E47; replace h31 := h31.ev E47; replace E := E.n E47; refine qv F (r_pick_t F rfl hb42 rfl) fun a F => ?_; refine qm F fun a F => ?_
  by_cases hb50 : t43 = true
  ·replace H := ip hb50 H; refine qy F hb50 ?_; refine qf F ff_51_2 fun a F => ?_; refine qy F hb50 ?_; refine ql F ag_3 h24 fun a F => ?_; refine qy F hb50 ?_; refine qf F ff_51_2 fun a F => ?_; refine qy F hb50 ?_; refine ql F ag_3 h31 fun a F => ?_; refine qy F hb50 ?_; refine qv F (r_eql F rfl rfl) fun a F => ?_; refine qv F (r_pick_t F rfl hb50 rfl) fun a F => ?_; refine qa F fun a F => nil (hK34 _ _ ?_); replace F : Fr a 24 [(4, .bool (decide (a1.Rev = a10.Rev)))] := F.sub ⟨rfl, trivial⟩; refine wp_ret ?_; obtain rfl := si H; refine out1 F rfl rfl ?_; exact ⟨cf (ct m) c45, rfl, E.lv B0, cfb⟩
  replace H := im hb50 H; refine qn F (bfalse hb50) fun a F => qn F (bfalse hb50) fun a F => qn F (bfalse hb50) fun a F => qn F (bfalse hb50) fun a F => qn F (bfalse hb50) fun a F => ?_; refine qv F (r_pick_f F rfl (bfalse hb50) rfl) fun a F => ?_; refine qa F fun a F => nil (hK34 _ _ ?_); replace F : Fr a 24 [(4, .bool false)] := F.sub ⟨rfl, trivial⟩; refine wp_ret ?_; obtain rfl := si H; refine out1 F rfl rfl ?_; exact ⟨cf (ct m) c45, rfl, E.lv B0, cfb⟩
 replace H := im hb42 H; refine qn F (bfalse hb42) fun a F => qn F (bfalse hb42) fun a F => qn F (bfalse hb42) fun a F => qn F (bfalse hb42) fun a F => qn F (bfalse hb42) fun a F => ?_; refine qv F (r_pick_f F rfl (bfalse hb42) rfl) fun a F => ?_; refine qm F fun a F => qn F rfl fun a F => qn F rfl fun a F => qn F rfl fun a F => qn F rfl fun a F => qn F rfl fun a F => ?_; refine qp F fun a F => ?_; refine qa F fun a F => nil (hK34 _ _ ?_); replace F : Fr a 24 [(4, .bool false)] := F.sub ⟨rfl, trivial⟩; refine wp_ret ?_; obtain rfl := si H; refine out1 F rfl rfl ?_; exact ⟨cf (ct m) c37, rfl, E.lv B0, cfb⟩
theorem haulagelaw13_sameRows.calls (k : Nat) {m : Nat} {c0 : Nat → Nat} {w0 : World} {j5 : Nat} {j6 : Nat} {j11 : Nat} {j12 : Nat} {A2 : Option Addr} {C3 : Nat} {A8 : Option Addr} {C9 : Nat} {a1 : List api_Row} {a7 : List api_Row} (hm0 : 0 < m) (B0 : CB m c0 w0) (h4 : SL false K_api_Row j5 j6 c0 w0 A2 C3 a1) (h10 : SL false K_api_Row j11 j12 c0 w0 A8 C9 a7) (bj5 : j5 < m) (bj6 : j6 < m) (bj11 : j11 < m) (bj12 : j12 < m) (r : Bool) (H : haulagelaw13_sameRows.f k a1 a7 = some r) : Calls Try.prog 13 #[.slice A2 a1.length C3, .slice A8 a7.length C9] w0 (fun e w_ => ∃ (c_ : Nat → Nat), e = .returned (.bool r) ∧ Ev (fun x => False) c0 w0 c_ w_ ∧ CB m c_ w_) := by
 unfold haulagelaw13_sameRows.f at H; have B := B0.mono (show m ≤ m + 1 by omega); have E : Ev (fun x => False ∨ m ≤ x) c0 w0 c0 w0 := Ev.refl; refine enter (N := 27) (l := [.slice A2 a1.length C3, .slice A8 a7.length C9]) Try.func13 rfl rfl (nb rfl) fun a F => ?_; refine sr fun K13 hK13 => qa F fun a F => nil (hK13 _ _ ?_); refine sq fun K14 hK14 => ?_; refine sr fun K15 hK15 => qm F fun a F => ?_; refine qv F (r_lensl F Try.underlying39 rfl) fun a F => ?_; refine qm F fun a F => ?_; refine qv F (r_lensl F Try.underlying39 rfl) fun a F => ?_; refine qv F (r_neq F rfl rfl) fun a F => ?_; refine nil (hK15 _ _ ?_)
 by_cases hb16 : (a1.length : Int) = (a7.length : Int)
 ·replace H := ip hb16 H; refine wcf (fb F (congrArg not (dt hb16))) (wp_skip (hK14 _ _ ?_)); refine sq fun K18 hK18 => ?_; refine sr fun K19 hK19 => qa F fun a F => nil (hK19 _ _ ?_); refine wp_block ?_; obtain ⟨x30, HL, HR29⟩ := bind_some H; have J76 : ∀ (c77 : Nat → Nat) (w78 : World) (a : Act), Fr a 27 [] → Ev (fun x => False ∨ m ≤ x) c0 w0 c77 w78 → CB (m + 1) c77 w78 → haulagelaw13_sameRows.j2 = some r → K18 a w78 := by
   intro c77 w78 a  F E B  H; unfold haulagelaw13_sameRows.j2 at H; refine hK18 _ _ ?_; refine sr fun K79 hK79 => qa F fun a F => nil (hK79 _ _ ?_); refine wp_ret ?_; obtain rfl := si H; refine out1 F rfl rfl ?_; exact ⟨cf (ct m) c77, rfl, E.lv B0, cfb⟩
  refine loop_fuel (I := fun n a w => ∃ (i20 : Int) (c : Nat → Nat), Fr a 27 [(0, .slice A2 a1.length C3), (1, .slice A8 a7.length C9), (5, .int .i64 i20)] ∧ Ev (fun x => False ∨ m ≤ x) c0 w0 c w ∧ CB (m + 1) c w ∧ SL false K_api_Row j5 j6 c w A2 C3 a1 ∧ SL false K_api_Row j11 j12 c w A8 C9 a7 ∧ loop (fun (s_ : Int) => haulagelaw13_sameRows.b1 k a1 a7 s_) n i20 = some x30) (k := k) ⟨0, c0, F.sub ⟨rfl, rfl, rfl, trivial⟩, E, B, h4, h10, HL⟩ ?_; clear HL H E F B; intro n27 X23 hX23 a w22 ⟨i20, c21, F, E, B, h4, h10, HL⟩; obtain ⟨n28, ctl26, rfl, HB, HN24, HD25⟩ := loop_some HL; have H : haulagelaw13_sameRows.b1 k a1 a7 i20 = some ctl26 := HB; clear HB HL; unfold haulagelaw13_sameRows.b1 at H; refine sq fun K31 hK31 => ?_; refine sr fun K32 hK32 => qm F fun a F => qm F fun a F => ?_; refine qv F (r_lensl F Try.underlying39 rfl) fun a F => ?_; refine qv F (r_lss F rfl rfl) fun a F => ?_; refine nil (hK32 _ _ ?_)
  by_cases hb33 : i20 < (a1.length : Int)
  ·replace H := ip hb33 H; refine wct (fb F (dt hb33)) (wp_skip (hK31 _ _ ?_)); refine sq fun K34 hK34 => ?_; refine wp_block ?_; refine sq fun K35 hK35 => ?_; refine regD (SB No c21 w22) 10 (.q 0 (.q 1 (.q 2 (.q 3 (.q 4 (.q 5 (.q 6 (.q 7 (.e 8 (.q 9 .nil)))))))))) Try_hm (by decide +kernel) ?_; intro w36 w1_ w2_ w3_ w4_; have E37 : Ev No c21 w22 c21 w36 := Ev.same w1_ w2_ w3_ w4_; replace B := B.same w1_; have zh4 := h4; have zh10 := h10; have ER : Ev No c21 w22 c21 w36 := Ev.same w1_ w2_ w3_ w4_; replace E := E.n E37; refine dm F ER.sb fun a F => ?_; refine dm F ER.sb fun a F => ?_; replace H := ifN H; obtain ⟨g38, H⟩ := H; obtain ⟨ad39, cs40, e41, h42, r43⟩ := SL.at zh4 i20 g38.1 g38.2; obtain ⟨A44, C45, A47, C48, rfl, h46, h49⟩ := r43; replace h46 := SL.fl (i' := 0) h46 (fun q => q); replace h49 := SL.fl (i' := 0) h49 (fun q => q); obtain ⟨qa50, qqa50⟩ : ∃ q, q = (ad39.add (i20.toNat * 3)) := ⟨_, rfl⟩; have h42 : AT false j5 c21 w22 qa50 [.slice A44 ((rd a1 i20).Key).length C45, .slice A47 ((rd a1 i20).Value).length C48, .int .i64 ((rd a1 i20).Rev)] := by rw [qqa50]; exact h42
   replace h46 := h46.ev ER nq nq; replace h49 := h49.ev ER nq nq; have zh42 := h42; refine dq F (fun wq hS => r_indexAddr' F Try.underlying39 sz_51 rfl rfl g38.1 g38.2 e41 qqa50) ER.sb fun a F => ?_; refine dq F (fun wq hS => r_loads (cs := [.slice A44 ((rd a1 i20).Key).length C45, .slice A47 ((rd a1 i20).Value).length C48, .int .i64 ((rd a1 i20).Rev)]) F rfl ag_51 sz_51 (AT.sb zh42 hS nq)) ER.sb fun a F => ?_; refine dm F ER.sb fun a F => ?_; refine dm F ER.sb fun a F => ?_; replace H := ifN H; obtain ⟨g52, H⟩ := H; obtain ⟨ad53, cs54, e55, h56, r57⟩ := SL.at zh10 i20 g52.1 g52.2; obtain ⟨A58, C59, A61, C62, rfl, h60, h63⟩ := r57; replace h60 := SL.fl (i' := 0) h60 (fun q => q); replace h63 := SL.fl (i' := 0) h63 (fun q => q); obtain ⟨qa64, qqa64⟩ : ∃ q, q = (ad53.add (i20.toNat * 3)) := ⟨_, rfl⟩; have h56 : AT false j11 c21 w22 qa64 [.slice A58 ((rd a7 i20).Key).length C59, .slice A61 ((rd a7 i20).Value).length C62, .int .i64 ((rd a7 i20).Rev)] := by rw [qqa64]; exact h56
   replace h60 := h60.ev ER nq nq; replace h63 := h63.ev ER nq nq; have zh56 := h56; refine dq F (fun wq hS => r_indexAddr' F Try.underlying39 sz_51 rfl rfl g52.1 g52.2 e55 qqa64) ER.sb fun a F => ?_; refine dq F (fun wq hS => r_loads (cs := [.slice A58 ((rd a7 i20).Key).length C59, .slice A61 ((rd a7 i20).Value).length C62, .int .i64 ((rd a7 i20).Rev)]) F rfl ag_51 sz_51 (AT.sb zh56 hS nq)) ER.sb fun a F => ?_; refine d_e ?_; obtain ⟨t66, q67, H⟩ := bind_some H; refine oc F Try.func42 (haulagelaw13_sameRow.calls k (m := m + 1) (pl hm0) B h46 h49 h60 h63 (Nat.lt_add_right _ bj6) (Nat.lt_add_right _ bj6) (Nat.lt_add_right _ bj12) (Nat.lt_add_right _ bj12) _ q67) ?_; rintro e w69 ⟨c68, rfl, E70, B⟩; refine rt fun a F => ?_; replace ER := ER.trans E70 nx; replace h4 := (h4.ev E37).ev E70; replace h10 := (h10.ev E37).ev E70; replace E := E.n E70; refine ⟨fun _ => ER.sb, ?_⟩; refine dq F (fun wq hS => r_not F rfl) ER.sb fun a F => ?_; refine d_nil ?_; refine hK35 _ _ ?_; replace F : Fr a 27 [(0, .slice A2 a1.length C3), (1, .slice A8 a7.length C9), (5, .int .i64 i20), (26, .bool (!t66))] := F.sub ⟨rfl, rfl, rfl, rfl, trivial⟩
   by_cases hb73 : t66 = true
   ·replace H := ip hb73 H; refine wcf (fb F (congrArg not hb73)) (wp_skip (hK34 _ _ ?_)); refine reg ?_; refine qm F fun a F => ?_; refine qv F (r_add F rfl rfl) fun a F => ?_; refine qa F fun a F => nil ?_; replace H := HN24 _ (si H).symm; exact hX23 _ _ _ (Nat.lt_succ_self _) ⟨(IntKind.i64.wrap (i20 + 1)), c68, F.sub ⟨rfl, rfl, rfl, trivial⟩, E, B, h4, h10, H⟩
   replace H := im hb73 H; refine wct (fb F (congrArg not (bfalse hb73))) ?_; refine sr fun K74 hK74 => qa F fun a F => nil (hK74 _ _ ?_); refine wp_ret ?_; refine inbR ?_; refine thenR ?_; refine thenR ?_; refine inbR ?_; refine thenR ?_; have hx_ := HD25 _ (si H).symm; have H := HR29; rw [← hx_] at H; replace H : some false = some r := H; obtain rfl := si H; refine out1 F rfl rfl ?_; exact ⟨cf (ct m) c68, rfl, E.lv B0, cfb⟩
  replace H := im hb33 H; refine wcf (fb F (dz hb33)) ?_; refine wp_exit ?_; refine thenE ?_; refine thenE ?_; refine inbE ?_; have hx_ := HD25 _ (si H).symm; have H := HR29; rw [← hx_] at H; exact J76 c21 w22 a  (F.sub trivial) E B  H
 replace H := im hb16 H; refine wct (fb F (congrArg not (dz hb16))) ?_; refine sr fun K17 hK17 => qa F fun a F => nil (hK17 _ _ ?_); refine wp_ret ?_; refine thenR ?_; obtain rfl := si H; refine out1 F rfl rfl ?_; exact ⟨cf (ct m) c0, rfl, E.lv B0, cfb⟩
end Go.Proofs.Ytoaldfpngihhcaa.G
namespace Go.Proofs.Ytoaldfpngihhcaa.G
open Go Go.RowKit
set_option linter.unusedVariables false
set_option linter.unusedSimpArgs false
section
variable {P : Program} {ops : Array Oper} {Q : Exit → Act → World → Prop} {a : Act} {N : Nat} {L : List (Nat × Value)} {D : List Deferred} {w w' : World} {v : Value} {rest : List Oper} {o : Oper} {d : Nat}
theorem preg {id : Nat} {l : List Oper} (h : wpList P l.toArray Q l a w) : (Code.region id l.toArray false).wp P Q a w := wp_region_lit h
theorem pnil (h : Q .normal a w) : wpList P ops Q [] a w := h
theorem p_upon (hg : o.guard = none) {r : Result Next} (hr : (execOp a.eval o).run P w = r) (h : o.upon P a (wpList P ops Q rest) Q r) : wpList P ops Q (o :: rest) a w := by
 unfold wpList; rw [if_pos (by simp [Region.wanted, hg])]
 left; show o.upon P a _ Q _; rw [hr]; exact h
theorem p_val (F : Fr a N L D) (hg : o.guard = none) (hd : o.dst = some d) (hN : d < N) (hr : (execOp a.eval o).run P w = .ok (.value v) w')
  (k : ∀ a', Fr a' N ((d, v) :: L) D → wpList P ops Q rest a' w') : wpList P ops Q (o :: rest) a w :=
 p_upon hg hr (by show wpList P ops Q rest (a.put o.dst v) w'; rw [hd]; exact k _ (F.put v hN))
theorem p_skip (F : Fr a N L D) (hg : o.guard = none) (hd : o.dst = none) (hr : (execOp a.eval o).run P w = .ok .skip w')
  (k : ∀ a', Fr a' N L D → wpList P ops Q rest a' w') : wpList P ops Q (o :: rest) a w :=
 p_upon hg hr (by show wpList P ops Q rest (a.put o.dst undef) w'; rw [hd]; exact k _ F)
theorem p_eff0 {R0 : World → Prop} (F : Fr a N L D) (hg : o.guard = none) (hd : o.dst = none) (h : ∃ w', (execOp a.eval o).run P w = .ok .skip w' ∧ R0 w')
  (k : ∀ w' a', R0 w' → Fr a' N L D → wpList P ops Q rest a' w') : wpList P ops Q (o :: rest) a w := by
 obtain ⟨w', hr, hR⟩ := h
 exact p_skip F hg hd hr fun a' F' => k w' a' hR F'
theorem p_call (F : Fr a N L D) (hg : o.guard = none) (hd : o.dst = some d) (hN : d < N) {f : FuncId} {args : Array Value} {R : Ending → World → Prop} (hr : (execOp a.eval o).run P w = .ok (.enter f args) w) (hc : Calls P f args w R)
  (k : ∀ e w', R e w' → (∃ v, e = .returned v ∧ ∀ a', Fr a' N ((d, v) :: L) D → wpList P ops Q rest a' w') ∨ (∃ ch, e = .panicked ch ∧ ∀ a', Fr a' N L D → Q (.panic ch) a' w')) : wpList P ops Q (o :: rest) a w :=
 p_upon hg hr (hc.mono fun e w' hR => by
  rcases k e w' hR with ⟨v, rfl, hk⟩ | ⟨ch, rfl, hk⟩
  ·show wpList P ops Q rest (a.put o.dst v) w'; rw [hd]; exact hk _ (F.put v hN)
  ·exact hk _ F)
theorem p_halt (F : Fr a N L D) (hg : o.guard = none) (hr : (execOp a.eval o).run P w = .halt (.panic v) w') (k : ∀ a', Fr a' N L D → Q (.panic [{ v, recovered := false }]) a' w') : wpList P ops Q (o :: rest) a w :=
 p_upon hg hr (k _ F)
theorem thenP {K : Act → World → Prop} {ch : List PanicEntry} (h : Q (.panic ch) a w) : Exit.then K Q (.panic ch) a w := h
theorem inbP {id : Nat} {ch : List PanicEntry} (h : Q (.panic ch) a w) : Exit.inBlock id Q (.panic ch) a w := h
theorem outP {fn : Func} {R : Ending → World → Prop} {ch : List PanicEntry} (F : Fr a N L) (h : R (.panicked ch) w) : bodyPost P fn R (.panic ch) a w := ⟨F.dfr, h⟩
end
def Still (w w' : World) : Prop := w'.heap = w.heap ∧ w'.os = w.os ∧ w'.tape = w.tape ∧ w'.output = w.output
theorem Still.ev {M : Nat → Prop} {w w' : World} (h : Still w w') (c : Nat → Nat) : Ev M c w c w' := Ev.same h.1 h.2.1 h.2.2.1 h.2.2.2
theorem bounds_still {α : Type} {P : Program} (k : IntKind) (x y : Int) (code : BoundsCode) (w : World) : ∃ t u w', (boundsPanic k x y code : Sem α).run P w = .halt (.panic (.iface t u)) w' ∧ Still w w' := by
 unfold boundsPanic
 split
 ·simp only [runtimePanic, goPanic, go_sem]
  exact ⟨_, _, _, rfl, rfl, rfl, rfl, rfl⟩
 ·simp only [runtimePanic, goPanic, go_sem]
  exact ⟨_, _, _, rfl, rfl, rfl, rfl, rfl⟩
section
variable {P : Program} {a : Act} {N : Nat} {L : List (Nat × Value)} {D : List Deferred} {w w' : World} {x : Operand} {d : Option Tmp} {t e ty : TypeId} {pos : String} {af : Array Edge} {gd : Option (Nat × Bool)} {A : Option Addr} {cap n0 : Nat} {h : Halt}
theorem r_sliceH (F : Fr a N L D) {lo hi mx : Option Operand} {vl vh vm : Option Value} (hx : ev L x = some (.slice A n0 cap)) (h1 : lo.map (ev L) = vl.map some) (h2 : hi.map (ev L) = vh.map some) (h3 : mx.map (ev L) = vm.map some)
  (hr : (Instr.sliceAt t (.slice A n0 cap) vl vh vm).run P w = .halt h w') :
  (execOp a.eval { dst := d, op := .slice t x lo hi mx, type := ty, pos := pos, after := af, guard := gd }).run P w = .halt h w' := by
 have e1 : lo.map a.eval = vl := by
  cases lo <;> cases vl <;> simp at h1 ⊢; rw [F.ev h1]
 have e2 : hi.map a.eval = vh := by
  cases hi <;> cases vh <;> simp at h2 ⊢; rw [F.ev h2]
 have e3 : mx.map a.eval = vm := by
  cases mx <;> cases vm <;> simp at h3 ⊢; rw [F.ev h3]
 simp [execOp, F.ev hx, e1, e2, e3, hr]
theorem pan_nn {n : Int} (hu : P.underlying t = some (.slice e)) (g : ¬ (0 ≤ n ∧ n ≤ (cap : Int))) (w : World) :
  ∃ t1 u w', (Instr.sliceAt t (.slice A n0 cap) none (some (.int .i64 n)) (some (.int .i64 n))).run P w = .halt (.panic (.iface t1 u)) w' ∧ Still w w' := by
 obtain ⟨t1, u, w', h1, h2⟩ := bounds_still (α := Nat) (P := P) .i64 n cap .slice3Acap w
 refine ⟨t1, u, w', ?_, h2⟩
 simp [Instr.sliceAt, run_underlying hu, Instr.slice, Instr.sliceBounds, Instr.sliceBound, asIntOf, g, h1]
theorem ok_nn {n : Int} {sz : Nat} (hu : P.underlying t = some (.slice e)) (hs : ∀ w, (sizeOf e).run P w = .ok sz w) (g : 0 ≤ n ∧ n ≤ (cap : Int)) :
  ∃ v, ∀ w, (Instr.sliceAt t (.slice A n0 cap) none (some (.int .i64 n)) (some (.int .i64 n))).run P w = .ok v w := by
 obtain ⟨k, rfl⟩ := Int.eq_ofNat_of_zero_le g.1
 have g2 : k ≤ cap := by omega
 exact ⟨_, run_cut hu hs none (some (.int .i64 (k : Int))) (some (.int .i64 (k : Int))) (l := 0) (r := k) (m := k) (fun w => by simp [Instr.sliceBounds, Instr.sliceBound, asIntOf, g2])⟩
theorem pan_l {n : Int} (hu : P.underlying t = some (.slice e)) (g : ¬ (0 ≤ n ∧ n ≤ (n0 : Int))) (w : World) :
  ∃ t1 u w', (Instr.sliceAt t (.slice A n0 cap) (some (.int .i64 n)) none none).run P w = .halt (.panic (.iface t1 u)) w' ∧ Still w w' := by
 obtain ⟨t1, u, w', h1, h2⟩ := bounds_still (α := Nat) (P := P) .i64 n n0 .sliceB w
 refine ⟨t1, u, w', ?_, h2⟩
 simp [Instr.sliceAt, run_underlying hu, Instr.slice, Instr.sliceBounds, Instr.sliceBound, asIntOf, g, h1]
theorem cut_nn {α : Type} {k : K α} {own : Bool} {j i : Nat} {c : Nat → Nat} {xs : List α} {n : Int} (hu : P.underlying t = some (.slice e)) (hs : ∀ w, (sizeOf e).run P w = .ok k.sz w) (hx : SL own k j i c w A cap xs) (g : 0 ≤ n ∧ n ≤ (xs.length : Int)) :
  ∃ A' cap', (∀ w, (Instr.sliceAt t (.slice A xs.length cap) none (some (.int .i64 n)) (some (.int .i64 n))).run P w = .ok (.slice A' (xs.take n.toNat).length cap') w) ∧ SL own k j i c w A' cap' (xs.take n.toNat) := by
 have hc : xs.length ≤ cap := by obtain ⟨cs, h2, _⟩ := hx; exact h2
 obtain ⟨q, rfl⟩ := Int.eq_ofNat_of_zero_le g.1
 have g1 : q ≤ xs.length := by omega
 have hcut := hx.cut 0 q q (by omega) (by omega) (by omega) (Nat.le_refl _)
 rw [List.drop_zero] at hcut
 refine ⟨_, _, fun w => ?_, by simpa using hcut⟩
 have g2 : q ≤ cap := by omega
 rw [run_cut hu hs none (some (.int .i64 (q : Int))) (some (.int .i64 (q : Int))) (l := 0) (r := q) (m := q) (fun w => by simp [Instr.sliceBounds, Instr.sliceBound, asIntOf, g2]) w]
 simp [Nat.min_eq_left g1]
end
def RX {α : Type} (m j : Nat) (c0 : Nat → Nat) (w0 : World) (p : Option Addr) (ou : List (List Int)) (res : (List Int × Int) ⊕ (α × List Int × Int)) (ret : α → (Nat → Nat) → World → Value → Prop) (e : Ending) (w_ : World) : Prop :=
 ∃ c_, Ev (fun x => x = j) c0 w0 c_ w_ ∧ CB m c_ w_ ∧ match res with
  | .inl (l, f) => (∃ t u, e = .panicked [{ v := .iface t u, recovered := false }]) ∧ RD j c_ w_ p (some ⟨l, ou, f⟩)
  | .inr (x, l, f) => (∃ v, e = .returned v ∧ ret x c_ w_ v) ∧ RD j c_ w_ p (some ⟨l, ou, f⟩)
def retS (x : List Int) (c : Nat → Nat) (w : World) (v : Value) : Prop := ∃ A C, v = .slice A x.length C ∧ SL false (Kint .u8) 0 0 c w A C x
def rnext (l : List Int) (f n : Int) : (List Int × Int) ⊕ (List Int × List Int × Int) := if 0 ≤ n ∧ n ≤ (l.length : Int) then .inr (l.take n.toNat, l.drop n.toNat, f) else .inl (l, f)
set_option maxHeartbeats 1000000 in
theorem next_calls {m : Nat} {c0 : Nat → Nat} {w0 : World} {j : Nat} {p : Option Addr} {r : Rdr} {n : Int} (B0 : CB m c0 w0) (h : RD j c0 w0 p (some r)) (hj : 0 < j) :
  Calls Try.prog 60 #[.pointer p, .int .i64 n] w0 (RX m j c0 w0 p r.outer (rnext r.left r.fault n) retS) := by
 obtain ⟨ad, A1, C1, A2, C2, rfl, hat, hl, ho⟩ := RD.some h
 refine enter (N := 23) (l := [.pointer (some ad), .int .i64 n]) Try.func60 rfl rfl (nb rfl) fun a F => ?_
 refine sr fun K1 hK1 => ?_
 refine G.qa F fun a F => ?_
 refine nil (hK1 _ _ ?_)
 refine wp_seq_k fun K2 hK2 => ?_
 refine preg ?_
 refine p_val F rfl rfl (by decide) (r_move F rfl) fun a F => ?_
 refine p_val F rfl rfl (by decide) (r_nil F rfl) fun a F => ?_
 refine p_val F rfl rfl (by decide) (r_fieldAddr F rfl ff_103_0) fun a F => ?_
 refine p_val F rfl rfl (by decide) (r_load F rfl ag_23 (AT.cell hat rfl)) fun a F => ?_
 refine p_val F rfl rfl (by decide) (r_move F rfl) fun a F => ?_
 refine p_val F rfl rfl (by decide) (r_move F rfl) fun a F => ?_
 by_cases g : 0 ≤ n ∧ n ≤ (r.left.length : Int)
 ·obtain ⟨A3, C3, hr3, h3⟩ := cut_nn (n := n) Try.underlying23 sz_5 hl g
  refine p_val F rfl rfl (by decide) (r_slice (vl := none) (vh := some (.int .i64 n)) (vm := some (.int .i64 n)) F rfl rfl rfl rfl hr3) fun a F => ?_
  refine p_val F rfl rfl (by decide) (r_assign F rfl) fun a F => ?_
  refine pnil ?_
  refine hK2 _ _ ?_
  refine sr fun K3 hK3 => ?_
  refine G.qm F fun a F => ?_
  refine G.qm F fun a F => ?_
  refine G.qv F (r_nil F rfl) fun a F => ?_
  refine G.qv F (r_fieldAddr F rfl ff_103_0) fun a F => ?_
  refine G.qv F (r_load F rfl ag_23 (AT.cell hat rfl)) fun a F => ?_
  refine G.qm F fun a F => ?_
  obtain ⟨A4, C4, hr4, h4⟩ := cut_l (kl := .i64) (l := n) Try.underlying23 sz_5 hl g
  refine G.qv F (r_slice (vl := some (.int .i64 n)) (vh := none) (vm := none) F rfl rfl rfl rfl hr4) fun a F => ?_
  refine G.qv F (r_nil F rfl) fun a F => ?_
  refine G.qv F (r_fieldAddr F rfl ff_103_0) fun a F => ?_
  refine q_eff0 F rfl rfl (e_store F rfl rfl sz_23 hat (by simp) rfl) ?_
  rintro w1 a ⟨E1, hat1, hz⟩ F
  refine nil (hK3 _ _ ?_)
  refine sr fun K4 hK4 => ?_
  refine G.qm F fun a F => ?_
  refine G.qa F fun a F => ?_
  refine nil (hK4 _ _ ?_)
  refine wp_ret ?_
  refine out1 F rfl rfl ?_
  have n0 : ¬ ((0 : Nat) = j) := by omega
  refine ⟨c0, E1, B0.size hz, ?_⟩
  unfold rnext
  rw [if_pos g]
  exact ⟨⟨_, rfl, A3, C3, rfl, h3.ev E1 n0 n0⟩, RD.mk hat1 (h4.ev E1 n0 n0) (ho.ev E1 n0 n0)⟩
 ·have fin : ∀ (w' : World) (t : TypeId) (u : Value), Still w0 w' → RX m j c0 w0 (some ad) r.outer (rnext r.left r.fault n) retS (.panicked [{ v := .iface t u, recovered := false }]) w' := by
   intro w' t u hS
   refine ⟨c0, hS.ev c0, B0.same hS.1, ?_⟩
   unfold rnext
   rw [if_neg g]
   exact ⟨⟨t, u, rfl⟩, h.ev (hS.ev (M := No) c0) (fun q => q) (fun q => q)⟩
  by_cases g2 : 0 ≤ n ∧ n ≤ (C1 : Int)
  ·obtain ⟨v, hv⟩ := ok_nn (P := Try.prog) (A := A1) (n0 := r.left.length) Try.underlying23 sz_5 g2
   refine p_val F rfl rfl (by decide) (r_slice (xs := r.left) (vl := none) (vh := some (.int .i64 n)) (vm := some (.int .i64 n)) F rfl rfl rfl rfl hv) fun a F => ?_
   refine p_val F rfl rfl (by decide) (r_assign F rfl) fun a F => ?_
   refine pnil ?_
   refine hK2 _ _ ?_
   refine wp_seq_k fun K3 hK3 => ?_
   refine preg ?_
   refine p_val F rfl rfl (by decide) (r_move F rfl) fun a F => ?_
   refine p_val F rfl rfl (by decide) (r_move F rfl) fun a F => ?_
   refine p_val F rfl rfl (by decide) (r_nil F rfl) fun a F => ?_
   refine p_val F rfl rfl (by decide) (r_fieldAddr F rfl ff_103_0) fun a F => ?_
   refine p_val F rfl rfl (by decide) (r_load F rfl ag_23 (AT.cell hat rfl)) fun a F => ?_
   refine p_val F rfl rfl (by decide) (r_move F rfl) fun a F => ?_
   obtain ⟨t1, u, w', hr, hS⟩ := pan_l (P := Try.prog) (A := A1) (cap := C1) (n0 := r.left.length) (n := n) Try.underlying23 g w0
   refine p_halt F rfl (r_sliceH (vl := some (.int .i64 n)) (vh := none) (vm := none) F rfl rfl rfl rfl hr) fun a F => ?_
   repeat (refine thenP ?_)
   exact outP F (fin w' t1 u hS)
  ·obtain ⟨t1, u, w', hr, hS⟩ := pan_nn (P := Try.prog) (A := A1) (n0 := r.left.length) (n := n) Try.underlying23 g2 w0
   refine p_halt F rfl (r_sliceH (vl := none) (vh := some (.int .i64 n)) (vm := some (.int .i64 n)) F rfl rfl rfl rfl hr) fun a F => ?_
   repeat (refine thenP ?_)
   exact outP F (fin w' t1 u hS)
theorem sl_one {c : Nat → Nat} {w : World} {A : Option Addr} {C : Nat} {x : Int} (h : SL false (Kint .u8) 0 0 c w A C [x]) : ∃ q, A = some q ∧ w.cell? (q.add 0) = some (.int .u8 x) := by
 obtain ⟨q, cs, hA, hat, hr⟩ := h.at 0 (by omega) (by simp)
 refine ⟨q, hA, ?_⟩
 have hr' : cs = [.int .u8 x] := hr
 subst hr'
 have := hat.cell (n := 0) rfl
 simpa [Addr.add] using this
def retI (k : IntKind) (x : Int) (c : Nat → Nat) (w : World) (v : Value) : Prop := v = .int k x
set_option maxHeartbeats 2000000 in
theorem num_calls {m : Nat} {c0 : Nat → Nat} {w0 : World} {j : Nat} {p : Option Addr} {r : Rdr} (B0 : CB m c0 w0) (h : RD j c0 w0 p (some r)) (hj : 0 < j) :
  Calls Try.prog 55 #[.pointer p] w0 (RX m j c0 w0 p r.outer (rnum r.fault r.left 0 0) (retI .u64)) := by
 refine enter (N := 41) (l := [.pointer p]) Try.func55 rfl rfl (nb rfl) fun a F => ?_
 refine sr fun K1 hK1 => ?_
 refine G.qa F fun a F => ?_
 refine nil (hK1 _ _ ?_)
 refine sr fun K2 hK2 => ?_
 refine G.qa F fun a F => ?_
 refine nil (hK2 _ _ ?_)
 refine sr fun K3 hK3 => ?_
 refine G.qa F fun a F => ?_
 refine nil (hK3 _ _ ?_)
 refine wp_block ?_
 refine loop_fuel (I := fun q a w => ∃ (xs : List Int) (i : Nat) (n : Int) (c : Nat → Nat), q = xs.length ∧ i ≤ 9 ∧ Fr a 41 [(0, .pointer p), (3, .int .u64 n), (4, .int .i64 i)] ∧ Ev (fun x => x = j) c0 w0 c w ∧ CB m c w ∧ RD j c w p (some ⟨xs, r.outer, r.fault⟩) ∧ rnum r.fault xs i n = rnum r.fault r.left 0 0) (k := r.left.length)
  ⟨r.left, 0, 0, c0, rfl, by omega, F.sub ⟨rfl, rfl, rfl, trivial⟩, Ev.refl, B0, h, rfl⟩ ?_
 clear F
 intro q X hX a w ⟨xs, i, n, c, hq, hi, F, E, B, hR, hres⟩
 subst hq
 refine wp_seq_k fun K4 hK4 => ?_
 refine wp_block ?_
 refine wp_seq_k fun K5 hK5 => ?_
 refine preg ?_
 refine p_val F rfl rfl (by decide) (r_move F rfl) fun a F => ?_
 refine p_call F rfl rfl (by decide) (r_call (vs := [.pointer p, .int .i64 1]) F Try.func60 rfl rfl rfl) (next_calls B hR hj) ?_
 rintro e w1 ⟨c1, E1, B1, hx⟩
 cases xs with
 | nil =>
  right
  have e0 : rnext ([] : List Int) r.fault 1 = .inl ([], r.fault) := rfl
  rw [show (⟨[], r.outer, r.fault⟩ : Rdr).left = [] from rfl, show (⟨[], r.outer, r.fault⟩ : Rdr).fault = r.fault from rfl, e0] at hx
  obtain ⟨⟨t, u, rfl⟩, hR1⟩ := hx
  refine ⟨_, rfl, fun a F => ?_⟩
  repeat (first | refine thenP ?_ | refine inbP ?_)
  refine outP (F.sub (L' := []) trivial) ?_
  refine ⟨c1, E.trans E1 (fun _ q => q), B1, ?_⟩
  rw [← hres]
  exact ⟨⟨t, u, rfl⟩, hR1⟩
 | cons x xs =>
  left
  have e0 : rnext (x :: xs) r.fault 1 = .inr ([x], xs, r.fault) := by
   unfold rnext; rw [if_pos (by simp; omega)]; rfl
  rw [show (⟨x :: xs, r.outer, r.fault⟩ : Rdr).left = x :: xs from rfl, show (⟨x :: xs, r.outer, r.fault⟩ : Rdr).fault = r.fault from rfl, e0] at hx
  obtain ⟨⟨v, rfl, A, C, rfl, hs⟩, hR1⟩ := hx
  obtain ⟨qa, rfl, hcell⟩ := sl_one hs
  refine ⟨_, rfl, fun a F => ?_⟩
  have E := E.trans E1 (fun _ q => q)
  refine p_val F rfl rfl (by decide) (r_indexAddr F Try.underlying23 sz_5 rfl rfl (by omega) (by simp)) fun a F => ?_
  refine p_val F rfl rfl (by decide) (r_load F rfl ag_5 hcell) fun a F => ?_
  refine p_val F rfl rfl (by decide) (r_assign F rfl) fun a F => ?_
  refine pnil ?_
  refine hK5 _ _ ?_
  have hi9 : ((i : Int) = 9) = (i = 9) := by simp; omega
  have hi0 : (0 < (i : Int)) = (0 < i) := by simp
  refine wp_seq_k fun K6 hK6 => ?_
  refine wp_seq_k fun K7 hK7 => ?_
  have bad : ∀ a, Fr a 41 [(0, .pointer p), (25, .bool true)] → ((i = 9 ∧ 1 < x) ∨ (0 < i ∧ x = 0)) → K7 a w1 := by
   intro a F hc
   refine hK7 _ _ ?_
   refine wp_cond_true (F.ev rfl) ?_
   obtain ⟨ad, A1, C1, A2, C2, rfl, hat, hl, ho⟩ := RD.some hR1
   refine sr fun K8 hK8 => ?_
   refine G.qm F fun a F => ?_
   refine G.qv F (r_nil F rfl) fun a F => ?_
   refine G.qv F (r_fieldAddr F rfl ff_103_2) fun a F => ?_
   refine q_eff0 F rfl rfl (e_store F rfl rfl sz_34 hat (by simp) rfl) ?_
   rintro w2 a ⟨E2, hat2, hz⟩ F
   refine nil (hK8 _ _ ?_)
   refine sr fun K9 hK9 => ?_
   refine G.qa F fun a F => ?_
   refine nil (hK9 _ _ ?_)
   refine wp_ret ?_
   repeat (first | refine thenR ?_ | refine inbR ?_)
   refine out1 F rfl rfl ?_
   have n0 : ¬ ((0 : Nat) = j) := by omega
   refine ⟨c1, E.trans E2 (fun _ q => q), B1.size hz, ?_⟩
   rw [← hres]
   unfold rnum
   rw [if_pos hc]
   exact ⟨⟨_, rfl, rfl⟩, RD.mk (t := ⟨xs, r.outer, 11⟩) hat2 (hl.ev E2 n0 n0) (ho.ev E2 n0 n0)⟩
  have good : ∀ a, Fr a 41 [(0, .pointer p), (3, .int .u64 n), (4, .int .i64 i), (5, .int .u8 x), (25, .bool false)] → ¬ ((i = 9 ∧ 1 < x) ∨ (0 < i ∧ x = 0)) → K7 a w1 := by
   intro a F hc
   refine hK7 _ _ ?_
   refine wp_cond_false (F.ev rfl) ?_
   refine wp_skip ?_
   refine hK6 _ _ ?_
   refine sr fun K8 hK8 => ?_
   refine G.qm F fun a F => ?_
   refine G.qm F fun a F => ?_
   refine G.qv F (r_and F rfl rfl) fun a F => ?_
   refine G.qv F (r_convi F Try.underlying71 (by kernel_rfl) rfl) fun a F => ?_
   refine G.qm F fun a F => ?_
   refine G.qv F (r_mul F rfl rfl) fun a F => ?_
   refine G.qv F (r_convi F Try.underlying111 (by kernel_rfl) rfl) fun a F => ?_
   have hw : IntKind.u64.wrap (IntKind.i64.wrap (7 * (i : Int))) = 7 * (i : Int) := by
    simp only [IntKind.wrap, IntKind.bits, IntKind.signed]; simp; omega
   rw [hw] at F
   refine G.qv F (r_shl F rfl rfl (by omega)) fun a F => ?_
   refine G.qv F (r_or F rfl rfl) fun a F => ?_
   refine G.qa F fun a F => ?_
   refine nil (hK8 _ _ ?_)
   refine sr fun K9 hK9 => ?_
   refine G.qm F fun a F => ?_
   refine G.qv F (r_lss F rfl rfl) fun a F => ?_
   refine nil (hK9 _ _ ?_)
   by_cases hb : x < 128
   ·refine wp_cond_true ((F.ev rfl).trans (congrArg Value.bool (decide_eq_true hb))) ?_
    refine sr fun K10 hK10 => ?_
    refine G.qm F fun a F => ?_
    refine G.qa F fun a F => ?_
    refine nil (hK10 _ _ ?_)
    refine wp_ret ?_
    repeat (first | refine thenR ?_ | refine inbR ?_)
    refine out1 F rfl rfl ?_
    refine ⟨c1, E, B1, ?_⟩
    rw [← hres]
    unfold rnum
    rw [if_neg hc, if_pos hb]
    exact ⟨⟨_, rfl, rfl⟩, hR1⟩
   ·refine wp_cond_false ((F.ev rfl).trans (congrArg Value.bool (decide_eq_false hb))) ?_
    refine wp_skip ?_
    repeat (first | refine inbN ?_ | refine hK4 _ _ ?_)
    refine reg ?_
    refine G.qm F fun a F => ?_
    refine G.qv F (r_add F rfl rfl) fun a F => ?_
    refine G.qa F fun a F => ?_
    refine nil ?_
    have hw1 : IntKind.i64.wrap ((i : Int) + 1) = ((i + 1 : Nat) : Int) := by
     simp only [IntKind.wrap_i64]; omega
    rw [hw1] at F
    refine hX xs.length _ _ (by simp) ⟨xs, i + 1, _, c1, rfl, ?_, F.sub ⟨rfl, rfl, rfl, trivial⟩, E, B1, hR1, ?_⟩
    ·have : i ≠ 9 := fun e => hb (by have : ¬ (1 < x) := fun q => hc (Or.inl ⟨e, q⟩); omega)
     omega
    ·rw [← hres]
     conv => rhs; unfold rnum
     rw [if_neg hc, if_neg hb]
  refine reg ?_
  refine G.qm F fun a F => ?_
  refine G.qv F (r_eql F rfl rfl) fun a F => ?_
  refine G.qm F fun a F => ?_
  by_cases b9 : i = 9
  ·have b9' : (i : Int) = 9 := by omega
   refine q_yes F rfl (by decide) rfl (decide_eq_true b9') ?_
   refine G.qm F fun a F => ?_
   refine q_yes F rfl (by decide) rfl (decide_eq_true b9') ?_
   refine G.qv F (r_gtr F rfl rfl) fun a F => ?_
   refine G.qv F (r_pick_t F rfl (decide_eq_true b9') rfl) fun a F => ?_
   refine G.qm F fun a F => ?_
   by_cases b1 : 1 < x
   ·refine q_no F rfl (by decide) rfl (decide_eq_true b1) (by decide) fun a F => ?_
    refine q_no F rfl (by decide) rfl (decide_eq_true b1) (by decide) fun a F => ?_
    refine q_no F rfl (by decide) rfl (decide_eq_true b1) (by decide) fun a F => ?_
    refine q_nu F rfl (by decide) rfl (by decide) fun a F => ?_
    refine q_nu F rfl (by decide) rfl (by decide) fun a F => ?_
    refine q_no F rfl (by decide) rfl (decide_eq_true b1) (by decide) fun a F => ?_
    refine G.qv F (r_pick_t F rfl (decide_eq_true b1) rfl) fun a F => ?_
    refine nil ?_
    exact bad a (F.sub ⟨rfl, rfl, trivial⟩) (Or.inl ⟨b9, b1⟩)
   ·refine q_yes F rfl (by decide) rfl (decide_eq_false b1) ?_
    refine G.qm F fun a F => ?_
    refine q_yes F rfl (by decide) rfl (decide_eq_false b1) ?_
    refine G.qv F (r_gtr F rfl rfl) fun a F => ?_
    refine q_yes F rfl (by decide) rfl (decide_eq_false b1) ?_
    refine G.qm F fun a F => ?_
    have b0 : 0 < (i : Int) := by omega
    refine q_yes F rfl (by decide) rfl (decide_eq_true b0) ?_
    refine G.qm F fun a F => ?_
    refine q_yes F rfl (by decide) rfl (decide_eq_true b0) ?_
    refine G.qv F (r_eql F rfl rfl) fun a F => ?_
    refine q_yes F rfl (by decide) rfl (decide_eq_false b1) ?_
    refine G.qv F (r_pick_t F rfl (decide_eq_true b0) rfl) fun a F => ?_
    refine G.qv F (r_pick_f F rfl (decide_eq_false b1) rfl) fun a F => ?_
    refine nil ?_
    by_cases bz : x = 0
    ·rw [decide_eq_true bz] at F
     exact bad a (F.sub ⟨rfl, rfl, trivial⟩) (Or.inr ⟨by omega, bz⟩)
    ·rw [decide_eq_false bz] at F
     exact good a (F.sub ⟨rfl, rfl, rfl, rfl, rfl, trivial⟩) (by rintro (⟨_, q⟩ | ⟨_, q⟩); exact b1 q; exact bz q)
  ·have b9' : ¬ (i : Int) = 9 := by omega
   refine q_no F rfl (by decide) rfl (decide_eq_false b9') (by decide) fun a F => ?_
   refine q_no F rfl (by decide) rfl (decide_eq_false b9') (by decide) fun a F => ?_
   refine G.qv F (r_pick_f F rfl (decide_eq_false b9') rfl) fun a F => ?_
   refine G.qm F fun a F => ?_
   refine q_yes F rfl (by decide) rfl rfl ?_
   refine G.qm F fun a F => ?_
   refine q_yes F rfl (by decide) rfl rfl ?_
   refine G.qv F (r_gtr F rfl rfl) fun a F => ?_
   refine q_yes F rfl (by decide) rfl rfl ?_
   refine G.qm F fun a F => ?_
   by_cases b0 : 0 < (i : Int)
   ·refine q_yes F rfl (by decide) rfl (decide_eq_true b0) ?_
    refine G.qm F fun a F => ?_
    refine q_yes F rfl (by decide) rfl (decide_eq_true b0) ?_
    refine G.qv F (r_eql F rfl rfl) fun a F => ?_
    refine q_yes F rfl (by decide) rfl rfl ?_
    refine G.qv F (r_pick_t F rfl (decide_eq_true b0) rfl) fun a F => ?_
    refine G.qv F (r_pick_f F rfl rfl rfl) fun a F => ?_
    refine nil ?_
    by_cases bz : x = 0
    ·rw [decide_eq_true bz] at F
     exact bad a (F.sub ⟨rfl, rfl, trivial⟩) (Or.inr ⟨by omega, bz⟩)
    ·rw [decide_eq_false bz] at F
     exact good a (F.sub ⟨rfl, rfl, rfl, rfl, rfl, trivial⟩) (by rintro (⟨q, _⟩ | ⟨_, q⟩); exact b9 q; exact bz q)
   ·refine q_no F rfl (by decide) rfl (decide_eq_false b0) (by decide) fun a F => ?_
    refine q_no F rfl (by decide) rfl (decide_eq_false b0) (by decide) fun a F => ?_
    refine q_yes F rfl (by decide) rfl rfl ?_
    refine G.qv F (r_pick_f F rfl (decide_eq_false b0) rfl) fun a F => ?_
    refine G.qv F (r_pick_f F rfl rfl rfl) fun a F => ?_
    refine nil ?_
    exact good a (F.sub ⟨rfl, rfl, rfl, rfl, rfl, trivial⟩) (by rintro (⟨q, _⟩ | ⟨q, _⟩); exact b9 q; omega)
set_option maxHeartbeats 2000000 in
theorem size_calls {m : Nat} {c0 : Nat → Nat} {w0 : World} {j : Nat} {p : Option Addr} {r : Rdr} {most : Int} (B0 : CB m c0 w0) (h : RD j c0 w0 p (some r)) (hj : 0 < j) :
  Calls Try.prog 58 #[.pointer p, .int .u64 most] w0 (RX m j c0 w0 p r.outer (rsize r.left r.fault most) (retI .i64)) := by
 refine enter (N := 39) (l := [.pointer p, .int .u64 most]) Try.func58 rfl rfl (nb rfl) fun a F => ?_
 refine sr fun K1 hK1 => ?_
 refine G.qa F fun a F => ?_
 refine nil (hK1 _ _ ?_)
 refine wp_seq_k fun K2 hK2 => ?_
 refine preg ?_
 refine p_val F rfl rfl (by decide) (r_move F rfl) fun a F => ?_
 refine p_call F rfl rfl (by decide) (r_call (vs := [.pointer p]) F Try.func55 rfl rfl rfl) (num_calls B0 h hj) ?_
 rintro e w1 ⟨c1, E, B, hx⟩
 generalize hn : rnum r.fault r.left 0 0 = res at hx
 match res with
 | .inl (l, f) =>
  right
  obtain ⟨⟨t, u, rfl⟩, hR1⟩ := hx
  refine ⟨_, rfl, fun a F => ?_⟩
  repeat (first | refine thenP ?_ | refine inbP ?_)
  refine outP (F.sub (L' := []) trivial) ?_
  refine ⟨c1, E, B, ?_⟩
  rw [show rsize r.left r.fault most = .inl (l, f) from by unfold rsize; rw [hn]]
  exact ⟨⟨t, u, rfl⟩, hR1⟩
 | .inr (n, l, f) =>
  left
  obtain ⟨⟨v, rfl, hv⟩, hR1⟩ := hx
  have hv : v = .int .u64 n := hv
  subst hv
  refine ⟨_, rfl, fun a F => ?_⟩
  refine p_val F rfl rfl (by decide) (r_assign F rfl) fun a F => ?_
  refine pnil ?_
  refine hK2 _ _ ?_
  have hlm : l.length ≤ maxLen := by
   obtain ⟨ad, A1, C1, A2, C2, rfl, hat, hl, ho⟩ := RD.some hR1
   exact hl.lenB
  obtain ⟨ad, A1, C1, A2, C2, rfl, hat, hl, ho⟩ := RD.some hR1
  have n0 : ¬ ((0 : Nat) = j) := by omega
  refine wp_seq_k fun K3 hK3 => ?_
  refine sr fun K4 hK4 => ?_
  refine G.qm F fun a F => ?_
  refine G.qv F (r_nil F rfl) fun a F => ?_
  refine G.qv F (r_fieldAddr F rfl ff_103_2) fun a F => ?_
  refine G.qv F (r_load F rfl ag_34 (AT.cell hat rfl)) fun a F => ?_
  refine G.qv F (r_eql F rfl rfl) fun a F => ?_
  refine G.qm F fun a F => ?_
  have out : ∀ (a : Act) (w2 : World) (l : List Int) (f : Int), Fr a 39 [(4, .int .i64 0)] → f ≠ 0 → RX m j c0 w0 (some ad) r.outer (.inr (0, l, f)) (retI .i64) (.returned (.int .i64 0)) w2 → True := fun _ _ _ _ _ _ _ => trivial
  by_cases hf : f = 0
  ·subst hf
   refine q_yes F rfl (by decide) rfl (decide_eq_true rfl) ?_
   refine G.qm F fun a F => ?_
   refine q_yes F rfl (by decide) rfl (decide_eq_true rfl) ?_
   refine G.qm F fun a F => ?_
   refine q_yes F rfl (by decide) rfl (decide_eq_true rfl) ?_
   refine G.qv F (r_gtr F rfl rfl) fun a F => ?_
   refine G.qv F (r_pick_t F rfl (decide_eq_true rfl) rfl) fun a F => ?_
   refine nil (hK4 _ _ ?_)
   by_cases hm : most < n
   ·refine wp_cond_true ((F.ev rfl).trans (congrArg Value.bool (decide_eq_true hm))) ?_
    refine reg ?_
    refine G.qm F fun a F => ?_
    refine G.qv F (r_nil F rfl) fun a F => ?_
    refine G.qv F (r_fieldAddr F rfl ff_103_2) fun a F => ?_
    refine q_eff0 F rfl rfl (e_store F rfl rfl sz_34 hat (by simp) rfl) ?_
    rintro w2 a ⟨E2, hat2, hz⟩ F
    refine nil (hK3 _ _ ?_)
    refine wp_seq_k fun K5 hK5 => ?_
    refine sr fun K6 hK6 => ?_
    refine G.qm F fun a F => ?_
    refine G.qv F (r_nil F rfl) fun a F => ?_
    refine G.qv F (r_fieldAddr F rfl ff_103_2) fun a F => ?_
    refine G.qv F (r_load F rfl ag_34 (AT.cell hat2 rfl)) fun a F => ?_
    refine G.qv F (r_neq F rfl rfl) fun a F => ?_
    refine nil (hK6 _ _ ?_)
    refine wp_cond_true (F.ev rfl) ?_
    refine sr fun K7 hK7 => ?_
    refine G.qa F fun a F => ?_
    refine nil (hK7 _ _ ?_)
    refine wp_ret ?_
    repeat (first | refine thenR ?_ | refine inbR ?_)
    refine out1 F rfl rfl ?_
    refine ⟨c1, E.trans E2 (fun _ q => q), B.size hz, ?_⟩
    rw [show rsize r.left r.fault most = .inr (0, l, 11) from by unfold rsize; rw [hn]; simp [hm]]
    exact ⟨⟨_, rfl, rfl⟩, RD.mk (t := ⟨l, r.outer, 11⟩) hat2 (hl.ev E2 n0 n0) (ho.ev E2 n0 n0)⟩
   ·refine wp_cond_false ((F.ev rfl).trans (congrArg Value.bool (decide_eq_false hm))) ?_
    refine wp_skip ?_
    refine hK3 _ _ ?_
    refine wp_seq_k fun K5 hK5 => ?_
    refine sr fun K6 hK6 => ?_
    refine G.qm F fun a F => ?_
    refine G.qv F (r_nil F rfl) fun a F => ?_
    refine G.qv F (r_fieldAddr F rfl ff_103_2) fun a F => ?_
    refine G.qv F (r_load F rfl ag_34 (AT.cell hat rfl)) fun a F => ?_
    refine G.qv F (r_neq F rfl rfl) fun a F => ?_
    refine nil (hK6 _ _ ?_)
    refine wp_cond_false (F.ev rfl) ?_
    refine wp_skip ?_
    refine hK5 _ _ ?_
    refine wp_seq_k fun K7 hK7 => ?_
    refine sr fun K8 hK8 => ?_
    refine G.qm F fun a F => ?_
    refine G.qm F fun a F => ?_
    refine G.qv F (r_nil F rfl) fun a F => ?_
    refine G.qv F (r_fieldAddr F rfl ff_103_0) fun a F => ?_
    refine G.qv F (r_load F rfl ag_23 (AT.cell hat rfl)) fun a F => ?_
    refine G.qv F (r_lensl F Try.underlying23 rfl) fun a F => ?_
    refine G.qv F (r_convi F Try.underlying71 (by kernel_rfl) rfl) fun a F => ?_
    have hw : IntKind.u64.wrap (l.length : Int) = (l.length : Int) := by
     unfold maxLen at hlm
     simp only [IntKind.wrap, IntKind.bits, IntKind.signed]; simp; omega
    rw [show ((⟨l, r.outer, 0⟩ : Rdr).left.length : Int) = (l.length : Int) from rfl, hw] at F
    refine G.qv F (r_gtr F rfl rfl) fun a F => ?_
    refine nil (hK8 _ _ ?_)
    by_cases hg : (l.length : Int) < n
    ·refine wp_cond_true ((F.ev rfl).trans (congrArg Value.bool (decide_eq_true hg))) ?_
     refine sr fun K9 hK9 => ?_
     refine G.qm F fun a F => ?_
     refine G.qv F (r_nil F rfl) fun a F => ?_
     refine G.qv F (r_fieldAddr F rfl ff_103_2) fun a F => ?_
     refine q_eff0 F rfl rfl (e_store F rfl rfl sz_34 hat (by simp) rfl) ?_
     rintro w2 a ⟨E2, hat2, hz⟩ F
     refine nil (hK9 _ _ ?_)
     refine sr fun K10 hK10 => ?_
     refine G.qa F fun a F => ?_
     refine nil (hK10 _ _ ?_)
     refine wp_ret ?_
     repeat (first | refine thenR ?_ | refine inbR ?_)
     refine out1 F rfl rfl ?_
     refine ⟨c1, E.trans E2 (fun _ q => q), B.size hz, ?_⟩
     rw [show rsize r.left r.fault most = .inr (0, l, 10) from by unfold rsize; rw [hn]; simp [hm, hg]]
     exact ⟨⟨_, rfl, rfl⟩, RD.mk (t := ⟨l, r.outer, 10⟩) hat2 (hl.ev E2 n0 n0) (ho.ev E2 n0 n0)⟩
    ·refine wp_cond_false ((F.ev rfl).trans (congrArg Value.bool (decide_eq_false hg))) ?_
     refine wp_skip ?_
     refine hK7 _ _ ?_
     refine sr fun K9 hK9 => ?_
     refine G.qm F fun a F => ?_
     refine G.qv F (r_convi F Try.underlying3 (by kernel_rfl) rfl) fun a F => ?_
     refine G.qa F fun a F => ?_
     refine nil (hK9 _ _ ?_)
     refine wp_ret ?_
     repeat (first | refine thenR ?_ | refine inbR ?_)
     refine out1 F rfl rfl ?_
     refine ⟨c1, E, B, ?_⟩
     rw [show rsize r.left r.fault most = .inr (IntKind.i64.wrap n, l, 0) from by unfold rsize; rw [hn]; simp [hm, hg]]
     exact ⟨⟨_, rfl, rfl⟩, RD.mk (t := ⟨l, r.outer, 0⟩) hat hl ho⟩
  ·refine q_no F rfl (by decide) rfl (decide_eq_false hf) (by decide) fun a F => ?_
   refine q_no F rfl (by decide) rfl (decide_eq_false hf) (by decide) fun a F => ?_
   refine q_no F rfl (by decide) rfl (decide_eq_false hf) (by decide) fun a F => ?_
   refine G.qv F (r_pick_f F rfl (decide_eq_false hf) rfl) fun a F => ?_
   refine nil (hK4 _ _ ?_)
   refine wp_cond_false (F.ev rfl) ?_
   refine wp_skip ?_
   refine hK3 _ _ ?_
   refine wp_seq_k fun K5 hK5 => ?_
   refine sr fun K6 hK6 => ?_
   refine G.qm F fun a F => ?_
   refine G.qv F (r_nil F rfl) fun a F => ?_
   refine G.qv F (r_fieldAddr F rfl ff_103_2) fun a F => ?_
   refine G.qv F (r_load F rfl ag_34 (AT.cell hat rfl)) fun a F => ?_
   refine G.qv F (r_neq F rfl rfl) fun a F => ?_
   refine nil (hK6 _ _ ?_)
   refine wp_cond_true ((F.ev rfl).trans (congrArg Value.bool (congrArg not (decide_eq_false hf)))) ?_
   refine sr fun K7 hK7 => ?_
   refine G.qa F fun a F => ?_
   refine nil (hK7 _ _ ?_)
   refine wp_ret ?_
   repeat (first | refine thenR ?_ | refine inbR ?_)
   refine out1 F rfl rfl ?_
   refine ⟨c1, E, B, ?_⟩
   rw [show rsize r.left r.fault most = .inr (0, l, f) from by unfold rsize; rw [hn]; simp [hf]]
   exact ⟨⟨_, rfl, rfl⟩, RD.mk (t := ⟨l, r.outer, f⟩) hat hl ho⟩
end Go.Proofs.Ytoaldfpngihhcaa.G
namespace Go.Proofs.Ytoaldfpngihhcaa.G
open Go Go.RowKit
set_option linter.unusedVariables false
set_option linter.unusedSimpArgs false
set_option maxRecDepth 100000
set_option maxHeartbeats 40000000
theorem parcel_copied.calls {m : Nat} {c0 : Nat → Nat} {w0 : World} {A2 : Option Addr} {C3 : Nat} {a1 : List Int} (hm0 : 0 < m) (B0 : CB m c0 w0) (h4 : SL false (Kint .u8) 0 0 c0 w0 A2 C3 a1) (jr27 : Nat) (bjr27 : jr27 < m) (r : (List Int)) (H : parcel_copied.f a1 = some r) : Calls Try.prog 59 #[.slice A2 a1.length C3] w0 (fun e w_ => ∃ (c_ : Nat → Nat) (A0_ : Option Addr) (C0_ : Nat), e = .returned (.slice A0_ r.length C0_) ∧ Ev (fun x => False) c0 w0 c_ w_ ∧ CB m c_ w_ ∧ SL true (Kint .u8) jr27 0 c_ w_ A0_ C0_ r) := by
 unfold parcel_copied.f at H; have B := B0.mono (show m ≤ m + 2 by omega); have E : Ev (fun x => False ∨ m ≤ x) c0 w0 c0 w0 := Ev.refl; refine enter (N := 11) (l := [.slice A2 a1.length C3]) Try.func59 rfl rfl (nb rfl) fun a F => ?_; refine sr fun K5 hK5 => qa F fun a F => nil (hK5 _ _ ?_); refine sq fun K6 hK6 => ?_; refine sr fun K7 hK7 => qm F fun a F => ?_; refine qv F (r_lensl F Try.underlying23 rfl) fun a F => ?_; refine qv F (r_eql F rfl rfl) fun a F => ?_; refine nil (hK7 _ _ ?_)
 by_cases hb8 : (a1.length : Int) = 0
 ·replace H := ip hb8 H; refine wct (fb F (dt hb8)) ?_; refine sr fun K9 hK9 => qa F fun a F => nil (hK9 _ _ ?_); refine wp_ret ?_; refine thenR ?_; obtain rfl := si H; refine out1 F rfl rfl ?_; exact ⟨cf (fun x_ => if x_ = m + 1 then jr27 else if x_ < m then x_ else 0) c0, none, 0, rfl, E.lv B0, cfb, SL.nil⟩
 replace H := im hb8 H; refine wcf (fb F (dz hb8)) (wp_skip (hK6 _ _ ?_)); refine sr fun K10 hK10 => qm F fun a F => ?_; refine qv F (r_lensl F Try.underlying23 rfl) fun a F => ?_; replace H := ifN H; obtain ⟨g11, H⟩ := H; refine q_eff F rfl rfl (by decide) (e_make (k := (Kint .u8)) (x0 := 0) F et_23 rfl rfl (fun _ _ _ => rfl) (by decide) g11 c0 (m + 1) 0) ?_; rintro v w13 a ⟨c12, A14, C15, rfl, E16, h17, B18⟩ F; replace B := B18 _ B lm; replace h4 := h4.ev E16; replace E := E.n E16; refine qm F fun a F => ?_; replace H := ifN H; obtain ⟨g19, H⟩ := H; refine q_eff F rfl rfl (by decide) (e_append (k := (Kint .u8)) (xs := (List.replicate (0 : Int).toNat (0 : Int))) (ys := a1) (c := c12) (j := (m + 1)) (i := 0) F et_23 rfl rfl h17 h4 g19 (len_ok g19) ne_zm) ?_; rintro v w21 a ⟨c20, A22, C23, rfl, E24, h25, B26⟩ F; replace B := B26 _ B lm; replace E := E.trans E24 lc1; refine qa F fun a F => nil (hK10 _ _ ?_); replace F : Fr a 11 [(2, .slice A22 ((List.replicate (0 : Int).toNat (0 : Int)) ++ a1).length C23)] := F.sub ⟨rfl, trivial⟩; refine wp_ret ?_; obtain rfl := si H; refine out1 F rfl rfl ?_; exact ⟨cf (fun x_ => if x_ = m + 1 then jr27 else if x_ < m then x_ else 0) c20, A22, C23, rfl, E.lv B0, cfb, SL.rc h25 cfk cfk⟩
end Go.Proofs.Ytoaldfpngihhcaa.G
namespace Go.Proofs.Ytoaldfpngihhcaa.G
open Go Go.RowKit
set_option linter.unusedVariables false
set_option linter.unusedSimpArgs false
theorem lag_rd : ∀ w, (isAgg 78).run Try.prog w = .ok false w := fun _ => by kernel_rfl
theorem lag_int : ∀ w, (isAgg 3).run Try.prog w = .ok false w := fun _ => by kernel_rfl
theorem lag_u64 : ∀ w, (isAgg 71).run Try.prog w = .ok false w := fun _ => by kernel_rfl
theorem lag_bytes : ∀ w, (isAgg 23).run Try.prog w = .ok false w := fun _ => by kernel_rfl
theorem lsz_u64 : ∀ w, (sizeOf 71).run Try.prog w = .ok 1 w := fun _ => by kernel_rfl
theorem lsz_bytes : ∀ w, (sizeOf 23).run Try.prog w = .ok 1 w := fun _ => by kernel_rfl
theorem lzv_u64 : ∀ w, (zeroValue 71).run Try.prog w = .ok (.int .u64 0) w := fun _ => by kernel_rfl
theorem lzv_bytes : ∀ w, (zeroValue 23).run Try.prog w = .ok (.slice none 0 0) w := fun _ => by kernel_rfl
theorem copied_eq {x : List Int} (h : x.length ≤ 140737488355328) : parcel_copied.f x = some x := by
 unfold parcel_copied.f
 by_cases c : x = []
 ·subst c; rfl
 ·have hp : x.length ≠ 0 := fun q => c (List.length_eq_zero_iff.1 q)
  rw [if_neg (by omega), if_pos (by omega), if_pos (by simp; omega)]
  simp
def retT (jr : Nat) (x : List Int) (c : Nat → Nat) (w : World) (v : Value) : Prop := ∃ A C, v = .slice A x.length C ∧ SL true (Kint .u8) jr 0 c w A C x
set_option maxHeartbeats 2000000 in
theorem text1_calls {m : Nat} {c0 : Nat → Nat} {w0 : World} {j jb jc : Nat} {p : Option Addr} {q1 q2 : Addr} {r : Rdr} {most : Int} (B0 : CB m c0 w0) (h : RD j c0 w0 p (some r)) (hj : 0 < j) (h1 : AT true jb c0 w0 q1 [.pointer p]) (h2 : AT true jc c0 w0 q2 [.int .i64 most])
  (hjb : jb ≠ j) (hjc : jc ≠ j) (jr : Nat) (hjr : jr < m) (hjr' : jr ≠ j) (x : (List Int × Int) ⊕ (List Int × List Int × Int)) (H : rtext r.left r.fault most = some x) :
  Calls Try.prog 57 #[.pointer (some q1), .pointer (some q2)] w0 (RX m j c0 w0 p r.outer x (retT jr)) := by
 refine enter (N := 13) (l := [.pointer (some q1), .pointer (some q2)]) Try.func57 rfl rfl (nb rfl) fun a F => ?_
 have n0 : ¬ ((0 : Nat) = j) := by omega
 refine sr fun K1 hK1 => ?_
 refine G.qa F fun a F => ?_
 refine nil (hK1 _ _ ?_)
 refine wp_seq_k fun K2 hK2 => ?_
 refine preg ?_
 refine p_val F rfl rfl (by decide) (r_load F rfl lag_rd (AT.cell0 h1 rfl)) fun a F => ?_
 refine p_val F rfl rfl (by decide) (r_load F rfl lag_int (AT.cell0 h2 rfl)) fun a F => ?_
 refine p_val F rfl rfl (by decide) (r_max F rfl rfl) fun a F => ?_
 refine p_val F rfl rfl (by decide) (r_convi F Try.underlying71 (by kernel_rfl) rfl) fun a F => ?_
 refine p_call F rfl rfl (by decide) (r_call (vs := [.pointer p, .int .u64 (IntKind.u64.wrap (max most 0))]) F Try.func58 rfl rfl rfl) (size_calls B0 h hj) ?_
 rintro e w1 ⟨c1, E1, B1, hx⟩
 unfold rtext at H
 generalize rsize r.left r.fault (IntKind.u64.wrap (max most 0)) = res at hx H
 match res with
 | .inl (l, f) =>
  right
  obtain ⟨⟨t, u, rfl⟩, hR1⟩ := hx
  have H := Option.some.inj H
  subst H
  refine ⟨_, rfl, fun a F => ?_⟩
  repeat (first | refine thenP ?_ | refine inbP ?_)
  refine outP (F.sub (L' := []) trivial) ?_
  exact ⟨c1, E1, B1, ⟨t, u, rfl⟩, hR1⟩
 | .inr (n, l, f) =>
  left
  obtain ⟨⟨v, rfl, hv⟩, hR1⟩ := hx
  have hv : v = .int .i64 n := hv
  subst hv
  obtain ⟨⟨g0, g1, g2⟩, H⟩ := ifN H
  have H := Option.some.inj H
  subst H
  refine ⟨_, rfl, fun a F => ?_⟩
  refine p_val F rfl rfl (by decide) (r_assign F rfl) fun a F => ?_
  refine pnil ?_
  refine hK2 _ _ ?_
  refine wp_seq_k fun K3 hK3 => ?_
  refine preg ?_
  refine p_val F rfl rfl (by decide) (r_load F rfl lag_rd (AT.cell0 (h1.ev E1 hjb) rfl)) fun a F => ?_
  refine p_val F rfl rfl (by decide) (r_move F rfl) fun a F => ?_
  refine p_call F rfl rfl (by decide) (r_call (vs := [.pointer p, .int .i64 n]) F Try.func60 rfl rfl rfl) (next_calls B1 hR1 hj) ?_
  rintro e w2 ⟨c2, E2, B2, hx⟩
  have e0 : rnext l f n = .inr (l.take n.toNat, l.drop n.toNat, f) := by unfold rnext; rw [if_pos ⟨g0, g1⟩]
  rw [show (⟨l, r.outer, f⟩ : Rdr).left = l from rfl, show (⟨l, r.outer, f⟩ : Rdr).fault = f from rfl, e0] at hx
  obtain ⟨⟨v, rfl, A3, C3, rfl, hs⟩, hR2⟩ := hx
  left
  refine ⟨_, rfl, fun a F => ?_⟩
  have hlen : (l.take n.toNat).length ≤ 140737488355328 := by rw [List.length_take]; omega
  refine p_call F rfl rfl (by decide) (r_call (vs := [.slice A3 (l.take n.toNat).length C3]) F Try.func59 rfl rfl rfl) (parcel_copied.calls (Nat.lt_of_le_of_lt (Nat.zero_le _) hjr) B2 hs jr hjr _ (copied_eq hlen)) ?_
  rintro e w3 ⟨c3, A4, C4, rfl, E3, B3, hs3⟩
  left
  refine ⟨_, rfl, fun a F => ?_⟩
  refine p_val F rfl rfl (by decide) (r_assign F rfl) fun a F => ?_
  refine pnil ?_
  refine hK3 _ _ ?_
  refine wp_ret ?_
  repeat (first | refine thenR ?_ | refine inbR ?_)
  refine out1 F rfl rfl ?_
  have E3' : Ev (fun x => x = j) c2 w2 c3 w3 := E3.mono (fun _ q => q.elim)
  exact ⟨c3, (E1.trans E2 (fun _ q => q)).trans E3' (fun _ q => q), B3, ⟨_, rfl, A4, C4, rfl, hs3⟩, hR2.ev E3 (fun q => q) (fun q => q)⟩
section
variable {P : Program} {ops : Array Oper} {Q : Exit → Act → List Frame → World → Prop} {a : Act} {N : Nat} {L : List (Nat × Value)} {D : List Deferred} {w w' : World} {v : Value} {rest : List Nat} {o : Oper} {d : Nat} {cs cs' : List Frame} {i : Nat}
theorem enterS {f : FuncId} {fn : Func} {c : Code} {l : List Value} {u : FrameMode} {R : Ending → FrameMode → World → Prop} (hf : P.funcs[f]? = some fn) (hb : fn.body = some c) (hn : fn.ntmps = N) (hl : l.length ≤ N)
  (h : ∀ c₀ cs, c₀.mode = u → ∀ a, Fr a N (enum 0 l) → c.wpS P (bodyPostS P fn c₀ cs R) a (c₀ :: cs) w) : CallsD P f l.toArray u w R := by
 refine callsD_of_wpS hf hb fun c₀ cs hu => ?_
 refine h c₀ cs hu _ ?_
 rw [show l.toArray.size = l.length by simp, hn]
 exact Fr.enter l (N - l.length) (by omega)
theorem enterD {f : FuncId} {fn : Func} {c : Code} {l : List Value} {R : Ending → World → Prop} (hf : P.funcs[f]? = some fn) (hb : fn.body = some c) (hn : fn.ntmps = N) (hl : l.length ≤ N)
  (h : ∀ a, Fr a N (enum 0 l) → c.wp P (bodyPostD P fn R) a w) : Calls P f l.toArray w R := by
 refine calls_of_wp_defers hf hb ?_
 refine h _ ?_
 rw [show l.toArray.size = l.length by simp, hn]
 exact Fr.enter l (N - l.length) (by omega)
theorem s_rec_yes (F : Fr a N L D) (ho : ops[i]? = some o) (hg : o.guard = none) (hd : o.dst = some d) (hN : d < N) (hr : (execOp a.eval o).run P w = .ok .recover w) (hrec : recoverD cs = some (v, cs'))
  (k : ∀ a', Fr a' N ((d, v) :: L) D → wpOpsS P ops Q rest a' cs' w) : wpOpsS P ops Q (i :: rest) a cs w := by
 unfold wpOpsS
 simp only [ho]
 rw [if_pos (by simp [Region.wanted, hg]), hr]
 simp only [hrec]
 rw [hd]; exact k _ (F.put v hN)
theorem s_rec_no (F : Fr a N L D) (ho : ops[i]? = some o) (hg : o.guard = none) (hd : o.dst = some d) (hN : d < N) (hr : (execOp a.eval o).run P w = .ok .recover w) (hrec : recoverD cs = none)
  (k : ∀ a', Fr a' N ((d, .nilIface) :: L) D → wpOpsS P ops Q rest a' cs w) : wpOpsS P ops Q (i :: rest) a cs w := by
 unfold wpOpsS
 simp only [ho]
 rw [if_pos (by simp [Region.wanted, hg]), hr]
 simp only [hrec]
 rw [hd]; exact k _ (F.put .nilIface hN)
theorem s_val (F : Fr a N L D) (ho : ops[i]? = some o) (hg : o.guard = none) (hd : o.dst = some d) (hN : d < N) (hr : (execOp a.eval o).run P w = .ok (.value v) w')
  (k : ∀ a', Fr a' N ((d, v) :: L) D → wpOpsS P ops Q rest a' cs w') : wpOpsS P ops Q (i :: rest) a cs w := by
 unfold wpOpsS
 simp only [ho]
 rw [if_pos (by simp [Region.wanted, hg]), hr]
 show wpOpsS P ops Q rest (a.put o.dst v) cs w'
 rw [hd]; exact k _ (F.put v hN)
end
section
variable {P : Program} {a : Act} {N : Nat} {L : List (Nat × Value)} {D : List Deferred} {w w' : World} {v : Value} {x y : Operand} {d : Option Tmp} {t ty : TypeId} {pos : String} {af : Array Edge} {gd : Option (Nat × Bool)}
theorem r_recover (a : Act) {ats : Array TypeId} : (execOp a.eval { dst := d, op := .call { callee := .builtin .recover, args := #[], argTypes := ats }, type := ty, pos := pos, after := af, guard := gd }).run P w = .ok .recover w := by
 simp [execOp, resolve, invoke, builtin]
theorem r_ifneq_t (F : Fr a N L D) {t1 yt : TypeId} {u : Value} (hu : P.underlying t = some (.interface (P.methodsAt t))) (hx : ev L x = some (.iface t1 u)) : (execOp a.eval { dst := d, op := .binOp .neq t x (.const .nilIface) yt, type := ty, pos := pos, after := af, guard := gd }).run P w = .ok (.value (.bool true)) w := by
 have h := run_equal_held_nil (P := P) w t t1 u hu
 have e : a.eval (.const .nilIface) = .nilIface := rfl
 simp [execOp, F.ev hx, e, binOp, eqGuard, h]
theorem r_ifneq_f (F : Fr a N L D) {yt : TypeId} (hu : P.underlying t = some (.interface (P.methodsAt t))) (hx : ev L x = some .nilIface) : (execOp a.eval { dst := d, op := .binOp .neq t x (.const .nilIface) yt, type := ty, pos := pos, after := af, guard := gd }).run P w = .ok (.value (.bool false)) w := by
 have h := run_equal_nil_nil (P := P) w t hu
 have e : a.eval (.const .nilIface) = .nilIface := rfl
 simp [execOp, F.ev hx, e, binOp, eqGuard, h]
theorem r_callv (F : Fr a N L D) {f : FuncId} {fn : Func} {fst cp : Array Value} {ats : Array TypeId} (hf : P.funcs[f]? = some fn) (hb : fn.body.isNone = false) (hn : (fn.name == "runtime.NumGoroutine") = false) (hx : ev L x = some (.func (.func f) fst cp)) :
  (execOp a.eval { dst := d, op := .call { callee := .value x, args := #[], argTypes := ats }, type := ty, pos := pos, after := af, guard := gd }).run P w = .ok (.enter f (fst ++ cp)) w := by
 have hn' : ¬ fn.name = "runtime.NumGoroutine" := by simpa using hn
 have hb' : ¬ fn.body = none := by intro q; rw [q] at hb; cases hb
 simp [execOp, resolve, Deferred.ofValue, F.ev hx, invoke, callFunc, hf, hb', hn']
theorem r_defer (F : Fr a N L D) {f : FuncId} {fst cp : Array Value} {ats : Array TypeId} (hx : ev L x = some (.func (.func f) fst cp)) :
  (execOp a.eval { dst := d, op := .defer { callee := .value x, args := #[], argTypes := ats }, type := ty, pos := pos, after := af, guard := gd }).run P w = .ok (.defer { target := .fn (.func f) cp, args := fst }) w := by
 simp [execOp, resolve, Deferred.ofValue, F.ev hx]
theorem p_defer {ops : Array Oper} {Q : Exit → Act → World → Prop} {rest : List Oper} {o : Oper} {df : Deferred} (F : Fr a N L D) (hg : o.guard = none) (hd : o.dst = none) (hr : (execOp a.eval o).run P w = .ok (.defer df) w)
  (k : ∀ a', Fr a' N L (df :: D) → wpList P ops Q rest a' w) : wpList P ops Q (o :: rest) a w :=
 p_upon hg hr (by
  show wpList P ops Q rest ({ a with defers := df :: a.defers }.put o.dst undef) w
  rw [hd]; exact k _ ⟨by show df :: a.defers = df :: D; rw [F.dfr], F.size, F.get⟩)
theorem resR1 {fn : Func} {r1 : ResultVar} {v1 : Value} (F : Fr a N L D) (hr : fn.results = #[r1]) (h1 : RV P L w r1 v1) : (results fn a.tmps).run P w = .ok v1 w := by
 have e1 := h1.run F
 show Sem.run P (results fn a.tmps) w = _
 unfold results; rw [hr]
 change Sem.run P ((do let vs ← #[r1].mapM (rvS a.tmps); pure (if h : vs.size = 1 then vs[0] else .tuple vs)) : Sem Value) w = _
 simp [e1]
theorem leaves1 {fn : Func} {r1 : ResultVar} {v1 : Value} {R : Ending → World → Prop} (F : Fr a N L D) (hr : fn.results = #[r1]) (h1 : RV P L w r1 v1) (h : R (.returned v1) w) : Leaves P fn a.tmps R [] .returning w := ⟨v1, resR1 F hr h1, h⟩
theorem invoke_fn {f : FuncId} {fn : Func} {cp args : Array Value} (hf : P.funcs[f]? = some fn) (hb : fn.body.isNone = false) (hn : (fn.name == "runtime.NumGoroutine") = false) : (invoke (.fn (.func f) cp) args).run P w = .ok (.enter f (args ++ cp)) w := by
 have hn' : ¬ fn.name = "runtime.NumGoroutine" := by simpa using hn
 have hb' : ¬ fn.body = none := by intro q; rw [q] at hb; cases hb
 simp [invoke, callFunc, hf, hb', hn']
end
def Rcv (j jv : Nat) (c : Nat → Nat) (w : World) (p : Option Addr) (qv : Addr) (rd : Rdr) (x : Value) (w' : World) : Prop :=
 Ev (fun x => x = j ∨ x = jv) c w c w' ∧ w'.heap.size = w.heap.size ∧ RD j c w' p (some rd) ∧ AT true jv c w' qv [x]
set_option maxHeartbeats 2000000 in
theorem catchP_u64 {c : Nat → Nat} {w : World} {j jb jz jv : Nat} {ad q1 qz qv : Addr} {r : Rdr} {z v0 : Value} (hj : 0 < j) (h : RD j c w (some ad) (some r)) (h1 : AT true jb c w q1 [.pointer (some ad)]) (hz : AT true jz c w qz [z]) (hv : AT true jv c w qv [v0])
  (n1 : jb ≠ j) (n2 : jz ≠ j) (n3 : jv ≠ j) (n4 : 0 < jv) (hone : z.oneCell' = true) (t : TypeId) (u : Value) (older : List PanicEntry) :
  CallsD Try.prog 69 #[.pointer (some q1), .pointer (some qz), .pointer (some qv)] (.panicking ({ v := .iface t u, recovered := false } :: older)) w fun e u' w' =>
   e = .returned (.tuple #[]) ∧ u' = .panicking ({ v := .iface t u, recovered := true } :: older) ∧ Rcv j jv c w (some ad) qv ⟨r.left, r.outer, 10⟩ z w' := by
 refine enterS (N := 16) (l := [.pointer (some q1), .pointer (some qz), .pointer (some qv)]) Try.func69 rfl rfl (nb rfl) fun c₀ cs hu a F => ?_
 refine wpS_seq ?_
 refine wpS_seq ?_
 refine wpS_region ?_
 refine s_rec_yes F rfl rfl rfl (by decide) (r_recover a) (v := .iface t u) (cs' := { c₀ with mode := .panicking ({ v := .iface t u, recovered := true } :: older) } :: cs) (by simp [recoverD, hu]) fun a F => ?_
 refine s_val F rfl rfl rfl (by decide) (r_assign F rfl) fun a F => ?_
 show Code.wpS _ _ _ _ _ _
 refine wpS_of_wp ?_
 obtain ⟨ad', A1, C1, A2, C2, e0, hat, hl, ho⟩ := RD.some h
 cases e0
 have m0 : ¬ ((0 : Nat) = j) := by omega
 refine sr fun K2 hK2 => ?_
 refine G.qm F fun a F => ?_
 refine G.qv F (r_ifneq_t F (by kernel_rfl) rfl) fun a F => ?_
 refine nil (hK2 _ _ ?_)
 refine wp_cond_true (F.ev rfl) ?_
 refine reg ?_
 refine G.qv F (r_load F rfl lag_rd (AT.cell0 h1 rfl)) fun a F => ?_
 refine G.qv F (r_nil F rfl) fun a F => ?_
 refine G.qv F (r_fieldAddr F rfl ff_103_2) fun a F => ?_
 refine q_eff0 F rfl rfl (e_store F rfl rfl sz_34 hat (by simp) rfl) ?_
 rintro w2 a ⟨E2, hat2, hz2⟩ F
 refine nil ?_
 show Code.wpS _ _ _ _ _ _
 refine wpS_of_wp ?_
 refine sr fun K3 hK3 => ?_
 refine G.qv F (r_load F rfl lag_rd (AT.cell0 (h1.ev E2 n1) rfl)) fun a F => ?_
 refine G.qv F (r_nil F rfl) fun a F => ?_
 refine G.qv F (r_fieldAddr F rfl ff_103_2) fun a F => ?_
 refine G.qv F (r_load F rfl ag_34 (AT.cell hat2 rfl)) fun a F => ?_
 refine G.qv F (r_neq F rfl rfl) fun a F => ?_
 refine nil (hK3 _ _ ?_)
 refine wp_cond_true (F.ev rfl) ?_
 refine reg ?_
 refine G.qv F (r_load F rfl lag_u64 (AT.cell0 (hz.ev E2 n2) rfl)) fun a F => ?_
 refine q_eff0 F rfl rfl (e_store0 F rfl rfl lsz_u64 (hv.ev E2 n3) (by simp) hone) ?_
 rintro w3 a ⟨E3, hat3, hz3⟩ F
 refine nil ?_
 have n5 : ¬ (j = jv) := fun q => n3 q.symm
 have m1 : ¬ ((0 : Nat) = jv) := by omega
 refine ⟨F.dfr, _, rfl, .tuple #[], results_none rfl _ _ _, rfl, rfl, ?_⟩
 exact ⟨(E2.mono (fun _ q => Or.inl q)).trans (E3.mono (M' := fun x => x = j ∨ x = jv) (fun _ q => Or.inr q)) (fun _ q => q), by rw [hz3, hz2], RD.mk (t := ⟨r.left, r.outer, 10⟩) (hat2.ev E3 n5) ((hl.ev E2 m0 m0).ev E3 m1 m1) ((ho.ev E2 m0 m0).ev E3 m1 m1), hat3⟩
set_option maxHeartbeats 2000000 in
theorem catchR_u64 {c : Nat → Nat} {w : World} {j jb jz jv : Nat} {ad q1 qz qv : Addr} {r : Rdr} {z v0 : Value} (hj : 0 < j) (h : RD j c w (some ad) (some r)) (h1 : AT true jb c w q1 [.pointer (some ad)]) (hz : AT true jz c w qz [z]) (hv : AT true jv c w qv [v0])
  (n1 : jb ≠ j) (n2 : jz ≠ j) (n3 : jv ≠ j) (n4 : 0 < jv) (hone : z.oneCell' = true) :
  CallsD Try.prog 69 #[.pointer (some q1), .pointer (some qz), .pointer (some qv)] .returning w fun e u' w' =>
   e = .returned (.tuple #[]) ∧ u' = .returning ∧ Rcv j jv c w (some ad) qv r (if r.fault = 0 then v0 else z) w' := by
 refine enterS (N := 16) (l := [.pointer (some q1), .pointer (some qz), .pointer (some qv)]) Try.func69 rfl rfl (nb rfl) fun c₀ cs hu a F => ?_
 refine wpS_seq ?_
 refine wpS_seq ?_
 refine wpS_region ?_
 refine s_rec_no F rfl rfl rfl (by decide) (r_recover a) (by simp [recoverD, hu]) fun a F => ?_
 refine s_val F rfl rfl rfl (by decide) (r_assign F rfl) fun a F => ?_
 show Code.wpS _ _ _ _ _ _
 refine wpS_of_wp ?_
 obtain ⟨ad', A1, C1, A2, C2, e0, hat, hl, ho⟩ := RD.some h
 cases e0
 have m1 : ¬ ((0 : Nat) = jv) := by omega
 have n5 : ¬ (j = jv) := fun q => n3 q.symm
 have hc0 : ({ c₀ with mode := .returning } : Frame) = c₀ := by cases c₀; simp_all
 refine sr fun K2 hK2 => ?_
 refine G.qm F fun a F => ?_
 refine G.qv F (r_ifneq_f F (by kernel_rfl) rfl) fun a F => ?_
 refine nil (hK2 _ _ ?_)
 refine wp_cond_false (F.ev rfl) ?_
 refine wp_skip ?_
 show Code.wpS _ _ _ _ _ _
 refine wpS_of_wp ?_
 refine sr fun K3 hK3 => ?_
 refine G.qv F (r_load F rfl lag_rd (AT.cell0 h1 rfl)) fun a F => ?_
 refine G.qv F (r_nil F rfl) fun a F => ?_
 refine G.qv F (r_fieldAddr F rfl ff_103_2) fun a F => ?_
 refine G.qv F (r_load F rfl ag_34 (AT.cell hat rfl)) fun a F => ?_
 refine G.qv F (r_neq F rfl rfl) fun a F => ?_
 refine nil (hK3 _ _ ?_)
 by_cases hf : r.fault = 0
 ·refine wp_cond_false ((F.ev rfl).trans (congrArg Value.bool (congrArg not (decide_eq_true hf)))) ?_
  refine wp_skip ?_
  refine ⟨F.dfr, .returning, by rw [hc0], .tuple #[], results_none rfl _ _ _, rfl, rfl, ?_⟩
  rw [if_pos hf]
  exact ⟨Ev.refl, rfl, h, hv⟩
 ·refine wp_cond_true ((F.ev rfl).trans (congrArg Value.bool (congrArg not (decide_eq_false hf)))) ?_
  refine reg ?_
  refine G.qv F (r_load F rfl lag_u64 (AT.cell0 hz rfl)) fun a F => ?_
  refine q_eff0 F rfl rfl (e_store0 F rfl rfl lsz_u64 hv (by simp) hone) ?_
  rintro w3 a ⟨E3, hat3, hz3⟩ F
  refine nil ?_
  refine ⟨F.dfr, .returning, by rw [hc0], .tuple #[], results_none rfl _ _ _, rfl, rfl, ?_⟩
  rw [if_neg hf]
  exact ⟨E3.mono (fun _ q => Or.inr q), hz3, h.ev E3 n5 m1, hat3⟩
set_option maxHeartbeats 2000000 in
theorem catchP_bytes {c : Nat → Nat} {w : World} {j jb jz jv : Nat} {ad q1 qz qv : Addr} {r : Rdr} {z v0 : Value} (hj : 0 < j) (h : RD j c w (some ad) (some r)) (h1 : AT true jb c w q1 [.pointer (some ad)]) (hz : AT true jz c w qz [z]) (hv : AT true jv c w qv [v0])
  (n1 : jb ≠ j) (n2 : jz ≠ j) (n3 : jv ≠ j) (n4 : 0 < jv) (hone : z.oneCell' = true) (t : TypeId) (u : Value) (older : List PanicEntry) :
  CallsD Try.prog 70 #[.pointer (some q1), .pointer (some qz), .pointer (some qv)] (.panicking ({ v := .iface t u, recovered := false } :: older)) w fun e u' w' =>
   e = .returned (.tuple #[]) ∧ u' = .panicking ({ v := .iface t u, recovered := true } :: older) ∧ Rcv j jv c w (some ad) qv ⟨r.left, r.outer, 10⟩ z w' := by
 refine enterS (N := 16) (l := [.pointer (some q1), .pointer (some qz), .pointer (some qv)]) Try.func70 rfl rfl (nb rfl) fun c₀ cs hu a F => ?_
 refine wpS_seq ?_
 refine wpS_seq ?_
 refine wpS_region ?_
 refine s_rec_yes F rfl rfl rfl (by decide) (r_recover a) (v := .iface t u) (cs' := { c₀ with mode := .panicking ({ v := .iface t u, recovered := true } :: older) } :: cs) (by simp [recoverD, hu]) fun a F => ?_
 refine s_val F rfl rfl rfl (by decide) (r_assign F rfl) fun a F => ?_
 show Code.wpS _ _ _ _ _ _
 refine wpS_of_wp ?_
 obtain ⟨ad', A1, C1, A2, C2, e0, hat, hl, ho⟩ := RD.some h
 cases e0
 have m0 : ¬ ((0 : Nat) = j) := by omega
 refine sr fun K2 hK2 => ?_
 refine G.qm F fun a F => ?_
 refine G.qv F (r_ifneq_t F (by kernel_rfl) rfl) fun a F => ?_
 refine nil (hK2 _ _ ?_)
 refine wp_cond_true (F.ev rfl) ?_
 refine reg ?_
 refine G.qv F (r_load F rfl lag_rd (AT.cell0 h1 rfl)) fun a F => ?_
 refine G.qv F (r_nil F rfl) fun a F => ?_
 refine G.qv F (r_fieldAddr F rfl ff_103_2) fun a F => ?_
 refine q_eff0 F rfl rfl (e_store F rfl rfl sz_34 hat (by simp) rfl) ?_
 rintro w2 a ⟨E2, hat2, hz2⟩ F
 refine nil ?_
 show Code.wpS _ _ _ _ _ _
 refine wpS_of_wp ?_
 refine sr fun K3 hK3 => ?_
 refine G.qv F (r_load F rfl lag_rd (AT.cell0 (h1.ev E2 n1) rfl)) fun a F => ?_
 refine G.qv F (r_nil F rfl) fun a F => ?_
 refine G.qv F (r_fieldAddr F rfl ff_103_2) fun a F => ?_
 refine G.qv F (r_load F rfl ag_34 (AT.cell hat2 rfl)) fun a F => ?_
 refine G.qv F (r_neq F rfl rfl) fun a F => ?_
 refine nil (hK3 _ _ ?_)
 refine wp_cond_true (F.ev rfl) ?_
 refine reg ?_
 refine G.qv F (r_load F rfl lag_bytes (AT.cell0 (hz.ev E2 n2) rfl)) fun a F => ?_
 refine q_eff0 F rfl rfl (e_store0 F rfl rfl lsz_bytes (hv.ev E2 n3) (by simp) hone) ?_
 rintro w3 a ⟨E3, hat3, hz3⟩ F
 refine nil ?_
 have n5 : ¬ (j = jv) := fun q => n3 q.symm
 have m1 : ¬ ((0 : Nat) = jv) := by omega
 refine ⟨F.dfr, _, rfl, .tuple #[], results_none rfl _ _ _, rfl, rfl, ?_⟩
 exact ⟨(E2.mono (fun _ q => Or.inl q)).trans (E3.mono (M' := fun x => x = j ∨ x = jv) (fun _ q => Or.inr q)) (fun _ q => q), by rw [hz3, hz2], RD.mk (t := ⟨r.left, r.outer, 10⟩) (hat2.ev E3 n5) ((hl.ev E2 m0 m0).ev E3 m1 m1) ((ho.ev E2 m0 m0).ev E3 m1 m1), hat3⟩
set_option maxHeartbeats 2000000 in
theorem catchR_bytes {c : Nat → Nat} {w : World} {j jb jz jv : Nat} {ad q1 qz qv : Addr} {r : Rdr} {z v0 : Value} (hj : 0 < j) (h : RD j c w (some ad) (some r)) (h1 : AT true jb c w q1 [.pointer (some ad)]) (hz : AT true jz c w qz [z]) (hv : AT true jv c w qv [v0])
  (n1 : jb ≠ j) (n2 : jz ≠ j) (n3 : jv ≠ j) (n4 : 0 < jv) (hone : z.oneCell' = true) :
  CallsD Try.prog 70 #[.pointer (some q1), .pointer (some qz), .pointer (some qv)] .returning w fun e u' w' =>
   e = .returned (.tuple #[]) ∧ u' = .returning ∧ Rcv j jv c w (some ad) qv r (if r.fault = 0 then v0 else z) w' := by
 refine enterS (N := 16) (l := [.pointer (some q1), .pointer (some qz), .pointer (some qv)]) Try.func70 rfl rfl (nb rfl) fun c₀ cs hu a F => ?_
 refine wpS_seq ?_
 refine wpS_seq ?_
 refine wpS_region ?_
 refine s_rec_no F rfl rfl rfl (by decide) (r_recover a) (by simp [recoverD, hu]) fun a F => ?_
 refine s_val F rfl rfl rfl (by decide) (r_assign F rfl) fun a F => ?_
 show Code.wpS _ _ _ _ _ _
 refine wpS_of_wp ?_
 obtain ⟨ad', A1, C1, A2, C2, e0, hat, hl, ho⟩ := RD.some h
 cases e0
 have m1 : ¬ ((0 : Nat) = jv) := by omega
 have n5 : ¬ (j = jv) := fun q => n3 q.symm
 have hc0 : ({ c₀ with mode := .returning } : Frame) = c₀ := by cases c₀; simp_all
 refine sr fun K2 hK2 => ?_
 refine G.qm F fun a F => ?_
 refine G.qv F (r_ifneq_f F (by kernel_rfl) rfl) fun a F => ?_
 refine nil (hK2 _ _ ?_)
 refine wp_cond_false (F.ev rfl) ?_
 refine wp_skip ?_
 show Code.wpS _ _ _ _ _ _
 refine wpS_of_wp ?_
 refine sr fun K3 hK3 => ?_
 refine G.qv F (r_load F rfl lag_rd (AT.cell0 h1 rfl)) fun a F => ?_
 refine G.qv F (r_nil F rfl) fun a F => ?_
 refine G.qv F (r_fieldAddr F rfl ff_103_2) fun a F => ?_
 refine G.qv F (r_load F rfl ag_34 (AT.cell hat rfl)) fun a F => ?_
 refine G.qv F (r_neq F rfl rfl) fun a F => ?_
 refine nil (hK3 _ _ ?_)
 by_cases hf : r.fault = 0
 ·refine wp_cond_false ((F.ev rfl).trans (congrArg Value.bool (congrArg not (decide_eq_true hf)))) ?_
  refine wp_skip ?_
  refine ⟨F.dfr, .returning, by rw [hc0], .tuple #[], results_none rfl _ _ _, rfl, rfl, ?_⟩
  rw [if_pos hf]
  exact ⟨Ev.refl, rfl, h, hv⟩
 ·refine wp_cond_true ((F.ev rfl).trans (congrArg Value.bool (congrArg not (decide_eq_false hf)))) ?_
  refine reg ?_
  refine G.qv F (r_load F rfl lag_bytes (AT.cell0 hz rfl)) fun a F => ?_
  refine q_eff0 F rfl rfl (e_store0 F rfl rfl lsz_bytes hv (by simp) hone) ?_
  rintro w3 a ⟨E3, hat3, hz3⟩ F
  refine nil ?_
  refine ⟨F.dfr, .returning, by rw [hc0], .tuple #[], results_none rfl _ _ _, rfl, rfl, ?_⟩
  rw [if_neg hf]
  exact ⟨E3.mono (fun _ q => Or.inr q), hz3, h.ev E3 n5 m1, hat3⟩
def takeF {α : Type} (z : α) (a1 : Option Rdr) (X : Rdr → (List Int × Int) ⊕ (α × List Int × Int)) : α × Option Rdr := match a1 with
 | none => (z, none)
 | some r => if r.fault = 0 then rtake z r (X r) else (z, some r)
set_option maxRecDepth 100000 in
set_option maxHeartbeats 4000000 in
theorem take_calls_u64 {m : Nat} {c0 : Nat → Nat} {w0 : World} {j : Nat} {p : Option Addr} {a1 : Option Rdr} {f : FuncId} {fn : Func} {fst cp : Array Value} {X : Rdr → (List Int × Int) ⊕ (Int × List Int × Int)} (B0 : CB m c0 w0) (h : RD j c0 w0 p a1) (hj : 0 < j ∧ j < m)
  (hf : Try.prog.funcs[f]? = some fn) (hfb : fn.body.isNone = false) (hfn : (fn.name == "runtime.NumGoroutine") = false)
  (hcl : ∀ r, a1 = some r → r.fault = 0 → ∀ c1 w1, Ev No c0 w0 c1 w1 → CB (m + 3) c1 w1 → RD j c1 w1 p (some r) → Calls Try.prog f (fst ++ cp) w1 (RX (m + 4) j c1 w1 p r.outer (X r) (retI .u64))) :
  Calls Try.prog 54 #[.pointer p, .func (.func f) fst cp] w0 (fun e w_ => ∃ c_, Ev (fun x => x = j) c0 w0 c_ w_ ∧ CB (m + 4) c_ w_ ∧ (∃ v, e = .returned v ∧ (retI .u64) (takeF 0 a1 X).1 c_ w_ v) ∧ RD j c_ w_ p (takeF 0 a1 X).2) := by
 refine enterD (N := 19) (l := [.pointer p, .func (.func f) fst cp]) Try.func54 rfl rfl (nb rfl) fun a F => ?_
 refine sr fun K1 hK1 => ?_
 refine q_eff F rfl rfl (by decide) (e_box F rfl c0 m) ?_
 rintro v w1 a ⟨c1, qb, rfl, E1, hb1, M1⟩ F
 have hb1 : AT true m c1 w1 qb [.pointer p] := hb1
 have B1 : CB (m + 4) c1 w1 := M1 _ (B0.mono (by omega)) (by omega)
 refine q_eff F rfl rfl (by decide) (e_alloc F lzv_u64 c1 (m + 1)) ?_
 rintro v w2 a ⟨c2, qv, rfl, E2, hv2, M2⟩ F
 have hv2 : AT true (m + 1) c2 w2 qv [.int .u64 0] := hv2
 have B2 : CB (m + 4) c2 w2 := M2 _ B1 (by omega)
 refine nil (hK1 _ _ ?_)
 refine sr fun K2 hK2 => ?_
 refine q_eff F rfl rfl (by decide) (e_alloc F lzv_u64 c2 (m + 2)) ?_
 rintro v w3 a ⟨c3, qz, rfl, E3, hz3, M3⟩ F
 have hz3 : AT true (m + 2) c3 w3 qz [.int .u64 0] := hz3
 have B3 : CB (m + 3) c3 w3 := M3 _ (M2 _ (M1 _ (B0.mono (by omega)) (by omega)) (by omega)) (by omega)
 have no : ∀ x, ¬ No x := fun x q => q
 have hb3 : AT true m c3 w3 qb [.pointer p] := (hb1.ev E2 (no _)).ev E3 (no _)
 have hv3 : AT true (m + 1) c3 w3 qv [.int .u64 0] := hv2.ev E3 (no _)
 have E : Ev No c0 w0 c3 w3 := (E1.trans E2 (fun _ q => q)).trans E3 (fun _ q => q)
 have hR : RD j c3 w3 p a1 := h.ev E (no _) (no _)
 clear E1 E2 E3 hb1 hv2 B1 B2 M1 M2 M3
 have EX : Ev (fun x => x = j ∨ m ≤ x) c0 w0 c3 w3 := E.mono (fun _ q => q.elim)
 refine nil (hK2 _ _ ?_)
 refine wp_seq_k fun K3 hK3 => ?_
 refine wp_seq_k fun K4 hK4 => ?_
 have early : ∀ a, Fr a 19 [(4, .pointer (some qv)), (5, .pointer (some qz)), (14, .bool true)] → takeF 0 a1 X = (0, a1) → K4 a w3 := by
  intro a F ht
  refine hK4 _ _ ?_
  refine wp_cond_true (F.ev rfl) ?_
  refine sr fun K5 hK5 => ?_
  refine G.qv F (r_load F rfl lag_u64 (AT.cell0 hz3 rfl)) fun a F => ?_
  refine q_eff0 F rfl rfl (e_store0 F rfl rfl lsz_u64 hv3 (by simp) rfl) ?_
  rintro w4 a ⟨E4, hv4, hs4⟩ F
  refine nil (hK5 _ _ ?_)
  refine wp_ret ?_
  repeat (first | refine thenR ?_ | refine inbR ?_)
  show Leaves _ _ _ _ _ _ _
  rw [F.dfr]
  refine leaves1 F rfl ⟨qv, rfl, lv_one lag_u64 (AT.cell0 hv4 rfl)⟩ ?_
  refine ⟨c3, (EX.trans (E4.mono (M' := fun x => x = j ∨ m ≤ x) (fun x q => Or.inr (by omega))) (fun _ q => q)).leave B0 id (fun _ _ => rfl), (B3.size hs4).mono (by omega), ⟨_, rfl, ?_⟩, ?_⟩
  ·rw [ht]; exact rfl
  ·rw [ht]; exact hR.ev E4 (by omega) (by omega)
 refine reg ?_
 refine G.qv F (r_load F rfl lag_rd (AT.cell0 hb3 rfl)) fun a F => ?_
 refine G.qv F (r_peqlA F Try.underlying78 rfl rfl (RD.isNone hR)) fun a F => ?_
 refine G.qm F fun a F => ?_
 cases a1 with
 | none =>
  refine q_no F rfl (by decide) rfl rfl (by decide) fun a F => ?_
  refine q_no F rfl (by decide) rfl rfl (by decide) fun a F => ?_
  refine q_no F rfl (by decide) rfl rfl (by decide) fun a F => ?_
  refine q_no F rfl (by decide) rfl rfl (by decide) fun a F => ?_
  refine q_no F rfl (by decide) rfl rfl (by decide) fun a F => ?_
  refine G.qv F (r_pick_t F rfl rfl rfl) fun a F => ?_
  refine nil ?_
  exact early a (F.sub ⟨rfl, rfl, rfl, trivial⟩) rfl
 | some r =>
  obtain ⟨ad, A1, C1, A2, C2, rfl, hat, hl, ho⟩ := RD.some hR
  refine q_yes F rfl (by decide) rfl rfl ?_
  refine G.qv F (r_load F rfl lag_rd (AT.cell0 hb3 rfl)) fun a F => ?_
  refine q_yes F rfl (by decide) rfl rfl ?_
  refine G.qv F (r_nil F rfl) fun a F => ?_
  refine q_yes F rfl (by decide) rfl rfl ?_
  refine G.qv F (r_fieldAddr F rfl ff_103_2) fun a F => ?_
  refine q_yes F rfl (by decide) rfl rfl ?_
  refine G.qv F (r_load F rfl ag_34 (AT.cell hat rfl)) fun a F => ?_
  refine q_yes F rfl (by decide) rfl rfl ?_
  refine G.qv F (r_neq F rfl rfl) fun a F => ?_
  refine G.qv F (r_pick_f F rfl rfl rfl) fun a F => ?_
  refine nil ?_
  by_cases hft : r.fault = 0
  ·rw [decide_eq_true hft] at F
   refine hK4 _ _ ?_
   refine wp_cond_false (F.ev rfl) ?_
   refine wp_skip ?_
   refine hK3 _ _ ?_
   have htk : takeF 0 (some r) X = rtake 0 r (X r) := by unfold takeF; simp only [if_pos hft]
   rw [htk]
   refine wp_seq_k fun K5 hK5 => ?_
   refine preg ?_
   refine p_val F rfl rfl (by decide) (r_makeFunc (vs := [.pointer (some qb), .pointer (some qz), .pointer (some qv)]) F rfl) fun a F => ?_
   refine p_defer F rfl rfl (r_defer F rfl) fun a F => ?_
   refine pnil ?_
   refine hK5 _ _ ?_
   refine wp_seq_k fun K6 hK6 => ?_
   refine preg ?_
   refine p_val F rfl rfl (by decide) (r_move F rfl) fun a F => ?_
   refine p_call F rfl rfl (by decide) (r_callv F hf hfb hfn rfl) (hcl r rfl hft c3 w3 E B3 hR) ?_
   rintro e w4 ⟨c4, E4, B4, hx⟩
   have hb4 := hb3.ev E4 (show ¬ m = j by omega)
   have hv4 := hv3.ev E4 (show ¬ m + 1 = j by omega)
   have hz4 := hz3.ev E4 (show ¬ m + 2 = j by omega)
   generalize hXr : X r = res at hx
   match res with
   | .inl (l, ft) =>
    right
    obtain ⟨⟨t, u, rfl⟩, hR4⟩ := hx
    refine ⟨_, rfl, fun a F => ?_⟩
    repeat (first | refine thenP ?_ | refine inbP ?_)
    show Leaves _ _ _ _ _ _ _
    rw [F.dfr]
    refine leaves_cons (f := 69) (args := #[.pointer (some qb), .pointer (some qz), .pointer (some qv)]) (by simp) (invoke_fn (args := #[]) Try.func69 rfl rfl) ?_
    refine (catchP_u64 (jb := m) (jz := m + 2) (jv := m + 1) hj.1 hR4 hb4 hz4 hv4 (by omega) (by omega) (by omega) (by omega) rfl t u []).mono ?_
    rintro e u' w6 ⟨rfl, rfl, E6, hs6, hR6, hv6⟩
    show Leaves _ _ _ _ _ .returning _
    refine leaves1 F rfl ⟨qv, rfl, lv_one lag_u64 (AT.cell0 hv6 rfl)⟩ ?_
    refine ⟨c4, ((EX.trans (E4.mono (M' := fun x => x = j ∨ m ≤ x) (fun x q => Or.inl q)) (fun _ q => q)).trans (E6.mono (M' := fun x => x = j ∨ m ≤ x) (fun x q => q.elim (fun q => Or.inl q) (fun q => Or.inr (by omega)))) (fun _ q => q)).leave B0 id (fun _ _ => rfl), B4.size hs6, ⟨_, rfl, ?_⟩, hR6⟩
    exact rfl
   | .inr (x, l, ft) =>
    left
    obtain ⟨⟨v, rfl, hv⟩, hR4⟩ := hx
    have hone : v.oneCell' = true := by cases (show v = .int .u64 x from hv); rfl
    refine ⟨v, rfl, fun a F => ?_⟩
    refine p_eff0 F rfl rfl (e_store0 F rfl rfl lsz_u64 hv4 (by simp) hone) ?_
    rintro w5 a ⟨E5, hv5, hs5⟩ F
    have hv5 : AT true (m + 1) c4 w5 qv [v] := hv5
    refine pnil ?_
    refine hK6 _ _ ?_
    refine wp_ret ?_
    repeat (first | refine thenR ?_ | refine inbR ?_)
    show Leaves _ _ _ _ _ _ _
    rw [F.dfr]
    refine leaves_cons (f := 69) (args := #[.pointer (some qb), .pointer (some qz), .pointer (some qv)]) (by simp) (invoke_fn (args := #[]) Try.func69 rfl rfl) ?_
    refine (catchR_u64 (jb := m) (jz := m + 2) (jv := m + 1) hj.1 (hR4.ev E5 (by omega) (by omega)) (hb4.ev E5 (by omega)) (hz4.ev E5 (by omega)) hv5 (by omega) (by omega) (by omega) (by omega) rfl).mono ?_
    rintro e u' w6 ⟨rfl, rfl, E6, hs6, hR6, hv6⟩
    show Leaves _ _ _ _ _ .returning _
    refine leaves1 F rfl ⟨qv, rfl, lv_one lag_u64 (AT.cell0 hv6 rfl)⟩ ?_
    rw [hXr]
    have ET : Ev (fun x => x = j) c0 w0 c4 w6 := (((EX.trans (E4.mono (M' := fun x => x = j ∨ m ≤ x) (fun x q => Or.inl q)) (fun _ q => q)).trans (E5.mono (M' := fun x => x = j ∨ m ≤ x) (fun x q => Or.inr (by omega))) (fun _ q => q)).trans (E6.mono (M' := fun x => x = j ∨ m ≤ x) (fun x q => q.elim (fun q => Or.inl q) (fun q => Or.inr (by omega)))) (fun _ q => q)).leave B0 id (fun _ _ => rfl)
    by_cases hq : ft = 0
    ·rw [if_pos (show (⟨l, r.outer, ft⟩ : Rdr).fault = 0 from hq)]
     refine ⟨c4, ET, (B4.size hs5).size hs6, ⟨_, rfl, ?_⟩, ?_⟩
     ·show (retI .u64) (rtake 0 r (.inr (x, l, ft))).1 c4 w6 v
      unfold rtake; simp only [if_pos hq]
      exact hv
     ·unfold rtake; simp only [if_pos hq]; exact hR6
    ·rw [if_neg (show ¬ (⟨l, r.outer, ft⟩ : Rdr).fault = 0 from hq)]
     refine ⟨c4, ET, (B4.size hs5).size hs6, ⟨_, rfl, ?_⟩, ?_⟩
     ·show (retI .u64) (rtake 0 r (.inr (x, l, ft))).1 c4 w6 _
      unfold rtake; simp only [if_neg hq]
      exact rfl
     ·unfold rtake; simp only [if_neg hq]; exact hR6
  ·rw [decide_eq_false hft] at F
   exact early a (F.sub ⟨rfl, rfl, rfl, trivial⟩) (by unfold takeF; simp only [if_neg hft])
set_option maxRecDepth 100000 in
set_option maxHeartbeats 4000000 in
theorem take_calls_bytes {m : Nat} {c0 : Nat → Nat} {w0 : World} {j : Nat} {p : Option Addr} {a1 : Option Rdr} {f : FuncId} {fn : Func} {fst cp : Array Value} {X : Rdr → (List Int × Int) ⊕ (List Int × List Int × Int)} (B0 : CB m c0 w0) (h : RD j c0 w0 p a1) (hj : 0 < j ∧ j < m)
  (hf : Try.prog.funcs[f]? = some fn) (hfb : fn.body.isNone = false) (hfn : (fn.name == "runtime.NumGoroutine") = false)
  (hcl : ∀ r, a1 = some r → r.fault = 0 → ∀ c1 w1, Ev No c0 w0 c1 w1 → CB (m + 3) c1 w1 → RD j c1 w1 p (some r) → Calls Try.prog f (fst ++ cp) w1 (RX (m + 4) j c1 w1 p r.outer (X r) (retT (m + 3)))) :
  Calls Try.prog 56 #[.pointer p, .func (.func f) fst cp] w0 (fun e w_ => ∃ c_, Ev (fun x => x = j) c0 w0 c_ w_ ∧ CB (m + 4) c_ w_ ∧ (∃ v, e = .returned v ∧ (retT (m + 3)) (takeF ([] : List Int) a1 X).1 c_ w_ v) ∧ RD j c_ w_ p (takeF ([] : List Int) a1 X).2) := by
 refine enterD (N := 19) (l := [.pointer p, .func (.func f) fst cp]) Try.func56 rfl rfl (nb rfl) fun a F => ?_
 refine sr fun K1 hK1 => ?_
 refine q_eff F rfl rfl (by decide) (e_box F rfl c0 m) ?_
 rintro v w1 a ⟨c1, qb, rfl, E1, hb1, M1⟩ F
 have hb1 : AT true m c1 w1 qb [.pointer p] := hb1
 have B1 : CB (m + 4) c1 w1 := M1 _ (B0.mono (by omega)) (by omega)
 refine q_eff F rfl rfl (by decide) (e_alloc F lzv_bytes c1 (m + 1)) ?_
 rintro v w2 a ⟨c2, qv, rfl, E2, hv2, M2⟩ F
 have hv2 : AT true (m + 1) c2 w2 qv [.slice none 0 0] := hv2
 have B2 : CB (m + 4) c2 w2 := M2 _ B1 (by omega)
 refine nil (hK1 _ _ ?_)
 refine sr fun K2 hK2 => ?_
 refine q_eff F rfl rfl (by decide) (e_alloc F lzv_bytes c2 (m + 2)) ?_
 rintro v w3 a ⟨c3, qz, rfl, E3, hz3, M3⟩ F
 have hz3 : AT true (m + 2) c3 w3 qz [.slice none 0 0] := hz3
 have B3 : CB (m + 3) c3 w3 := M3 _ (M2 _ (M1 _ (B0.mono (by omega)) (by omega)) (by omega)) (by omega)
 have no : ∀ x, ¬ No x := fun x q => q
 have hb3 : AT true m c3 w3 qb [.pointer p] := (hb1.ev E2 (no _)).ev E3 (no _)
 have hv3 : AT true (m + 1) c3 w3 qv [.slice none 0 0] := hv2.ev E3 (no _)
 have E : Ev No c0 w0 c3 w3 := (E1.trans E2 (fun _ q => q)).trans E3 (fun _ q => q)
 have hR : RD j c3 w3 p a1 := h.ev E (no _) (no _)
 clear E1 E2 E3 hb1 hv2 B1 B2 M1 M2 M3
 have EX : Ev (fun x => x = j ∨ m ≤ x) c0 w0 c3 w3 := E.mono (fun _ q => q.elim)
 refine nil (hK2 _ _ ?_)
 refine wp_seq_k fun K3 hK3 => ?_
 refine wp_seq_k fun K4 hK4 => ?_
 have early : ∀ a, Fr a 19 [(4, .pointer (some qv)), (5, .pointer (some qz)), (14, .bool true)] → takeF ([] : List Int) a1 X = (([] : List Int), a1) → K4 a w3 := by
  intro a F ht
  refine hK4 _ _ ?_
  refine wp_cond_true (F.ev rfl) ?_
  refine sr fun K5 hK5 => ?_
  refine G.qv F (r_load F rfl lag_bytes (AT.cell0 hz3 rfl)) fun a F => ?_
  refine q_eff0 F rfl rfl (e_store0 F rfl rfl lsz_bytes hv3 (by simp) rfl) ?_
  rintro w4 a ⟨E4, hv4, hs4⟩ F
  refine nil (hK5 _ _ ?_)
  refine wp_ret ?_
  repeat (first | refine thenR ?_ | refine inbR ?_)
  show Leaves _ _ _ _ _ _ _
  rw [F.dfr]
  refine leaves1 F rfl ⟨qv, rfl, lv_one lag_bytes (AT.cell0 hv4 rfl)⟩ ?_
  refine ⟨c3, (EX.trans (E4.mono (M' := fun x => x = j ∨ m ≤ x) (fun x q => Or.inr (by omega))) (fun _ q => q)).leave B0 id (fun _ _ => rfl), (B3.size hs4).mono (by omega), ⟨_, rfl, ?_⟩, ?_⟩
  ·rw [ht]; exact ⟨none, 0, rfl, SL.nil⟩
  ·rw [ht]; exact hR.ev E4 (by omega) (by omega)
 refine reg ?_
 refine G.qv F (r_load F rfl lag_rd (AT.cell0 hb3 rfl)) fun a F => ?_
 refine G.qv F (r_peqlA F Try.underlying78 rfl rfl (RD.isNone hR)) fun a F => ?_
 refine G.qm F fun a F => ?_
 cases a1 with
 | none =>
  refine q_no F rfl (by decide) rfl rfl (by decide) fun a F => ?_
  refine q_no F rfl (by decide) rfl rfl (by decide) fun a F => ?_
  refine q_no F rfl (by decide) rfl rfl (by decide) fun a F => ?_
  refine q_no F rfl (by decide) rfl rfl (by decide) fun a F => ?_
  refine q_no F rfl (by decide) rfl rfl (by decide) fun a F => ?_
  refine G.qv F (r_pick_t F rfl rfl rfl) fun a F => ?_
  refine nil ?_
  exact early a (F.sub ⟨rfl, rfl, rfl, trivial⟩) rfl
 | some r =>
  obtain ⟨ad, A1, C1, A2, C2, rfl, hat, hl, ho⟩ := RD.some hR
  refine q_yes F rfl (by decide) rfl rfl ?_
  refine G.qv F (r_load F rfl lag_rd (AT.cell0 hb3 rfl)) fun a F => ?_
  refine q_yes F rfl (by decide) rfl rfl ?_
  refine G.qv F (r_nil F rfl) fun a F => ?_
  refine q_yes F rfl (by decide) rfl rfl ?_
  refine G.qv F (r_fieldAddr F rfl ff_103_2) fun a F => ?_
  refine q_yes F rfl (by decide) rfl rfl ?_
  refine G.qv F (r_load F rfl ag_34 (AT.cell hat rfl)) fun a F => ?_
  refine q_yes F rfl (by decide) rfl rfl ?_
  refine G.qv F (r_neq F rfl rfl) fun a F => ?_
  refine G.qv F (r_pick_f F rfl rfl rfl) fun a F => ?_
  refine nil ?_
  by_cases hft : r.fault = 0
  ·rw [decide_eq_true hft] at F
   refine hK4 _ _ ?_
   refine wp_cond_false (F.ev rfl) ?_
   refine wp_skip ?_
   refine hK3 _ _ ?_
   have htk : takeF ([] : List Int) (some r) X = rtake ([] : List Int) r (X r) := by unfold takeF; simp only [if_pos hft]
   rw [htk]
   refine wp_seq_k fun K5 hK5 => ?_
   refine preg ?_
   refine p_val F rfl rfl (by decide) (r_makeFunc (vs := [.pointer (some qb), .pointer (some qz), .pointer (some qv)]) F rfl) fun a F => ?_
   refine p_defer F rfl rfl (r_defer F rfl) fun a F => ?_
   refine pnil ?_
   refine hK5 _ _ ?_
   refine wp_seq_k fun K6 hK6 => ?_
   refine preg ?_
   refine p_val F rfl rfl (by decide) (r_move F rfl) fun a F => ?_
   refine p_call F rfl rfl (by decide) (r_callv F hf hfb hfn rfl) (hcl r rfl hft c3 w3 E B3 hR) ?_
   rintro e w4 ⟨c4, E4, B4, hx⟩
   have hb4 := hb3.ev E4 (show ¬ m = j by omega)
   have hv4 := hv3.ev E4 (show ¬ m + 1 = j by omega)
   have hz4 := hz3.ev E4 (show ¬ m + 2 = j by omega)
   generalize hXr : X r = res at hx
   match res with
   | .inl (l, ft) =>
    right
    obtain ⟨⟨t, u, rfl⟩, hR4⟩ := hx
    refine ⟨_, rfl, fun a F => ?_⟩
    repeat (first | refine thenP ?_ | refine inbP ?_)
    show Leaves _ _ _ _ _ _ _
    rw [F.dfr]
    refine leaves_cons (f := 70) (args := #[.pointer (some qb), .pointer (some qz), .pointer (some qv)]) (by simp) (invoke_fn (args := #[]) Try.func70 rfl rfl) ?_
    refine (catchP_bytes (jb := m) (jz := m + 2) (jv := m + 1) hj.1 hR4 hb4 hz4 hv4 (by omega) (by omega) (by omega) (by omega) rfl t u []).mono ?_
    rintro e u' w6 ⟨rfl, rfl, E6, hs6, hR6, hv6⟩
    show Leaves _ _ _ _ _ .returning _
    refine leaves1 F rfl ⟨qv, rfl, lv_one lag_bytes (AT.cell0 hv6 rfl)⟩ ?_
    refine ⟨c4, ((EX.trans (E4.mono (M' := fun x => x = j ∨ m ≤ x) (fun x q => Or.inl q)) (fun _ q => q)).trans (E6.mono (M' := fun x => x = j ∨ m ≤ x) (fun x q => q.elim (fun q => Or.inl q) (fun q => Or.inr (by omega)))) (fun _ q => q)).leave B0 id (fun _ _ => rfl), B4.size hs6, ⟨_, rfl, ?_⟩, hR6⟩
    exact ⟨none, 0, rfl, SL.nil⟩
   | .inr (x, l, ft) =>
    left
    obtain ⟨⟨v, rfl, hv⟩, hR4⟩ := hx
    have hone : v.oneCell' = true := by obtain ⟨A3, C3, e3, hs3⟩ := hv; rw [e3]; rfl
    refine ⟨v, rfl, fun a F => ?_⟩
    refine p_eff0 F rfl rfl (e_store0 F rfl rfl lsz_bytes hv4 (by simp) hone) ?_
    rintro w5 a ⟨E5, hv5, hs5⟩ F
    have hv5 : AT true (m + 1) c4 w5 qv [v] := hv5
    refine pnil ?_
    refine hK6 _ _ ?_
    refine wp_ret ?_
    repeat (first | refine thenR ?_ | refine inbR ?_)
    show Leaves _ _ _ _ _ _ _
    rw [F.dfr]
    refine leaves_cons (f := 70) (args := #[.pointer (some qb), .pointer (some qz), .pointer (some qv)]) (by simp) (invoke_fn (args := #[]) Try.func70 rfl rfl) ?_
    refine (catchR_bytes (jb := m) (jz := m + 2) (jv := m + 1) hj.1 (hR4.ev E5 (by omega) (by omega)) (hb4.ev E5 (by omega)) (hz4.ev E5 (by omega)) hv5 (by omega) (by omega) (by omega) (by omega) rfl).mono ?_
    rintro e u' w6 ⟨rfl, rfl, E6, hs6, hR6, hv6⟩
    show Leaves _ _ _ _ _ .returning _
    refine leaves1 F rfl ⟨qv, rfl, lv_one lag_bytes (AT.cell0 hv6 rfl)⟩ ?_
    rw [hXr]
    have ET : Ev (fun x => x = j) c0 w0 c4 w6 := (((EX.trans (E4.mono (M' := fun x => x = j ∨ m ≤ x) (fun x q => Or.inl q)) (fun _ q => q)).trans (E5.mono (M' := fun x => x = j ∨ m ≤ x) (fun x q => Or.inr (by omega))) (fun _ q => q)).trans (E6.mono (M' := fun x => x = j ∨ m ≤ x) (fun x q => q.elim (fun q => Or.inl q) (fun q => Or.inr (by omega)))) (fun _ q => q)).leave B0 id (fun _ _ => rfl)
    by_cases hq : ft = 0
    ·rw [if_pos (show (⟨l, r.outer, ft⟩ : Rdr).fault = 0 from hq)]
     refine ⟨c4, ET, (B4.size hs5).size hs6, ⟨_, rfl, ?_⟩, ?_⟩
     ·show (retT (m + 3)) (rtake ([] : List Int) r (.inr (x, l, ft))).1 c4 w6 v
      unfold rtake; simp only [if_pos hq]
      obtain ⟨A3, C3, e3, hs3⟩ := hv
      exact ⟨A3, C3, e3, (hs3.ev E5 (by omega) (by omega)).ev E6 (by omega) (by omega)⟩
     ·unfold rtake; simp only [if_pos hq]; exact hR6
    ·rw [if_neg (show ¬ (⟨l, r.outer, ft⟩ : Rdr).fault = 0 from hq)]
     refine ⟨c4, ET, (B4.size hs5).size hs6, ⟨_, rfl, ?_⟩, ?_⟩
     ·show (retT (m + 3)) (rtake ([] : List Int) r (.inr (x, l, ft))).1 c4 w6 _
      unfold rtake; simp only [if_neg hq]
      exact ⟨none, 0, rfl, SL.nil⟩
     ·unfold rtake; simp only [if_neg hq]; exact hR6
  ·rw [decide_eq_false hft] at F
   exact early a (F.sub ⟨rfl, rfl, rfl, trivial⟩) (by unfold takeF; simp only [if_neg hft])
theorem r_makeFunc1 {P : Program} {a : Act} {N : Nat} {L : List (Nat × Value)} {D : List Deferred} {w : World} {x : Operand} {v : Value} {d : Option Tmp} {ty : TypeId} {pos : String} {af : Array Edge} {gd : Option (Nat × Bool)} {f : FuncId} (F : Fr a N L D) (hx : ev L x = some v) :
  (execOp a.eval { dst := d, op := .makeFunc (.func f) #[x] #[], type := ty, pos := pos, after := af, guard := gd }).run P w = .ok (.value (.func (.func f) #[v] #[])) w := by
 simp [execOp, F.ev hx, Instr.makeFunc, Sem.run_bind, Sem.run_pure, Result.andThen]
set_option maxHeartbeats 2000000 in
theorem parcel_Reader_Num.calls {m : Nat} {c0 : Nat → Nat} {w0 : World} {j4 : Nat} {p2 : Option Addr} {a1 : Option Rdr} (hm0 : 0 < m) (B0 : CB m c0 w0) (h3 : RD j4 c0 w0 p2 a1) (bj4 : 0 < j4 ∧ j4 < m) (r : Int × (Option Rdr)) (H : parcel_Reader_Num.f a1 = some r) :
  Calls Try.prog 39 #[.pointer p2] w0 (fun e w_ => ∃ (c_ : Nat → Nat), e = .returned (.int .u64 r.1) ∧ Ev (fun x => (x = j4)) c0 w0 c_ w_ ∧ CB m c_ w_ ∧ RD j4 c_ w_ p2 r.2) := by
 have hr : r = takeF 0 a1 (fun r => rnum r.fault r.left 0 0) := by
  unfold parcel_Reader_Num.f at H
  unfold takeF
  cases a1 with
  | none => exact (Option.some.inj H).symm
  | some q =>
   simp only at H ⊢
   split at H
   ·rename_i hq; rw [if_pos hq]; exact (Option.some.inj H).symm
   ·rename_i hq; rw [if_neg hq]; exact (Option.some.inj H).symm
 subst hr
 refine enter (N := 7) (l := [.pointer p2]) Try.func39 rfl rfl (nb rfl) fun a F => ?_
 refine sr fun K1 hK1 => ?_
 refine G.qa F fun a F => ?_
 refine nil (hK1 _ _ ?_)
 refine sr fun K2 hK2 => ?_
 refine G.qm F fun a F => ?_
 refine G.qm F fun a F => ?_
 refine G.qv F (r_makeFunc1 F rfl) fun a F => ?_
 refine q_call F rfl rfl (by decide) (r_call (vs := [.pointer p2, .func (.func 55) #[.pointer p2] #[]]) F Try.func54 rfl rfl rfl) (take_calls_u64 (X := fun r => rnum r.fault r.left 0 0) B0 h3 bj4 Try.func55 rfl rfl (fun r e0 _ c1 w1 E1 B1 hR => num_calls (B1.mono (by omega)) hR bj4.1)) ?_
 rintro e w1 ⟨c1, E, B, ⟨v, rfl, hv⟩, hR⟩
 have hv : v = .int .u64 (takeF 0 a1 (fun r => rnum r.fault r.left 0 0)).1 := hv
 subst hv
 refine ⟨_, rfl, fun a F => ?_⟩
 refine G.qa F fun a F => ?_
 refine nil (hK2 _ _ ?_)
 refine wp_ret ?_
 refine out1 F rfl rfl ?_
 have EL := (E.mono (M' := fun x => x = j4 ∨ m ≤ x) (fun _ q => Or.inl q)).leave B0 (fun x => if x < m then x else 0) (fun x hx => if_pos hx)
 exact ⟨fun b => if c1 b < m then c1 b else 0, rfl, EL, fun b hb => by show (if c1 b < m then c1 b else 0) < m; split <;> omega, hR.rc (fun k hk => by show (if c1 k < m then c1 k else 0) = _; rw [hk, if_pos bj4.2]) (fun k hk => by show (if c1 k < m then c1 k else 0) = _; rw [hk]; split <;> omega)⟩
set_option maxHeartbeats 2000000 in
theorem parcel_Reader_Text.calls {m : Nat} {c0 : Nat → Nat} {w0 : World} {j4 : Nat} {p2 : Option Addr} {a1 : Option Rdr} {a6 : Int} (hm0 : 0 < m) (B0 : CB m c0 w0) (h3 : RD j4 c0 w0 p2 a1) (bj4 : 0 < j4 ∧ j4 < m) (jr : Nat) (bjr : jr < m) (r : (List Int) × (Option Rdr)) (H : parcel_Reader_Text.f a1 a6 = some r) :
  Calls Try.prog 40 #[.pointer p2, .int .i64 a6] w0 (fun e w_ => ∃ (c_ : Nat → Nat) (A0_ : Option Addr) (C0_ : Nat), e = .returned (.slice A0_ r.1.length C0_) ∧ Ev (fun x => (x = j4)) c0 w0 c_ w_ ∧ CB m c_ w_ ∧ SL true (Kint .u8) jr 0 c_ w_ A0_ C0_ r.1 ∧ RD j4 c_ w_ p2 r.2) := by
 obtain ⟨X, hX, hr⟩ : ∃ X : Rdr → (List Int × Int) ⊕ (List Int × List Int × Int), (∀ q, a1 = some q → q.fault = 0 → rtext q.left q.fault a6 = some (X q)) ∧ r = takeF [] a1 X := by
  unfold parcel_Reader_Text.f at H
  cases a1 with
  | none => exact ⟨fun _ => .inl ([], 0), fun q e => (by cases e), (Option.some.inj H).symm⟩
  | some q =>
   simp only at H
   split at H
   ·rename_i hq
    obtain ⟨x, e1, H⟩ := bind_some H
    refine ⟨fun _ => x, fun q' e _ => by cases e; exact e1, ?_⟩
    unfold takeF; simp only [if_pos hq]; exact (Option.some.inj H).symm
   ·rename_i hq
    refine ⟨fun _ => .inl ([], 0), fun q' e h => by cases e; exact absurd h hq, ?_⟩
    unfold takeF; simp only [if_neg hq]; exact (Option.some.inj H).symm
 subst hr
 refine enter (N := 8) (l := [.pointer p2, .int .i64 a6]) Try.func40 rfl rfl (nb rfl) fun a F => ?_
 refine sr fun K1 hK1 => ?_
 refine q_eff F rfl rfl (by decide) (e_box F rfl c0 m) ?_
 rintro v w1 a ⟨c1, q1, rfl, E1, hb1, M1⟩ F
 have hb1 : AT true m c1 w1 q1 [.pointer p2] := hb1
 refine q_eff F rfl rfl (by decide) (e_box F rfl c1 (m + 1)) ?_
 rintro v w2 a ⟨c2, q2, rfl, E2, hb2, M2⟩ F
 have hb2 : AT true (m + 1) c2 w2 q2 [.int .i64 a6] := hb2
 have no : ∀ x, ¬ No x := fun x q => q
 have B2 : CB (m + 2) c2 w2 := M2 _ (M1 _ (B0.mono (by omega)) (by omega)) (by omega)
 have E : Ev No c0 w0 c2 w2 := E1.trans E2 (fun _ q => q)
 have hR := h3.ev E (no _) (no _)
 have hb1 := hb1.ev E2 (no _)
 refine G.qa F fun a F => ?_
 refine nil (hK1 _ _ ?_)
 refine sr fun K2 hK2 => ?_
 refine G.qv F (r_load F rfl lag_rd (AT.cell0 hb1 rfl)) fun a F => ?_
 refine G.qv F (r_makeFunc (vs := [.pointer (some q1), .pointer (some q2)]) F rfl) fun a F => ?_
 refine q_call F rfl rfl (by decide) (r_call (vs := [.pointer p2, .func (.func 57) #[] #[.pointer (some q1), .pointer (some q2)]]) F Try.func56 rfl rfl rfl)
  (take_calls_bytes (X := X) (m := m + 2) B2 hR ⟨bj4.1, by omega⟩ Try.func57 rfl rfl (fun q e0 hf c3 w3 E3 B3 hR3 => text1_calls (jb := m) (jc := m + 1) (B3.mono (by omega)) hR3 bj4.1 (hb1.ev E3 (no _)) (hb2.ev E3 (no _)) (by omega) (by omega) (m + 2 + 3) (by omega) (by omega) (X q) (hX q e0 hf))) ?_
 rintro e w3 ⟨c3, E3, B3, ⟨v, rfl, A3, C3, rfl, hs3⟩, hR3⟩
 refine ⟨_, rfl, fun a F => ?_⟩
 refine G.qa F fun a F => ?_
 refine nil (hK2 _ _ ?_)
 refine wp_ret ?_
 refine out1 F rfl rfl ?_
 have ET : Ev (fun x => x = j4 ∨ m ≤ x) c0 w0 c3 w3 := (E.mono (M' := fun x => x = j4 ∨ m ≤ x) (fun _ q => q.elim)).trans (E3.mono (M' := fun x => x = j4 ∨ m ≤ x) (fun _ q => Or.inl q)) (fun _ q => q)
 have EL := ET.leave B0 (fun x => if x = m + 5 then jr else if x < m then x else 0) (fun x hx => by show (if x = m + 5 then jr else if x < m then x else 0) = x; rw [if_neg (by omega), if_pos hx])
 exact ⟨fun b => if c3 b = m + 5 then jr else if c3 b < m then c3 b else 0, A3, C3, rfl, EL, fun b hb => by show (if c3 b = m + 5 then jr else if c3 b < m then c3 b else 0) < m; (repeat' split) <;> omega,
  hs3.rc (fun k hk => by show (if c3 k = m + 5 then jr else if c3 k < m then c3 k else 0) = _; rw [hk, if_pos (by omega)]) (fun k hk => by show (if c3 k = m + 5 then jr else if c3 k < m then c3 k else 0) = _; rw [hk]; (repeat' split) <;> omega),
  hR3.rc (fun k hk => by show (if c3 k = m + 5 then jr else if c3 k < m then c3 k else 0) = _; rw [hk, if_neg (by omega), if_pos bj4.2]) (fun k hk => by show (if c3 k = m + 5 then jr else if c3 k < m then c3 k else 0) = _; rw [hk]; (repeat' split) <;> omega)⟩
set_option maxHeartbeats 2000000 in
theorem parcel_Read.calls {m : Nat} {c0 : Nat → Nat} {w0 : World} {j1 : Nat} {A2 : Option Addr} {C3 : Nat} {a1 : List Int} (hm0 : 0 < m) (B0 : CB m c0 w0) (h4 : SL false (Kint .u8) j1 0 c0 w0 A2 C3 a1) (bj1 : j1 < m) (jr : Nat) (bjr : jr < m) (r : Option Rdr) (H : parcel_Read.f a1 = some r) :
  Calls Try.prog 38 #[.slice A2 a1.length C3] w0 (fun e w_ => ∃ (c_ : Nat → Nat) (P0_ : Option Addr), e = .returned (.pointer P0_) ∧ Ev (fun x => False) c0 w0 c_ w_ ∧ CB m c_ w_ ∧ RD jr c_ w_ P0_ r) := by
 unfold parcel_Read.f at H
 obtain ⟨g, H⟩ := ifN H
 have H := Option.some.inj H
 subst H
 refine enter (N := 18) (l := [.slice A2 a1.length C3]) Try.func38 rfl rfl (nb rfl) fun a F => ?_
 refine sr fun K1 hK1 => ?_
 refine G.qa F fun a F => ?_
 refine nil (hK1 _ _ ?_)
 refine sr fun K2 hK2 => ?_
 refine G.qm F fun a F => ?_
 refine G.qv F (r_lensl F Try.underlying23 rfl) fun a F => ?_
 refine q_eff F rfl rfl (by decide) (e_make (k := (Kint .u8)) (x0 := 0) F et_23 rfl rfl (fun _ _ _ => rfl) (by decide) (by omega) c0 (m + 2) 0) ?_
 rintro v w1 a ⟨c1, A5, C5, rfl, E1, h5, B1⟩ F
 have B1 := B1 (m + 3) (B0.mono (by omega)) (by omega)
 have h4 := h4.ev E1 (fun q => q.elim) (fun q => q.elim)
 refine G.qa F fun a F => ?_
 refine nil (hK2 _ _ ?_)
 refine sr fun K3 hK3 => ?_
 refine G.qm F fun a F => ?_
 refine G.qm F fun a F => ?_
 refine q_eff F rfl rfl (by decide) (e_copy (k := (Kint .u8)) (xs := List.replicate ((a1.length : Nat) : Int).toNat (0 : Int)) (ys := a1) F et_23 rfl rfl h5 h4 (by omega)) ?_
 rintro v w2 a ⟨rfl, E2, h5, Z2⟩ F
 have e5 : a1.take (List.replicate ((a1.length : Nat) : Int).toNat (0 : Int)).length ++ (List.replicate ((a1.length : Nat) : Int).toNat (0 : Int)).drop a1.length = a1 := by simp
 have l5 : (List.replicate ((a1.length : Nat) : Int).toNat (0 : Int)).length = a1.length := by simp
 rw [e5] at h5
 rw [l5] at F
 refine nil (hK3 _ _ ?_)
 refine sr fun K4 hK4 => ?_
 refine G.qm F fun a F => ?_
 refine G.qm F fun a F => ?_
 refine G.qv F (r_lensl F Try.underlying23 rfl) fun a F => ?_
 refine G.qm F fun a F => ?_
 refine G.qv F (r_lensl F Try.underlying23 rfl) fun a F => ?_
 obtain ⟨A6, C6, hr6, h6⟩ := cut_nn (n := ((a1.length : Nat) : Int)) Try.underlying23 sz_5 h5 ⟨by omega, by omega⟩
 refine G.qv F (r_slice (vl := none) (vh := some (.int .i64 ((a1.length : Nat) : Int))) (vm := some (.int .i64 ((a1.length : Nat) : Int))) F rfl rfl rfl rfl hr6) fun a F => ?_
 have e6 : a1.take ((a1.length : Nat) : Int).toNat = a1 := by simp
 rw [e6] at F h6
 refine q_val F rfl rfl (by decide) (r_build (v := .agg #[.slice A6 a1.length C6, .slice none 0 0, .int .i64 0]) F [(0, .slice A6 a1.length C6)] (by exact ⟨rfl, rfl, trivial⟩) (fun w => by kernel_rfl)) fun a F => ?_
 refine q_eff F rfl rfl (by decide) (e_box F (v := .agg #[.slice A6 a1.length C6, .slice none 0 0, .int .i64 0]) rfl c1 (m + 1)) ?_
 rintro v w3 a ⟨c3, qa, rfl, E3, h7, B3⟩ F
 have B3 := B3 (m + 3) (B1.size Z2) (by omega)
 have h7 : AT true (m + 1) c3 w3 qa [.slice A6 a1.length C6, .slice none 0 0, .int .i64 0] := h7
 have h6 := h6.ev E3 (fun q => q.elim) (fun q => q.elim)
 refine G.qa F fun a F => ?_
 refine nil (hK4 _ _ ?_)
 refine wp_ret ?_
 refine out1 F rfl rfl ?_
 have ET : Ev (fun x => False ∨ m ≤ x) c0 w0 c3 w3 := ((E1.mono (M' := fun x => False ∨ m ≤ x) (fun _ q => q.elim)).trans (E2.mono (M' := fun x => False ∨ m ≤ x) (fun x q => Or.inr (by omega))) (fun _ q => q)).trans (E3.mono (M' := fun x => False ∨ m ≤ x) (fun _ q => q.elim)) (fun _ q => q)
 have EL := ET.leave B0 (fun x => if x = m + 1 then jr else if x < m then x else 0) (fun x hx => by show (if x = m + 1 then jr else if x < m then x else 0) = x; rw [if_neg (by omega), if_pos hx])
 refine ⟨fun b => if c3 b = m + 1 then jr else if c3 b < m then c3 b else 0, some qa, rfl, EL, fun b hb => by show (if c3 b = m + 1 then jr else if c3 b < m then c3 b else 0) < m; (repeat' split) <;> omega, ?_⟩
 exact RD.mk (t := ⟨a1, [], 0⟩) (h7.rc (fun k hk => by show (if c3 k = m + 1 then jr else if c3 k < m then c3 k else 0) = _; rw [hk, if_pos rfl])) (h6.r.rc (fun k hk => by show (if c3 k = m + 1 then jr else if c3 k < m then c3 k else 0) = _; rw [hk]; (repeat' split) <;> omega) (fun k hk => by show (if c3 k = m + 1 then jr else if c3 k < m then c3 k else 0) = _; rw [hk]; (repeat' split) <;> omega)) SL.nil
end Go.Proofs.Ytoaldfpngihhcaa.G
namespace Go.Proofs.Ytoaldfpngihhcaa.G
open Go Go.RowKit
set_option linter.unusedVariables false
set_option linter.unusedSimpArgs false
set_option maxRecDepth 100000
set_option maxHeartbeats 40000000
theorem parcel_Reader_Done.calls {m : Nat} {c0 : Nat → Nat} {w0 : World} {j4 : Nat} {p2 : Option Addr} {a1 : Option Rdr} (hm0 : 0 < m) (B0 : CB m c0 w0) (h3 : RD j4 c0 w0 p2 a1) (bj4 : j4 < m) (r : Int) (H : parcel_Reader_Done.f a1 = some r) : Calls Try.prog 41 #[.pointer p2] w0 (fun e w_ => ∃ (c_ : Nat → Nat), e = .returned (.int .i64 r) ∧ Ev (fun x => False) c0 w0 c_ w_ ∧ CB m c_ w_) := by
 unfold parcel_Reader_Done.f at H; have B := B0.mono (show m ≤ m + 1 by omega); have E : Ev (fun x => False ∨ m ≤ x) c0 w0 c0 w0 := Ev.refl; refine enter (N := 31) (l := [.pointer p2]) Try.func41 rfl rfl (nb rfl) fun a F => ?_; refine sr fun K5 hK5 => qa F fun a F => nil (hK5 _ _ ?_); refine sq fun K6 hK6 => ?_; refine wp_block ?_; refine sr fun K7 hK7 => qm F fun a F => ?_; refine qv F (r_peqlA F Try.underlying78 rfl rfl (RD.isNone h3)) fun a F => ?_; refine qa F fun a F => nil (hK7 _ _ ?_)
 by_cases hb8 : (Option.isNone a1) = true
 ·replace H := ip hb8 H; refine wct (fb F hb8) ?_; refine sr fun K9 hK9 => qa F fun a F => nil (hK9 _ _ ?_); refine wp_ret ?_; refine inbR ?_; refine thenR ?_; obtain rfl := si H; refine out1 F rfl rfl ?_; exact ⟨cf (ct m) c0, rfl, E.lv B0, cfb⟩
 replace H := im hb8 H; refine wcf (fb F (bfalse hb8)) ?_; refine sr fun K10 hK10 => qm F fun a F => ?_; obtain ⟨ob11, e12, H⟩ := bind_some H; have z13 := h3; rw [e12] at z13; obtain ⟨ad14, A16, C17, A19, C20, rfl, hat15, h18, h21⟩ := RD.some z13; refine qi F fun a F => ?_; refine qf F ff_103_2 fun a F => ?_; refine ql F ag_34 hat15 fun a F => ?_; refine qv F (r_neq F rfl rfl) fun a F => ?_; refine qa F fun a F => nil (hK10 _ _ ?_); replace F : Fr a 31 [(0, .pointer (some ad14)), (6, .bool (!decide (ob11.fault = 0)))] := F.sub ⟨rfl, rfl, trivial⟩
 by_cases hb23 : ob11.fault = 0
 ·replace H := ip hb23 H; refine wcf (fb F (congrArg not (dt hb23))) ?_; refine sq fun K24 hK24 => ?_; have J27 : ∀ (c28 : Nat → Nat) (w29 : World) (a : Act) (b26 : Bool), Fr a 31 [(16, .bool b26)] → Ev (fun x => False ∨ m ≤ x) c0 w0 c28 w29 → CB (m + 1) c28 w29 → parcel_Reader_Done.j1 b26 = some r → K24 a w29 := by
   intro c28 w29 a b26 F E B  H; unfold parcel_Reader_Done.j1 at H; refine hK24 _ _ ?_
   by_cases hb30 : b26 = true
   ·replace H := ip hb30 H; refine wct (fb F hb30) ?_; refine sr fun K31 hK31 => qa F fun a F => nil (hK31 _ _ ?_); refine wp_ret ?_; refine inbR ?_; refine thenR ?_; obtain rfl := si H; refine out1 F rfl rfl ?_; exact ⟨cf (ct m) c28, rfl, E.lv B0, cfb⟩
   replace H := im hb30 H; refine wcf (fb F (bfalse hb30)) (wp_skip (hK6 _ _ ?_)); refine sr fun K33 hK33 => qa F fun a F => nil (hK33 _ _ ?_); refine wp_ret ?_; obtain rfl := si H; refine out1 F rfl rfl ?_; exact ⟨cf (ct m) c28, rfl, E.lv B0, cfb⟩
  refine reg ?_; refine qm F fun a F => ?_; refine qi F fun a F => ?_; refine qf F ff_103_0 fun a F => ?_; refine ql F ag_23 hat15 fun a F => ?_; refine qv F (r_lensl F Try.underlying23 rfl) fun a F => ?_; refine qv F (r_gtr F rfl rfl) fun a F => ?_; refine qm F fun a F => ?_
  by_cases hb25 : 0 < (ob11.left.length : Int)
  ·replace H := ip hb25 H; refine qn F (dt hb25) fun a F => qn F (dt hb25) fun a F => qn F (dt hb25) fun a F => qn F (dt hb25) fun a F => qn F (dt hb25) fun a F => qn F (dt hb25) fun a F => ?_; refine qv F (r_pick_t F rfl (dt hb25) rfl) fun a F => ?_; refine qa F fun a F => nil ?_; exact J27 c0 w0 a true (F.sub ⟨rfl, trivial⟩) E B  H
  replace H := im hb25 H; refine qy F (dz hb25) ?_; refine qm F fun a F => ?_; refine qy F (dz hb25) ?_; refine qi F fun a F => ?_; refine qy F (dz hb25) ?_; refine qf F ff_103_1 fun a F => ?_; refine qy F (dz hb25) ?_; refine ql F ag_28 hat15 fun a F => ?_; refine qy F (dz hb25) ?_; refine qv F (r_lensl F Try.underlying28 rfl) fun a F => ?_; refine qy F (dz hb25) ?_; refine qv F (r_gtr F rfl rfl) fun a F => ?_; refine qv F (r_pick_f F rfl (dz hb25) rfl) fun a F => ?_; refine qa F fun a F => nil ?_; exact J27 c0 w0 a (decide (0 < (ob11.outer.length : Int))) (F.sub ⟨rfl, trivial⟩) E B  H
 replace H := im hb23 H; refine wct (fb F (congrArg not (dz hb23))) ?_; refine sr fun K32 hK32 => qm F fun a F => ?_; refine qi F fun a F => ?_; refine qf F ff_103_2 fun a F => ?_; refine ql F ag_34 hat15 fun a F => ?_; refine qa F fun a F => nil (hK32 _ _ ?_); refine wp_ret ?_; refine inbR ?_; refine thenR ?_; obtain rfl := si H; refine out1 F rfl rfl ?_; exact ⟨cf (ct m) c0, rfl, E.lv B0, cfb⟩
theorem table_Read.calls (k : Nat) {m : Nat} {c0 : Nat → Nat} {w0 : World} {j5 : Nat} {A2 : Option Addr} {C3 : Nat} {a1 : List Int} (hm0 : 0 < m) (B0 : CB m c0 w0) (h4 : SL false (Kint .u8) j5 0 c0 w0 A2 C3 a1) (bj5 : j5 < m) (jr533 : Nat) (bjr533 : jr533 < m) (r : (Option Tab) × Int) (H : table_Read.f k a1 = some r) : Calls Try.prog 11 #[.slice A2 a1.length C3] w0 (fun e w_ => ∃ (c_ : Nat → Nat) (P0_ : Option Addr), e = .returned (.tuple #[.pointer P0_, .int .i64 r.2]) ∧ Ev (fun x => False) c0 w0 c_ w_ ∧ CB m c_ w_ ∧ TB jr533 c_ w_ P0_ r.1) := by
 unfold table_Read.f at H; have B := B0.mono (show m ≤ m + 5 by omega); have E : Ev (fun x => False ∨ m ≤ x) c0 w0 c0 w0 := Ev.refl; refine enter (N := 81) (l := [.slice A2 a1.length C3]) Try.func11 rfl rfl (nb rfl) fun a F => ?_; refine sr fun K6 hK6 => qa F fun a F => qa F fun a F => nil (hK6 _ _ ?_); refine sr fun K7 hK7 => qm F fun a F => ?_; obtain ⟨t8, q9, H⟩ := bind_some H; refine qc F Try.func38 (parcel_Read.calls (m := m + 5) (pl hm0) B h4 (by omega) (m + 1) lm _ q9) ?_; rintro e w11 ⟨c10, p14, rfl, E12, B, h15⟩; refine rt fun a F => ?_; replace E := E.n E12; refine qa F fun a F => nil (hK7 _ _ ?_); refine sr fun K17 hK17 => qm F fun a F => ?_; obtain ⟨t18, q19, H⟩ := bind_some H; refine qc F Try.func39 (parcel_Reader_Num.calls (m := m + 5) (pl hm0) B h15 (by omega) _ q19) ?_; rintro e w21 ⟨c20, rfl, E22, B, h24⟩; refine rt fun a F => ?_; replace E := E.trans E22 lc1; refine qm F fun a F => ?_; obtain ⟨t26, q27, H⟩ := bind_some H; refine qc F Try.func39 (parcel_Reader_Num.calls (m := m + 5) (pl hm0) B h24 (by omega) _ q27) ?_; rintro e w29 ⟨c28, rfl, E30, B, h32⟩
 as_aux_lemma =>
 refine rt fun a F => ?_; replace E := E.trans E30 lc1; refine qa F fun a F => qa F fun a F => nil (hK17 _ _ ?_); replace F : Fr a 81 [(4, .pointer p14), (5, .int .u64 t18.1), (6, .int .u64 t26.1)] := F.sub ⟨rfl, rfl, rfl, trivial⟩; refine sr fun K34 hK34 => ?_; obtain ⟨t35, q36, H⟩ := bind_some H; refine qc F Try.func5 (table_New.calls (m := m + 5) (pl hm0) B (m + 2) lm _ q36) ?_; rintro e w38 ⟨c37, p41, rfl, E39, B, h42⟩; refine rt fun a F => ?_; replace E := E.n E39; refine qa F fun a F => nil (hK34 _ _ ?_); refine sr fun K44 hK44 => qm F fun a F => qm F fun a F => ?_; refine qv F (r_min F rfl rfl) fun a F => ?_; refine qv F (r_convi F Try.underlying3 rfl rfl) fun a F => ?_; obtain ⟨ob45, e46, H⟩ := bind_some H; have z47 := h42; rw [e46] at z47; obtain ⟨ad48, p50, rfl, hat49, h51⟩ := TB.some z47; refine qi F fun a F => ?_; refine qf F ff_59_1 fun a F => ?_; refine q_eff0 F rfl rfl (e_store F rfl rfl sz_3 hat49 (nb rfl) rfl) ?_; rintro w53 a ⟨E54, hat49, Z55⟩ F
 as_aux_lemma =>
 replace B := B.size Z55; replace h51 := h51.ev E54; replace E := E.trans E54 lc1; replace hat49 : AT true (m + 2) c37 w53 ad48 [.pointer p50, .int .i64 (IntKind.i64.wrap (min t18.1 1099511627776)), .int .i64 ob45.size] := hat49; have h56 : TB (m + 2) c37 w53 (some ad48) (some (Tab.mk ob45.rows (IntKind.i64.wrap (min t18.1 1099511627776)) ob45.size)) := TB.mk hat49 h51; refine nil (hK44 _ _ ?_); refine sr fun K57 hK57 => qm F fun a F => ?_; refine qv F (r_leq F rfl rfl) fun a F => ?_; refine qa F fun a F => nil (hK57 _ _ ?_); replace F : Fr a 81 [(4, .pointer p14), (5, .int .u64 t18.1), (6, .int .u64 t26.1), (7, .pointer (some ad48)), (8, .bool (decide (t18.1 ≤ 1099511627776)))] := F.sub ⟨rfl, rfl, rfl, rfl, rfl, trivial⟩; refine sr fun K58 hK58 => ?_; refine q_eff F rfl rfl (by decide) (e_makeMap (q := .u64) (K := 71) (emb := Value.bool) F c37 (m + 3) (fun w => by kernel_rfl)) ?_; rintro v w60 a ⟨c59, qa61, rfl, E62, h63, B64⟩ F; replace B := B64 _ B lm; replace h32 := ((h32.ev E39).ev E54).ev E62; replace h56 := h56.ev E62; replace E := E.n E62; replace h63 : MU81 (m + 3) c59 w60 (some qa61) (MpV.mk (fun _ => none) 0) := h63; refine qa F fun a F => nil (hK58 _ _ ?_); refine sr fun K65 hK65 => qa F fun a F => nil (hK65 _ _ ?_); refine sq fun K66 hK66 => ?_; refine wp_block ?_; obtain ⟨x304, HL, HR303⟩ := bind_some H; have J513 : ∀ (c514 : Nat → Nat) (w515 : World) (a : Act) (o509 : Option Rdr) (o511 : Option Tab) (b512 : Bool), Fr a 81 [(4, .pointer p14), (7, .pointer (some ad48)), (8, .bool b512)] → Ev (fun x => False ∨ m ≤ x) c0 w0 c514 w515 → CB (m + 5) c514 w515 → RD (m + 1) c514 w515 p14 o509 → TB (m + 2) c514 w515 (some ad48) o511 → table_Read.j8 o509 o511 b512 = some r → K66 a w515 := by
  intro c514 w515 a o509 o511 b512 F E B h508 h510 H; unfold table_Read.j8 at H
  as_aux_lemma =>
  refine hK66 _ _ ?_; refine sq fun K516 hK516 => ?_; refine sq fun K517 hK517 => ?_; have J527 : ∀ (c528 : Nat → Nat) (w529 : World) (a : Act) (b526 : Bool), Fr a 81 [(7, .pointer (some ad48)), (79, .bool b526)] → Ev (fun x => False ∨ m ≤ x) c0 w0 c528 w529 → CB (m + 5) c528 w529 → TB (m + 2) c528 w529 (some ad48) o511 → table_Read.j9 o511 b526 = some r → K517 a w529 := by
   intro c528 w529 a b526 F E B h510 H; unfold table_Read.j9 at H; refine hK517 _ _ ?_
   by_cases hb530 : b526 = true
   ·replace H := ip hb530 H; refine wct (fb F hb530) ?_; refine sr fun K531 hK531 => qa F fun a F => qa F fun a F => nil (hK531 _ _ ?_); refine wp_ret ?_; refine thenR ?_; obtain rfl := si H; refine out2 F rfl rfl rfl ?_; exact ⟨cf (fun x_ => if x_ = m + 2 then jr533 else if x_ < m then x_ else 0) c528, none, rfl, E.lv B0, cfb, TB.nil⟩
   replace H := im hb530 H; refine wcf (fb F (bfalse hb530)) (wp_skip (hK516 _ _ ?_)); refine sr fun K532 hK532 => qm F fun a F => qa F fun a F => qa F fun a F => nil (hK532 _ _ ?_); refine wp_ret ?_; obtain rfl := si H; refine out2 F rfl rfl rfl ?_; exact ⟨cf (fun x_ => if x_ = m + 2 then jr533 else if x_ < m then x_ else 0) c528, (some ad48), rfl, E.lv B0, cfb, TB.rc h510 cfk cfk⟩
  as_aux_lemma =>
  refine reg ?_; refine qm F fun a F => ?_; refine qv F (r_not F rfl) fun a F => ?_; refine qm F fun a F => ?_
  by_cases hb518 : b512 = true
  ·replace H := ip hb518 H; refine qy F (congrArg not hb518) ?_; refine qm F fun a F => ?_; obtain ⟨t519, q520, H⟩ := bind_some H; refine qy F (congrArg not hb518) ?_; refine qc F Try.func41 (parcel_Reader_Done.calls (m := m + 5) (pl hm0) B h508 lm _ q520) ?_; rintro e w522 ⟨c521, rfl, E523, B⟩; refine rt fun a F => ?_; replace h510 := h510.ev E523; replace E := E.n E523; refine qy F (congrArg not hb518) ?_; refine qv F (r_neq F rfl rfl) fun a F => ?_; refine qv F (r_pick_f F rfl (congrArg not hb518) rfl) fun a F => ?_; refine nil ?_; exact J527 c521 w522 a (!decide (t519 = 0)) (F.sub ⟨rfl, rfl, trivial⟩) E B h510 H
  replace H := im hb518 H; refine qn F (congrArg not (bfalse hb518)) fun a F => qn F (congrArg not (bfalse hb518)) fun a F => qn F (congrArg not (bfalse hb518)) fun a F => ?_; refine qv F (r_pick_t F rfl (congrArg not (bfalse hb518)) rfl) fun a F => ?_
  as_aux_lemma =>
  refine nil ?_; exact J527 c514 w515 a true (F.sub ⟨rfl, rfl, trivial⟩) E B h510 H
 refine loop_fuel (I := fun n a w => ∃ (o285 : Option Rdr) (i286 : Int) (o289 : Option Tab) (b290 : Bool) (o293 : MpV Bool) (s294 : ByteArray) (c : Nat → Nat), Fr a 81 [(4, .pointer p14), (5, .int .u64 t18.1), (6, .int .u64 i286), (7, .pointer (some ad48)), (8, .bool b290), (9, .map (Option.map Addr.block (some qa61))), (10, .string s294)] ∧ Ev (fun x => False ∨ m ≤ x) c0 w0 c w ∧ CB (m + 5) c w ∧ RD (m + 1) c w p14 o285 ∧ TB (m + 2) c w (some ad48) o289 ∧ MU81 (m + 3) c w (some qa61) o293 ∧ loop (fun (s_ : (Option Rdr) × Int × (Option Tab) × Bool × (MpV Bool) × ByteArray) => table_Read.b7 k t18 s_.1 s_.2.1 s_.2.2.1 s_.2.2.2.1 s_.2.2.2.2.1 s_.2.2.2.2.2) n (o285, i286, o289, b290, o293, s294) = some x304) (k := k) ⟨t26.2, t26.1, (some (Tab.mk ob45.rows (IntKind.i64.wrap (min t18.1 1099511627776)) ob45.size)), (decide (t18.1 ≤ 1099511627776)), (MpV.mk (fun _ => none) 0), ({ data := #[] }), c59, F.sub ⟨rfl, rfl, rfl, rfl, rfl, rfl, rfl, trivial⟩, E, B, h32, h56, h63, HL⟩ ?_; clear HL H E F B; intro n301 X297 hX297 a w296 ⟨o285, i286, o289, b290, o293, s294, c295, F, E, B, h284, h288, h292, HL⟩; obtain ⟨n302, ctl300, rfl, HB, HN298, HD299⟩ := loop_some HL; have H : table_Read.b7 k t18 o285 i286 o289 b290 o293 s294 = some ctl300 := HB; clear HB HL; unfold table_Read.b7 at H; refine sq fun K305 hK305 => ?_; refine sq fun K306 hK306 => ?_; have J309 : ∀ (c310 : Nat → Nat) (w311 : World) (a : Act) (b308 : Bool), Fr a 81 [(4, .pointer p14), (5, .int .u64 t18.1), (6, .int .u64 i286), (7, .pointer (some ad48)), (8, .bool b290), (9, .map (Option.map Addr.block (some qa61))), (10, .string s294), (34, .bool b308)] → Ev (fun x => False ∨ m ≤ x) c0 w0 c310 w311 → CB (m + 5) c310 w311 → RD (m + 1) c310 w311 p14 o285 → TB (m + 2) c310 w311 (some ad48) o289 → MU81 (m + 3) c310 w311 (some qa61) o293 → table_Read.j4 k t18 o285 i286 o289 b290 o293 s294 b308 = some ctl300 → K306 a w311 := by
  intro c310 w311 a b308 F E B h284 h288 h292 H; unfold table_Read.j4 at H; refine hK306 _ _ ?_
  by_cases hb312 : b308 = true
  ·replace H := ip hb312 H; refine wct (fb F hb312) (wp_skip (hK305 _ _ ?_)); refine sq fun K313 hK313 => ?_; refine wp_block ?_; refine sq fun K314 hK314 => ?_; have J462 : ∀ (c463 : Nat → Nat) (w464 : World) (a : Act) (t92 : (List Int) × (Option Rdr)) (qa127 : Addr) (t114 : (List Int) × (Option Rdr)) (A459 : Option Addr) (C460 : Nat), Fr a 81 [(4, .pointer p14), (5, .int .u64 t18.1), (6, .int .u64 i286), (7, .pointer (some ad48)), (9, .map (Option.map Addr.block (some qa61))), (10, .string s294), (11, .string (bs t92.1)), (12, .pointer (some qa127))] → Ev (fun x => False ∨ m ≤ x) c0 w0 c463 w464 → CB (m + 5) c463 w464 → AT true (m + 4) c463 w464 qa127 [.slice A459 t114.1.length C460, .int .i64 0] → TB (m + 2) c463 w464 (some ad48) o289 → MU81 (m + 3) c463 w464 (some qa61) o293 → RD (m + 1) c463 w464 p14 t114.2 → SL true (Kint .u8) 0 0 c463 w464 A459 C460 t114.1 → table_Read.j5 k t18 t92 t114 i286 o289 o293 s294 = some ctl300 → K314 a w464 := by
    intro c463 w464 a t92 qa127 t114 A459 C460 F E B h129 h288 h292 h458 h461 H; unfold table_Read.j5 at H
    as_aux_lemma =>
    refine hK314 _ _ ?_; refine sr fun K465 hK465 => qm F fun a F => ?_; obtain ⟨t248, q249, H⟩ := bind_some H; refine qc F Try.func39 (parcel_Reader_Num.calls (m := m + 5) (pl hm0) B h458 (by omega) _ q249) ?_; rintro e w467 ⟨c466, rfl, E468, B, h470⟩; refine rt fun a F => ?_; replace h129 := h129.ev E468; replace E := E.trans E468 lc1; refine qa F fun a F => nil (hK465 _ _ ?_); refine sr fun K472 hK472 => qm F fun a F => ?_; refine qv F (r_convi F Try.underlying3 rfl rfl) fun a F => ?_; refine qf F ff_57_1 fun a F => ?_; refine q_eff0 F rfl rfl (e_store F rfl rfl sz_3 h129 (nb rfl) rfl) ?_; rintro w473 a ⟨E474, h129, Z475⟩ F; replace B := B.size Z475; replace h288 := (h288.ev E468).ev E474; replace h292 := (h292.ev E468).ev E474; replace h461 := (h461.ev E468).ev E474; replace h470 := h470.ev E474; replace E := E.trans E474 lc1; replace h129 : AT _ _ _ _ _ [.slice A459 t114.1.length C460, .int .i64 (IntKind.i64.wrap t248.1)] := h129; refine nil (hK472 _ _ ?_)
    as_aux_lemma =>
    refine sq fun K476 hK476 => ?_; have J482 : ∀ (c483 : Nat → Nat) (w484 : World) (a : Act) (b481 : Bool), Fr a 81 [(4, .pointer p14), (5, .int .u64 t18.1), (6, .int .u64 i286), (7, .pointer (some ad48)), (8, .bool b481), (9, .map (Option.map Addr.block (some qa61))), (11, .string (bs t92.1)), (12, .pointer (some qa127)), (13, .int .u64 t248.1)] → Ev (fun x => False ∨ m ≤ x) c0 w0 c483 w484 → CB (m + 5) c483 w484 → AT true (m + 4) c483 w484 qa127 [.slice A459 t114.1.length C460, .int .i64 (IntKind.i64.wrap t248.1)] → RD (m + 1) c483 w484 p14 t248.2 → TB (m + 2) c483 w484 (some ad48) o289 → MU81 (m + 3) c483 w484 (some qa61) o293 → SL true (Kint .u8) 0 0 c483 w484 A459 C460 t114.1 → table_Read.j6 k t92 t114 t248 i286 o289 o293 b481 = some ctl300 → K476 a w484 := by
     intro c483 w484 a b481 F E B h129 h470 h288 h292 h461 H; unfold table_Read.j6 at H; refine hK476 _ _ ?_; refine sr fun K485 hK485 => qm F fun a F => qm F fun a F => qm F fun a F => ?_; replace H := ifN H; obtain ⟨g270, H⟩ := H; refine q_eff0 F rfl rfl (e_mapUpdate (z := true) F Try.underlying71 Try.underlying81 rfl rfl rfl h292 g270.1 (n_ok g270.2)) ?_; rintro w486 a ⟨E487, h488, Z489⟩ F; replace B := B.size Z489; replace h129 := h129.ev E487; replace h288 := h288.ev E487; replace h461 := h461.ev E487; replace E := E.trans E487 lc1; replace h488 : MU81 (m + 3) c483 w486 (some qa61) (MpV.mk (fun i_ => if i_ = t248.1 then some true else o293.f i_) (o293.n + 1)) := h488; refine qa F fun a F => nil (hK485 _ _ ?_); refine reg ?_; refine qm F fun a F => qm F fun a F => ?_; refine qv F (r_loads (cs := [.slice A459 t114.1.length C460, .int .i64 (IntKind.i64.wrap t248.1)]) F rfl ag_57 sz_57 h129) fun a F => ?_; obtain ⟨t275, q276, H⟩ := bind_some H; refine qc F Try.func30 (table_Table_set.calls k (m := m + 5) (a6 := table_cell.mk t114.1 (IntKind.i64.wrap t248.1)) (pl hm0) B h288 h461.r ⟨(pl hm0), lm⟩ _ q276) ?_; rintro e w491 ⟨c490, rfl, E492, B, h494⟩
     as_aux_lemma =>
     refine rt fun a F => ?_; replace h470 := (h470.ev E487).ev E492; replace h488 := h488.ev E492; replace E := E.trans E492 lc1; refine nil (hK313 _ _ ?_); replace F : Fr a 81 [(4, .pointer p14), (5, .int .u64 t18.1), (6, .int .u64 i286), (7, .pointer (some ad48)), (8, .bool b481), (9, .map (Option.map Addr.block (some qa61))), (10, .string (bs t92.1))] := F.sub ⟨rfl, rfl, rfl, rfl, rfl, rfl, rfl, trivial⟩; refine reg ?_; refine qm F fun a F => ?_; refine qv F (r_sub F rfl rfl) fun a F => ?_; refine qa F fun a F => nil ?_; replace H := HN298 _ (si H).symm; exact hX297 _ _ _ (Nat.lt_succ_self _) ⟨t248.2, (IntKind.u64.wrap (i286 - 1)), t275, b481, (MpV.mk (fun i_ => if i_ = t248.1 then some true else o293.f i_) (o293.n + 1)), (bs t92.1), c490, F.sub ⟨rfl, rfl, rfl, rfl, rfl, rfl, rfl, trivial⟩, E, B, h470, h494, h488, H⟩
    refine reg ?_; refine qm F fun a F => qm F fun a F => ?_; refine qv F (r_sgtr F rfl rfl) fun a F => ?_; refine qm F fun a F => ?_
    by_cases hb477 : (Op.bytesLess (bs t92.1).toList s294.toList || ((bs t92.1).toList == s294.toList)) = true
    ·replace H := ip hb477 H; refine qn F (congrArg not hb477) fun a F => qn F (congrArg not hb477) fun a F => ?_; refine qv F (r_pick_f F rfl (congrArg not hb477) rfl) fun a F => ?_; refine qm F fun a F => qn F rfl fun a F => qn F rfl fun a F => qn F rfl fun a F => ?_; refine qp F fun a F => ?_; refine qm F fun a F => qn F rfl fun a F => qn F rfl fun a F => qn F rfl fun a F => qn F rfl fun a F => ?_
     as_aux_lemma =>
     refine qp F fun a F => ?_; refine qa F fun a F => nil ?_; exact J482 c466 w473 a false (F.sub ⟨rfl, rfl, rfl, rfl, rfl, rfl, rfl, rfl, rfl, trivial⟩) E B h129 h470 h288 h292 h461 H
    replace H := im hb477 H; refine qy F (congrArg not (bfalse hb477)) ?_; refine qm F fun a F => ?_; refine qy F (congrArg not (bfalse hb477)) ?_; refine qv F (r_gtr F rfl rfl) fun a F => ?_; refine qv F (r_pick_t F rfl (congrArg not (bfalse hb477)) rfl) fun a F => ?_; refine qm F fun a F => ?_
    by_cases hb478 : 0 < t248.1
    ·replace H := ip hb478 H; refine qy F (dt hb478) ?_; refine qm F fun a F => ?_; refine qy F (dt hb478) ?_; refine qm F fun a F => ?_; refine qy F (dt hb478) ?_; refine qv F (r_leq F rfl rfl) fun a F => ?_; refine qv F (r_pick_t F rfl (dt hb478) rfl) fun a F => ?_; refine qm F fun a F => ?_
     by_cases hb479 : t248.1 ≤ t18.1
     ·replace H := ip hb479 H; refine qy F (dt hb479) ?_; refine qm F fun a F => ?_
      as_aux_lemma =>
      refine qy F (dt hb479) ?_; refine qm F fun a F => ?_; replace H := ifN H; obtain ⟨g480, H⟩ := H; refine qy F (dt hb479) ?_; refine qv F (r_lookupm (emb := Value.bool) (z := false) F Try.underlying71 Try.underlying81 (fun w => by kernel_rfl) rfl rfl h292 g480) fun a F => ?_; refine qy F (dt hb479) ?_; refine qv F (r_not F rfl) fun a F => ?_; refine qv F (r_pick_t F rfl (dt hb479) rfl) fun a F => ?_; refine qa F fun a F => nil ?_; exact J482 c466 w473 a (!((o293.f t248.1).getD false)) (F.sub ⟨rfl, rfl, rfl, rfl, rfl, rfl, rfl, rfl, rfl, trivial⟩) E B h129 h470 h288 h292 h461 H
     replace H := im hb479 H; refine qn F (dz hb479) fun a F => qn F (dz hb479) fun a F => qn F (dz hb479) fun a F => qn F (dz hb479) fun a F => ?_; refine qv F (r_pick_f F rfl (dz hb479) rfl) fun a F => ?_; refine qa F fun a F => nil ?_; exact J482 c466 w473 a false (F.sub ⟨rfl, rfl, rfl, rfl, rfl, rfl, rfl, rfl, rfl, trivial⟩) E B h129 h470 h288 h292 h461 H
    replace H := im hb478 H; refine qn F (dz hb478) fun a F => qn F (dz hb478) fun a F => qn F (dz hb478) fun a F => ?_; refine qv F (r_pick_f F rfl (dz hb478) rfl) fun a F => ?_; refine qm F fun a F => qn F rfl fun a F => qn F rfl fun a F => qn F rfl fun a F => qn F rfl fun a F => ?_; refine qp F fun a F => ?_; refine qa F fun a F => nil ?_; exact J482 c466 w473 a false (F.sub ⟨rfl, rfl, rfl, rfl, rfl, rfl, rfl, rfl, rfl, trivial⟩) E B h129 h470 h288 h292 h461 H
   as_aux_lemma =>
   refine regD (SB (fun x => x = m + 1) c310 w311) 8 (.q 0 (.q 3 (.f 1 (.g 2 (.f 4 (.q 5 (.e 6 (.q 7 (.e 8 .nil)))) 6 (.e 4 (.q 5 (.q 7 (.e 8 .nil))))) 4 (.q 5 (.f 2 (.e 6 (.q 7 (.e 8 .nil))) 6 (.e 2 (.q 7 (.e 8 .nil))))) 6 (.f 2 (.e 4 (.q 5 (.q 7 (.e 8 .nil)))) 4 (.q 5 (.e 2 (.q 7 (.e 8 .nil)))))) 6 (.e 1 (.f 2 (.e 4 (.q 5 (.q 7 (.e 8 .nil)))) 4 (.q 5 (.e 2 (.q 7 (.e 8 .nil))))))))) Try_hm (by decide +kernel) ?_; intro w326 w1_ w2_ w3_ w4_; have E327 : Ev No c310 w311 c310 w326 := Ev.same w1_ w2_ w3_ w4_; replace B := B.same w1_; have ER : Ev (fun x => x = m + 1) c310 w311 c310 w326 := Ev.same w1_ w2_ w3_ w4_; replace h284 := h284.ev E327; replace h288 := h288.ev E327; replace h292 := h292.ev E327; replace E := E.n E327; refine dm F ER.sb fun a F => ?_; refine dm F ER.sb fun a F => ?_; refine d_f ?_ ?_
   ·obtain ⟨t92, q93, H⟩ := bind_some H; refine oc F Try.func40 (parcel_Reader_Text.calls (m := m + 5) (pl hm0) B h284 (by omega) 0 (pl hm0) _ q93) ?_; rintro e w329 ⟨c328, A332, C333, rfl, E330, B, h334, h335⟩; refine rt fun a F => ?_; replace ER := ER.trans E330 (fun x q => by replace q : x = m + 1 := q; show x = m + 1; omega); replace h288 := h288.ev E330; replace h292 := h292.ev E330; replace E := E.trans E330 lc1; refine ⟨fun _ => ER.sb, ?_⟩; refine d_g ?_ ?_ ?_
    ·refine o_val F rfl rfl rfl (by decide) (r_bytesStr F Try.underlying23 Try.underlying5 Try.underlying9 rfl h334) fun a F => ?_; refine ⟨fun _ => ER.sb, ?_⟩
     as_aux_lemma =>
     refine d_f ?_ ?_
     ·obtain ⟨t114, q115, H⟩ := bind_some H; refine oc F Try.func40 (parcel_Reader_Text.calls (m := m + 5) (pl hm0) B h335 (by omega) 0 (pl hm0) _ q115) ?_; rintro e w338 ⟨c337, A341, C342, rfl, E339, B, h343, h344⟩; refine rt fun a F => ?_; replace ER := ER.trans E339 (fun x q => by replace q : x = m + 1 := q; show x = m + 1; omega); replace E := E.trans E339 lc1; refine ⟨fun _ => ER.sb, ?_⟩; refine d_q F rfl rfl rfl (by decide) (fun wq hS => r_build (v := .agg #[.slice A341 t114.1.length C342, .int .i64 0]) F [(0, .slice A341 t114.1.length C342)] (by exact ⟨rfl, rfl, trivial⟩) (fun w => by kernel_rfl)) ER.sb fun a F => ?_; refine d_e ?_; refine o_eff F rfl rfl rfl (by decide) (e_alloc F zv_57 c337 (m + 4)) ?_; rintro v w347 a ⟨c346, qa127, rfl, E348, h129, B349⟩ F; replace B := B349 _ B lm; replace ER := ER.trans E348 nx; replace E := E.n E348; replace h129 : AT _ _ _ _ _ [.slice none 0 0, .int .i64 0] := h129; refine ⟨fun _ => ER.sb, ?_⟩; refine da F ER.sb fun a F => ?_; refine d_e ?_; refine o_eff0 F rfl rfl rfl (e_storeN0 (us := [.slice A341 t114.1.length C342, .int .i64 0]) F rfl rfl sz_57 h129 (nb rfl) (one_all rfl)) ?_; rintro w350 a ⟨E351, h129, Z352⟩ F; replace B := B.size Z352; replace h288 := ((h288.ev E339).ev E348).ev E351
      as_aux_lemma =>
      replace h292 := ((h292.ev E339).ev E348).ev E351; replace h343 := (h343.ev E348).ev E351; replace h344 := (h344.ev E348).ev E351; replace E := E.trans E351 lc1; replace h129 : AT _ _ _ _ _ [.slice A341 t114.1.length C342, .int .i64 0] := h129; refine ⟨fun q => absurd rfl q, ?_⟩; refine d_nil ?_; exact J462 c346 w350 a t92 qa127 t114 A341 C342 (F.sub ⟨rfl, rfl, rfl, rfl, rfl, rfl, rfl, rfl, trivial⟩) E B h129 h288 h292 h344 h343 H
     obtain ⟨t114, q115, H⟩ := bind_some H; refine o_eff F rfl rfl rfl (by decide) (e_alloc F zv_57 c328 (m + 4)) ?_; rintro v w354 a ⟨c353, qa127, rfl, E355, h129, B356⟩ F; replace B := B356 _ B lm; replace ER := ER.trans E355 nx; replace h335 := h335.ev E355; replace E := E.n E355; replace h129 : AT _ _ _ _ _ [.slice none 0 0, .int .i64 0] := h129; refine ⟨fun _ => ER.sb, ?_⟩; refine d_e ?_; refine oc F Try.func40 (parcel_Reader_Text.calls (m := m + 5) (pl hm0) B h335 (by omega) 0 (pl hm0) _ q115) ?_; rintro e w358 ⟨c357, A361, C362, rfl, E359, B, h363, h364⟩; refine rt fun a F => ?_; replace ER := ER.trans E359 (fun x q => by replace q : x = m + 1 := q; show x = m + 1; omega)
     as_aux_lemma =>
     replace h129 := h129.ev E359; replace E := E.trans E359 lc1; refine ⟨fun _ => ER.sb, ?_⟩; refine d_q F rfl rfl rfl (by decide) (fun wq hS => r_build (v := .agg #[.slice A361 t114.1.length C362, .int .i64 0]) F [(0, .slice A361 t114.1.length C362)] (by exact ⟨rfl, rfl, trivial⟩) (fun w => by kernel_rfl)) ER.sb fun a F => ?_; refine da F ER.sb fun a F => ?_; refine d_e ?_; refine o_eff0 F rfl rfl rfl (e_storeN0 (us := [.slice A361 t114.1.length C362, .int .i64 0]) F rfl rfl sz_57 h129 (nb rfl) (one_all rfl)) ?_; rintro w366 a ⟨E367, h129, Z368⟩ F; replace B := B.size Z368; replace h288 := ((h288.ev E355).ev E359).ev E367; replace h292 := ((h292.ev E355).ev E359).ev E367; replace h363 := h363.ev E367; replace h364 := h364.ev E367; replace E := E.trans E367 lc1; replace h129 : AT _ _ _ _ _ [.slice A361 t114.1.length C362, .int .i64 0] := h129; refine ⟨fun q => absurd rfl q, ?_⟩; refine d_nil ?_; exact J462 c357 w366 a t92 qa127 t114 A361 C362 (F.sub ⟨rfl, rfl, rfl, rfl, rfl, rfl, rfl, rfl, trivial⟩) E B h129 h288 h292 h364 h363 H
    ·obtain ⟨t114, q115, H⟩ := bind_some H; refine oc F Try.func40 (parcel_Reader_Text.calls (m := m + 5) (pl hm0) B h335 (by omega) 0 (pl hm0) _ q115) ?_; rintro e w370 ⟨c369, A373, C374, rfl, E371, B, h375, h376⟩; refine rt fun a F => ?_; replace ER := ER.trans E371 (fun x q => by replace q : x = m + 1 := q; show x = m + 1; omega)
     as_aux_lemma =>
     replace h288 := h288.ev E371; replace h292 := h292.ev E371; replace h334 := h334.ev E371; replace E := E.trans E371 lc1; refine ⟨fun _ => ER.sb, ?_⟩; refine d_q F rfl rfl rfl (by decide) (fun wq hS => r_build (v := .agg #[.slice A373 t114.1.length C374, .int .i64 0]) F [(0, .slice A373 t114.1.length C374)] (by exact ⟨rfl, rfl, trivial⟩) (fun w => by kernel_rfl)) ER.sb fun a F => ?_; refine d_f ?_ ?_
     ·refine o_val F rfl rfl rfl (by decide) (r_bytesStr F Try.underlying23 Try.underlying5 Try.underlying9 rfl h334) fun a F => ?_; refine ⟨fun _ => ER.sb, ?_⟩; refine d_e ?_; refine o_eff F rfl rfl rfl (by decide) (e_alloc F zv_57 c369 (m + 4)) ?_; rintro v w379 a ⟨c378, qa127, rfl, E380, h129, B381⟩ F; replace B := B381 _ B lm; replace ER := ER.trans E380 nx; replace E := E.n E380; replace h129 : AT _ _ _ _ _ [.slice none 0 0, .int .i64 0] := h129; refine ⟨fun _ => ER.sb, ?_⟩; refine da F ER.sb fun a F => ?_; refine d_e ?_; refine o_eff0 F rfl rfl rfl (e_storeN0 (us := [.slice A373 t114.1.length C374, .int .i64 0]) F rfl rfl sz_57 h129 (nb rfl) (one_all rfl)) ?_; rintro w382 a ⟨E383, h129, Z384⟩ F; replace B := B.size Z384; replace h288 := (h288.ev E380).ev E383
      as_aux_lemma =>
      replace h292 := (h292.ev E380).ev E383; replace h375 := (h375.ev E380).ev E383; replace h376 := (h376.ev E380).ev E383; replace E := E.trans E383 lc1; replace h129 : AT _ _ _ _ _ [.slice A373 t114.1.length C374, .int .i64 0] := h129; refine ⟨fun q => absurd rfl q, ?_⟩; refine d_nil ?_; exact J462 c378 w382 a t92 qa127 t114 A373 C374 (F.sub ⟨rfl, rfl, rfl, rfl, rfl, rfl, rfl, rfl, trivial⟩) E B h129 h288 h292 h376 h375 H
     refine o_eff F rfl rfl rfl (by decide) (e_alloc F zv_57 c369 (m + 4)) ?_; rintro v w386 a ⟨c385, qa127, rfl, E387, h129, B388⟩ F; replace B := B388 _ B lm; replace ER := ER.trans E387 nx; replace h334 := h334.ev E387; replace E := E.n E387; replace h129 : AT _ _ _ _ _ [.slice none 0 0, .int .i64 0] := h129; refine ⟨fun _ => ER.sb, ?_⟩; refine d_e ?_; refine o_val F rfl rfl rfl (by decide) (r_bytesStr F Try.underlying23 Try.underlying5 Try.underlying9 rfl h334) fun a F => ?_; refine ⟨fun _ => ER.sb, ?_⟩; refine da F ER.sb fun a F => ?_; refine d_e ?_; refine o_eff0 F rfl rfl rfl (e_storeN0 (us := [.slice A373 t114.1.length C374, .int .i64 0]) F rfl rfl sz_57 h129 (nb rfl) (one_all rfl)) ?_; rintro w389 a ⟨E390, h129, Z391⟩ F
     as_aux_lemma =>
     replace B := B.size Z391; replace h288 := (h288.ev E387).ev E390; replace h292 := (h292.ev E387).ev E390; replace h375 := (h375.ev E387).ev E390; replace h376 := (h376.ev E387).ev E390; replace E := E.trans E390 lc1; replace h129 : AT _ _ _ _ _ [.slice A373 t114.1.length C374, .int .i64 0] := h129; refine ⟨fun q => absurd rfl q, ?_⟩; refine d_nil ?_; exact J462 c385 w389 a t92 qa127 t114 A373 C374 (F.sub ⟨rfl, rfl, rfl, rfl, rfl, rfl, rfl, rfl, trivial⟩) E B h129 h288 h292 h376 h375 H
    refine o_eff F rfl rfl rfl (by decide) (e_alloc F zv_57 c328 (m + 4)) ?_; rintro v w393 a ⟨c392, qa127, rfl, E394, h129, B395⟩ F; replace B := B395 _ B lm; replace ER := ER.trans E394 nx; replace h288 := h288.ev E394; replace h292 := h292.ev E394; replace h334 := h334.ev E394; replace h335 := h335.ev E394; replace E := E.n E394; replace h129 : AT _ _ _ _ _ [.slice none 0 0, .int .i64 0] := h129; refine ⟨fun _ => ER.sb, ?_⟩; refine d_f ?_ ?_
    ·refine o_val F rfl rfl rfl (by decide) (r_bytesStr F Try.underlying23 Try.underlying5 Try.underlying9 rfl h334) fun a F => ?_
     as_aux_lemma =>
     refine ⟨fun _ => ER.sb, ?_⟩; refine d_e ?_; obtain ⟨t114, q115, H⟩ := bind_some H; refine oc F Try.func40 (parcel_Reader_Text.calls (m := m + 5) (pl hm0) B h335 (by omega) 0 (pl hm0) _ q115) ?_; rintro e w397 ⟨c396, A400, C401, rfl, E398, B, h402, h403⟩; refine rt fun a F => ?_; replace ER := ER.trans E398 (fun x q => by replace q : x = m + 1 := q; show x = m + 1; omega); replace h129 := h129.ev E398; replace E := E.trans E398 lc1; refine ⟨fun _ => ER.sb, ?_⟩; refine d_q F rfl rfl rfl (by decide) (fun wq hS => r_build (v := .agg #[.slice A400 t114.1.length C401, .int .i64 0]) F [(0, .slice A400 t114.1.length C401)] (by exact ⟨rfl, rfl, trivial⟩) (fun w => by kernel_rfl)) ER.sb fun a F => ?_; refine da F ER.sb fun a F => ?_; refine d_e ?_; refine o_eff0 F rfl rfl rfl (e_storeN0 (us := [.slice A400 t114.1.length C401, .int .i64 0]) F rfl rfl sz_57 h129 (nb rfl) (one_all rfl)) ?_; rintro w405 a ⟨E406, h129, Z407⟩ F; replace B := B.size Z407; replace h288 := (h288.ev E398).ev E406; replace h292 := (h292.ev E398).ev E406; replace h402 := h402.ev E406; replace h403 := h403.ev E406; replace E := E.trans E406 lc1; replace h129 : AT _ _ _ _ _ [.slice A400 t114.1.length C401, .int .i64 0] := h129
     as_aux_lemma =>
     refine ⟨fun q => absurd rfl q, ?_⟩; refine d_nil ?_; exact J462 c396 w405 a t92 qa127 t114 A400 C401 (F.sub ⟨rfl, rfl, rfl, rfl, rfl, rfl, rfl, rfl, trivial⟩) E B h129 h288 h292 h403 h402 H
    obtain ⟨t114, q115, H⟩ := bind_some H; refine oc F Try.func40 (parcel_Reader_Text.calls (m := m + 5) (pl hm0) B h335 (by omega) 0 (pl hm0) _ q115) ?_; rintro e w409 ⟨c408, A412, C413, rfl, E410, B, h414, h415⟩; refine rt fun a F => ?_; replace ER := ER.trans E410 (fun x q => by replace q : x = m + 1 := q; show x = m + 1; omega); replace h334 := h334.ev E410; replace h129 := h129.ev E410; replace E := E.trans E410 lc1; refine ⟨fun _ => ER.sb, ?_⟩; refine d_q F rfl rfl rfl (by decide) (fun wq hS => r_build (v := .agg #[.slice A412 t114.1.length C413, .int .i64 0]) F [(0, .slice A412 t114.1.length C413)] (by exact ⟨rfl, rfl, trivial⟩) (fun w => by kernel_rfl)) ER.sb fun a F => ?_; refine d_e ?_; refine o_val F rfl rfl rfl (by decide) (r_bytesStr F Try.underlying23 Try.underlying5 Try.underlying9 rfl h334) fun a F => ?_; refine ⟨fun _ => ER.sb, ?_⟩; refine da F ER.sb fun a F => ?_; refine d_e ?_; refine o_eff0 F rfl rfl rfl (e_storeN0 (us := [.slice A412 t114.1.length C413, .int .i64 0]) F rfl rfl sz_57 h129 (nb rfl) (one_all rfl)) ?_; rintro w417 a ⟨E418, h129, Z419⟩ F; replace B := B.size Z419; replace h288 := (h288.ev E410).ev E418
    as_aux_lemma =>
    replace h292 := (h292.ev E410).ev E418; replace h414 := h414.ev E418; replace h415 := h415.ev E418; replace E := E.trans E418 lc1; replace h129 : AT _ _ _ _ _ [.slice A412 t114.1.length C413, .int .i64 0] := h129; refine ⟨fun q => absurd rfl q, ?_⟩; refine d_nil ?_; exact J462 c408 w417 a t92 qa127 t114 A412 C413 (F.sub ⟨rfl, rfl, rfl, rfl, rfl, rfl, rfl, rfl, trivial⟩) E B h129 h288 h292 h415 h414 H
   refine o_eff F rfl rfl rfl (by decide) (e_alloc F zv_57 c310 (m + 4)) ?_; rintro v w421 a ⟨c420, qa127, rfl, E422, h129, B423⟩ F; replace B := B423 _ B lm; replace ER := ER.trans E422 nx; replace h284 := h284.ev E422; replace E := E.n E422; replace h129 : AT _ _ _ _ _ [.slice none 0 0, .int .i64 0] := h129; refine ⟨fun _ => ER.sb, ?_⟩; refine d_e ?_; obtain ⟨t92, q93, H⟩ := bind_some H; refine oc F Try.func40 (parcel_Reader_Text.calls (m := m + 5) (pl hm0) B h284 (by omega) 0 (pl hm0) _ q93) ?_; rintro e w425 ⟨c424, A428, C429, rfl, E426, B, h430, h431⟩; refine rt fun a F => ?_; replace ER := ER.trans E426 (fun x q => by replace q : x = m + 1 := q; show x = m + 1; omega)
   as_aux_lemma =>
   replace h288 := (h288.ev E422).ev E426; replace h292 := (h292.ev E422).ev E426; replace h129 := h129.ev E426; replace E := E.trans E426 lc1; refine ⟨fun _ => ER.sb, ?_⟩; refine d_f ?_ ?_
   ·refine o_val F rfl rfl rfl (by decide) (r_bytesStr F Try.underlying23 Try.underlying5 Try.underlying9 rfl h430) fun a F => ?_; refine ⟨fun _ => ER.sb, ?_⟩; refine d_e ?_; obtain ⟨t114, q115, H⟩ := bind_some H; refine oc F Try.func40 (parcel_Reader_Text.calls (m := m + 5) (pl hm0) B h431 (by omega) 0 (pl hm0) _ q115) ?_; rintro e w434 ⟨c433, A437, C438, rfl, E435, B, h439, h440⟩; refine rt fun a F => ?_; replace ER := ER.trans E435 (fun x q => by replace q : x = m + 1 := q; show x = m + 1; omega); replace h129 := h129.ev E435; replace E := E.trans E435 lc1; refine ⟨fun _ => ER.sb, ?_⟩; refine d_q F rfl rfl rfl (by decide) (fun wq hS => r_build (v := .agg #[.slice A437 t114.1.length C438, .int .i64 0]) F [(0, .slice A437 t114.1.length C438)] (by exact ⟨rfl, rfl, trivial⟩) (fun w => by kernel_rfl)) ER.sb fun a F => ?_; refine da F ER.sb fun a F => ?_; refine d_e ?_; refine o_eff0 F rfl rfl rfl (e_storeN0 (us := [.slice A437 t114.1.length C438, .int .i64 0]) F rfl rfl sz_57 h129 (nb rfl) (one_all rfl)) ?_; rintro w442 a ⟨E443, h129, Z444⟩ F; replace B := B.size Z444
    as_aux_lemma =>
    replace h288 := (h288.ev E435).ev E443; replace h292 := (h292.ev E435).ev E443; replace h439 := h439.ev E443; replace h440 := h440.ev E443; replace E := E.trans E443 lc1; replace h129 : AT _ _ _ _ _ [.slice A437 t114.1.length C438, .int .i64 0] := h129; refine ⟨fun q => absurd rfl q, ?_⟩; refine d_nil ?_; exact J462 c433 w442 a t92 qa127 t114 A437 C438 (F.sub ⟨rfl, rfl, rfl, rfl, rfl, rfl, rfl, rfl, trivial⟩) E B h129 h288 h292 h440 h439 H
   obtain ⟨t114, q115, H⟩ := bind_some H; refine oc F Try.func40 (parcel_Reader_Text.calls (m := m + 5) (pl hm0) B h431 (by omega) 0 (pl hm0) _ q115) ?_; rintro e w446 ⟨c445, A449, C450, rfl, E447, B, h451, h452⟩; refine rt fun a F => ?_; replace ER := ER.trans E447 (fun x q => by replace q : x = m + 1 := q; show x = m + 1; omega); replace h129 := h129.ev E447; replace h430 := h430.ev E447; replace E := E.trans E447 lc1; refine ⟨fun _ => ER.sb, ?_⟩; refine d_q F rfl rfl rfl (by decide) (fun wq hS => r_build (v := .agg #[.slice A449 t114.1.length C450, .int .i64 0]) F [(0, .slice A449 t114.1.length C450)] (by exact ⟨rfl, rfl, trivial⟩) (fun w => by kernel_rfl)) ER.sb fun a F => ?_; refine d_e ?_; refine o_val F rfl rfl rfl (by decide) (r_bytesStr F Try.underlying23 Try.underlying5 Try.underlying9 rfl h430) fun a F => ?_; refine ⟨fun _ => ER.sb, ?_⟩
   as_aux_lemma =>
   refine da F ER.sb fun a F => ?_; refine d_e ?_; refine o_eff0 F rfl rfl rfl (e_storeN0 (us := [.slice A449 t114.1.length C450, .int .i64 0]) F rfl rfl sz_57 h129 (nb rfl) (one_all rfl)) ?_; rintro w454 a ⟨E455, h129, Z456⟩ F; replace B := B.size Z456; replace h288 := (h288.ev E447).ev E455; replace h292 := (h292.ev E447).ev E455; replace h451 := h451.ev E455; replace h452 := h452.ev E455; replace E := E.trans E455 lc1; replace h129 : AT _ _ _ _ _ [.slice A449 t114.1.length C450, .int .i64 0] := h129; refine ⟨fun q => absurd rfl q, ?_⟩; refine d_nil ?_; exact J462 c445 w454 a t92 qa127 t114 A449 C450 (F.sub ⟨rfl, rfl, rfl, rfl, rfl, rfl, rfl, rfl, trivial⟩) E B h129 h288 h292 h452 h451 H
  replace H := im hb312 H; refine wcf (fb F (bfalse hb312)) ?_; refine wp_exit ?_; refine thenE ?_; refine thenE ?_; refine inbE ?_; have hx_ := HD299 _ (si H).symm; have H := HR303; rw [← hx_] at H; exact J513 c310 w311 a o285 o289 b290 (F.sub ⟨rfl, rfl, rfl, trivial⟩) E B h284 h288 H
 as_aux_lemma =>
 refine reg ?_; refine qm F fun a F => ?_; refine qv F (r_gtr F rfl rfl) fun a F => ?_; refine qm F fun a F => ?_
 by_cases hb307 : 0 < i286
 ·replace H := ip hb307 H; refine qy F (dt hb307) ?_; refine qm F fun a F => ?_; refine qv F (r_pick_t F rfl (dt hb307) rfl) fun a F => ?_; refine nil ?_; exact J309 c295 w296 a b290 (F.sub ⟨rfl, rfl, rfl, rfl, rfl, rfl, rfl, rfl, trivial⟩) E B h284 h288 h292 H
 replace H := im hb307 H; refine qn F (dz hb307) fun a F => ?_; refine qv F (r_pick_f F rfl (dz hb307) rfl) fun a F => ?_; refine nil ?_; exact J309 c295 w296 a false (F.sub ⟨rfl, rfl, rfl, rfl, rfl, rfl, rfl, rfl, trivial⟩) E B h284 h288 h292 H
theorem table_Table_Len.calls {m : Nat} {c0 : Nat → Nat} {w0 : World} {j4 : Nat} {p2 : Option Addr} {a1 : Option Tab} (hm0 : 0 < m) (B0 : CB m c0 w0) (h3 : TB j4 c0 w0 p2 a1) (bj4 : j4 < m) (r : Int) (H : table_Table_Len.f a1 = some r) : Calls Try.prog 17 #[.pointer p2] w0 (fun e w_ => ∃ (c_ : Nat → Nat), e = .returned (.int .i64 r) ∧ Ev (fun x => False) c0 w0 c_ w_ ∧ CB m c_ w_) := by
 unfold table_Table_Len.f at H; have B := B0.mono (show m ≤ m + 1 by omega); have E : Ev (fun x => False ∨ m ≤ x) c0 w0 c0 w0 := Ev.refl; refine enter (N := 10) (l := [.pointer p2]) Try.func17 rfl rfl (nb rfl) fun a F => ?_; refine sr fun K5 hK5 => qa F fun a F => nil (hK5 _ _ ?_); refine sq fun K6 hK6 => ?_; refine sr fun K7 hK7 => qm F fun a F => ?_; refine qv F (r_peqlA F Try.underlying25 rfl rfl (TB.isNone h3)) fun a F => ?_; refine nil (hK7 _ _ ?_)
 by_cases hb8 : (Option.isNone a1) = true
 ·replace H := ip hb8 H; refine wct (fb F hb8) ?_; refine sr fun K9 hK9 => qa F fun a F => nil (hK9 _ _ ?_); refine wp_ret ?_; refine thenR ?_; obtain rfl := si H; refine out1 F rfl rfl ?_; exact ⟨cf (ct m) c0, rfl, E.lv B0, cfb⟩
 replace H := im hb8 H; refine wcf (fb F (bfalse hb8)) (wp_skip (hK6 _ _ ?_)); refine sr fun K10 hK10 => qm F fun a F => ?_; obtain ⟨ob11, e12, H⟩ := bind_some H; have z13 := h3; rw [e12] at z13; obtain ⟨ad14, p16, rfl, hat15, h17⟩ := TB.some z13; refine qi F fun a F => ?_; refine qf F ff_59_0 fun a F => ?_; refine ql F ag_54 hat15 fun a F => ?_; obtain ⟨t19, q20, H⟩ := bind_some H; refine qc F Try.func34 (tree_Tree_Len.calls (m := m + 1) (pl hm0) B h17 _ q20) ?_; rintro e w22 ⟨c21, rfl, E23, B⟩; refine rt fun a F => ?_; replace E := E.n E23; refine qa F fun a F => nil (hK10 _ _ ?_); replace F : Fr a 10 [(2, .int .i64 t19)] := F.sub ⟨rfl, trivial⟩; refine wp_ret ?_; obtain rfl := si H; refine out1 F rfl rfl ?_; exact ⟨cf (ct m) c21, rfl, E.lv B0, cfb⟩
theorem table_Table_Rev.calls {m : Nat} {c0 : Nat → Nat} {w0 : World} {j4 : Nat} {p2 : Option Addr} {a1 : Option Tab} (hm0 : 0 < m) (B0 : CB m c0 w0) (h3 : TB j4 c0 w0 p2 a1) (bj4 : j4 < m) (r : Int) (H : table_Table_Rev.f a1 = some r) : Calls Try.prog 18 #[.pointer p2] w0 (fun e w_ => ∃ (c_ : Nat → Nat), e = .returned (.int .i64 r) ∧ Ev (fun x => False) c0 w0 c_ w_ ∧ CB m c_ w_) := by
 unfold table_Table_Rev.f at H; have B := B0.mono (show m ≤ m + 1 by omega); have E : Ev (fun x => False ∨ m ≤ x) c0 w0 c0 w0 := Ev.refl; refine enter (N := 9) (l := [.pointer p2]) Try.func18 rfl rfl (nb rfl) fun a F => ?_; refine sr fun K5 hK5 => qa F fun a F => nil (hK5 _ _ ?_); refine sq fun K6 hK6 => ?_; refine sr fun K7 hK7 => qm F fun a F => ?_; refine qv F (r_peqlA F Try.underlying25 rfl rfl (TB.isNone h3)) fun a F => ?_; refine nil (hK7 _ _ ?_)
 by_cases hb8 : (Option.isNone a1) = true
 ·replace H := ip hb8 H; refine wct (fb F hb8) ?_; refine sr fun K9 hK9 => qa F fun a F => nil (hK9 _ _ ?_); refine wp_ret ?_; refine thenR ?_; obtain rfl := si H; refine out1 F rfl rfl ?_; exact ⟨cf (ct m) c0, rfl, E.lv B0, cfb⟩
 replace H := im hb8 H; refine wcf (fb F (bfalse hb8)) (wp_skip (hK6 _ _ ?_)); refine sr fun K10 hK10 => qm F fun a F => ?_; obtain ⟨ob11, e12, H⟩ := bind_some H; have z13 := h3; rw [e12] at z13; obtain ⟨ad14, p16, rfl, hat15, h17⟩ := TB.some z13; refine qi F fun a F => ?_; refine qf F ff_59_1 fun a F => ?_; refine ql F ag_3 hat15 fun a F => ?_; refine qa F fun a F => nil (hK10 _ _ ?_); refine wp_ret ?_; obtain rfl := si H; refine out1 F rfl rfl ?_; exact ⟨cf (ct m) c0, rfl, E.lv B0, cfb⟩
theorem table_Table_Rows.calls {m : Nat} {c0 : Nat → Nat} {w0 : World} {j4 : Nat} {p2 : Option Addr} {a1 : Option Tab} (hm0 : 0 < m) (B0 : CB m c0 w0) (h3 : TB j4 c0 w0 p2 a1) (bj4 : j4 < m) (jr246 : Nat) (bjr246 : jr246 < m) (jy_ : Nat) (bjy_ : 0 < jy_ ∧ jy_ < m) (r : (List api_Row)) (H : table_Table_Rows.f a1 = some r) : Calls Try.prog 10 #[.pointer p2] w0 (fun e w_ => ∃ (c_ : Nat → Nat) (A0_ : Option Addr) (C0_ : Nat), e = .returned (.slice A0_ r.length C0_) ∧ Ev (fun x => False) c0 w0 c_ w_ ∧ CB m c_ w_ ∧ OL KO_api_Row jr246 jy_ c_ w_ A0_ C0_ r) := by
 unfold table_Table_Rows.f at H; have B := B0.mono (show m ≤ m + 7 by omega); have E : Ev (fun x => False ∨ m ≤ x) c0 w0 c0 w0 := Ev.refl; refine enterM (N := 27) (l := [.pointer p2]) Try.func10 rfl rfl (nb rfl) fun a F => ?_; refine sr fun K5 hK5 => qa F fun a F => nil (hK5 _ _ ?_); refine sq fun K6 hK6 => ?_; refine sr fun K7 hK7 => qm F fun a F => ?_; refine qv F (r_peqlA F Try.underlying25 rfl rfl (TB.isNone h3)) fun a F => ?_; refine nil (hK7 _ _ ?_)
 by_cases hb8 : (Option.isNone a1) = true
 ·replace H := ip hb8 H; refine wct (fb F hb8) ?_; refine sr fun K9 hK9 => qa F fun a F => nil (hK9 _ _ ?_); refine wp_ret ?_; refine thenR ?_; refine outM ?_; refine endM0 F ?_; obtain rfl := si H; refine out1 F rfl rfl ?_; exact ⟨cf (fun x_ => if x_ = m + 6 then jr246 else if x_ = m + 9 then jy_ else if x_ < m then x_ else 0) c0, none, 0, rfl, E.lv B0, cfb, OL.nil bjy_.1⟩
 replace H := im hb8 H; refine wcf (fb F (bfalse hb8)) (wp_skip (hK6 _ _ ?_)); refine sr fun K10 hK10 => ?_; refine q_eff F rfl rfl (by decide) (e_alloc F zv_39 c0 (m + 1)) ?_; rintro v w12 a ⟨c11, qa13, rfl, E14, h15, B16⟩ F; replace B := B16 _ B lm; replace h3 := h3.ev E14; replace E := E.n E14; replace h15 : AT _ _ _ _ _ [.slice none 0 0] := h15; refine nil (hK10 _ _ ?_); refine sq fun K18 hK18 => ?_; refine sr fun K19 hK19 => qm F fun a F => ?_; obtain ⟨ob20, e21, H⟩ := bind_some H; have z22 := h3; rw [e21] at z22; obtain ⟨ad23, p25, rfl, hat24, h26⟩ := TB.some z22; refine qi F fun a F => ?_; refine qf F ff_59_0 fun a F => ?_; refine ql F ag_54 hat24 fun a F => ?_; obtain ⟨t28, q29, H⟩ := bind_some H; refine qc F Try.func35 (tree_Tree_All.calls (m := m + 7) (pl hm0) B h26 (m + 2) lm _ q29) ?_; rintro e w31 ⟨c30, vi34, rfl, E32, B, h35⟩; refine rt fun a F => ?_; replace h15 := h15.ev E32; replace E := E.n E32; refine nil (hK19 _ _ ?_); replace F : Fr a 27 [(3, .pointer (some qa13)), (12, vi34)] := F.sub ⟨rfl, rfl, trivial⟩; refine wp_block ?_; obtain ⟨x147, HL, HR148⟩ := bind_some H; have hz_ : ∀ b, b < w31.heap.size → NeAll (c30 b) [m + 7, m + 8] := fun b hb => by have q_ := B b hb; exact ⟨by omega, by omega, trivial⟩
 replace B := B.mono (show m + 7 ≤ m + 10 by omega); refine ITR.range h35 (m := m + 10) (y := m + 3) (z := m + 4) (M := fun x => False ∨ m ≤ x) (g := (fun (s_ : (List api_Row)) (k_ : ByteArray) (v_ : table_cell) => table_Table_Rows.b1 s_ k_ v_)) (fun (s_ : (List api_Row)) (c_ : Nat → Nat) (w_ : World) => Ev (fun x => False ∨ m ≤ x) c30 w31 c_ w_ ∧ ∃ (l139 : List api_Row), ∃ (A136 : Option Addr), ∃ (C137 : Nat), l139 = s_ ∧ AT true (m + 1) c_ w_ qa13 [.slice A136 l139.length C137] ∧ OL KO_api_Row (m + 6) (m + 9) c_ w_ A136 C137 l139) (fun (_ : Unit) _ _ => False) F rfl (by decide) (by decide) (by omega) (by omega) (by omega) (by omega) (by intro q; rcases q with q | q <;> first | exact q.elim | (replace q : False := q; omega) | (replace q : m ≤ 0 := q; omega)) B (fun _ _ _ h_ => h_.1) (fun _ _ _ h_ => h_.elim) (fun s_ c1_ w1_ c2_ w2_ ⟨E_, l139, A136, C137, e_, h15, h138⟩ E2_ => ⟨E_.trans E2_ (fun x q => by show False ∨ m ≤ x; replace q : x = m + 3 := q; omega), l139, A136, C137, e_, AT.ev h15 E2_ mm, OL.ev h138 E2_ mm mm ne_zm⟩) (fun _ _ _ _ _ h_ _ => h_.elim) [] ⟨Ev.refl, [], none, 0, rfl, h15, (OL.nil (by omega))⟩ x147 HL ?_ ?_ ?_
 ·intro bd142 lo143 rec144 s_ s150 v151 c140 w141 A152 C153 rr149 ⟨E, l139, A136, C137, e_, h15, h138⟩ B hb145 hl146 h154 Hg a F; clear HL H; subst e_; have H : table_Table_Rows.b1 l139 s150 v151 = some rr149 := Hg; clear Hg; unfold table_Table_Rows.b1 at H; refine wpIn_seq_k fun K155 hK155 => ?_; refine regR ?_; refine qa F fun a F => nil (hK155 _ _ ?_); refine regR ?_; refine q_eff F rfl rfl (by decide) (e_alloc F zv_57 c140 (m + 5)) ?_; rintro v w157 a ⟨c156, qa55, rfl, E158, h57, B159⟩ F; replace B := B159 _ B lm; replace hb145 := hb145.ev E158 nq; replace hl146 := hl146.ev E158 nq; replace E := E.n E158; replace h57 : AT _ _ _ _ _ [.slice none 0 0, .int .i64 0] := h57; refine q_eff0 F rfl rfl (e_storeN0 (us := [.slice A152 v151.value.length C153, .int .i64 v151.rev]) F rfl rfl sz_57 h57 (nb rfl) (one_all rfl)) ?_; rintro w160 a ⟨E161, h57, Z162⟩ F; replace B := B.size Z162; replace hb145 := hb145.ev E161 mm; replace hl146 := hl146.ev E161 mm; replace E := E.trans E161 lc1; replace h57 : AT _ _ _ _ _ [.slice A152 v151.value.length C153, .int .i64 v151.rev] := h57; refine nil ?_; refine thenN ?_; refine ⟨c156, hl146, fun w163 E164 hl146 Z165 => ?_⟩; replace B := B.size Z165; replace h15 := ((h15.ev E158).ev E161).ev E164; replace hb145 := hb145.ev E164 mm; replace h57 := h57.ev E164; replace E := E.trans E164 lc1; refine wpIn_block ?_; refine regDR (SB (fun x => x = m + 6) c156 w163) 11 (.q 0 (.q 1 (.q 3 (.q 4 (.q 6 (.q 7 (.f 2 (.e 5 (.q 8 (.e 9 (.e 10 (.e 11 .nil))))) 5 (.e 2 (.q 8 (.e 9 (.e 10 (.e 11 .nil)))))))))))) Try_hm (by decide +kernel) ?_; intro w166 w1_ w2_ w3_ w4_; have E167 : Ev No c156 w163 c156 w166 := Ev.same w1_ w2_ w3_ w4_; replace B := B.same w1_; have zh15 := h15; have zh57 := h57; have ER : Ev (fun x => x = m + 6) c156 w163 c156 w166 := Ev.same w1_ w2_ w3_ w4_; replace h15 := h15.ev E167; replace h138 := (((h138.ev E158).ev E161).ev E164).ev E167; replace h154 := (((h154.ev E158).ev E161).ev E164).ev E167; replace hb145 := hb145.ev E167 nq; replace hl146 := hl146.ev E167 nq; replace E := E.n E167; refine dq F (fun wq hS => r_load F rfl ag_39 (AT.cell0 (AT.sb zh15 hS mm) rfl)) ER.sb fun a F => ?_; refine dm F ER.sb fun a F => ?_; refine df F ff_57_0 ER.sb fun a F => ?_; refine dl F ag_23 zh57 mm ER.sb fun a F => ?_; refine df F ff_57_1 ER.sb fun a F => ?_; refine dl F ag_3 zh57 mm ER.sb fun a F => ?_; refine d_f ?_ ?_
  ·replace H := ifN H; obtain ⟨g68, H⟩ := H; refine o_eff F rfl rfl rfl (by decide) (e_strBytes F Try.underlying9 Try.underlying23 Try.underlying5 rfl (by unfold maxLen; omega) c156 (m + 7) 0) ?_; rintro v w169 a ⟨c168, A170, C171, rfl, E172, h173, B174⟩ F; replace B := B174 _ B lm; replace ER := ER.trans E172 nx; replace h154 := h154.ev E172; replace hb145 := hb145.ev E172 nq; replace hl146 := hl146.ev E172 nq; replace E := E.n E172; refine ⟨fun _ => ER.sb, ?_⟩; refine d_e ?_; obtain ⟨t76, q77, H⟩ := bind_some H; refine oc F Try.func29 (bytes_Clone.calls (m := m + 10) (pl hm0) B h154 (by omega) (m + 8) lm _ q77) ?_; rintro e w176 ⟨c175, A179, C180, rfl, E177, B, h181⟩; refine rt fun a F => ?_; replace ER := ER.trans E177 nx; replace hb145 := hb145.ev E177 nq; replace hl146 := hl146.ev E177 nq; replace E := E.n E177; refine ⟨fun _ => ER.sb, ?_⟩; refine d_q F rfl rfl rfl (by decide) (fun wq hS => r_build (v := .agg #[.slice A170 (sb s150).length C171, .slice A179 t76.length C180, .int .i64 v151.rev]) F [(0, .slice A170 (sb s150).length C171), (1, .slice A179 t76.length C180), (2, .int .i64 v151.rev)] (by exact ⟨rfl, rfl, rfl, rfl, rfl, rfl, trivial⟩) (fun w => by kernel_rfl)) ER.sb fun a F => ?_; refine d_e ?_; refine o_eff F rfl rfl rfl (by decide) (e_buildSlice (n := 1) (e := 51) (c := c175) (k := Kraw KO_api_Row.sz KO_api_Row.pos) (i := 0) F [(0, .agg #[.slice A170 (sb s150).length C171, .slice A179 t76.length C180, .int .i64 v151.rev])] [.slice A170 (sb s150).length C171, .slice A179 t76.length C180, .int .i64 v151.rev] ([[.slice A170 (sb s150).length C171, .slice A179 t76.length C180, .int .i64 v151.rev]] : List (List Value)) (by exact ⟨rfl, rfl, trivial⟩) (fun w => by kernel_rfl) rfl (by decide) rfl ⟨⟨rfl, rfl, one_all rfl⟩, trivial⟩ (fun q => q) 0) ?_; rintro v w184 a ⟨c183, A185, C186, rfl, E187, h188, B189⟩ F; replace B := B189 _ B (pl hm0); replace ER := ER.trans E187 nx; replace h138 := ((h138.ev E172).ev E177).ev E187; replace hb145 := hb145.ev E187 nq; replace hl146 := hl146.ev E187 nq; replace E := E.n E187; refine ⟨fun _ => ER.sb, ?_⟩; refine d_e ?_; replace H := ifN H; obtain ⟨g93, H⟩ := H; obtain ⟨css_, hl_, hs_, hg_⟩ := OL.len h138; refine o_eff F rfl rfl rfl (by decide) (e_appendR (e := KO_api_Row) (xs := l139) (ys := [api_Row.mk (sb s150) t76 v151.rev]) (c := c183) (j := (m + 6)) F et_39 rfl rfl hs_ h188 hl_ rfl g93 (len_ok g93) (pl hm0)) ?_; rintro v w191 a ⟨c190, A192, C193, rfl, E194, h195, B196⟩ F; replace B := B196 _ B lm; replace ER := ER.trans E194 (fun x q => by replace q : x = m + 6 := q; show x = m + 6; omega); replace h15 := (((h15.ev E172).ev E177).ev E187).ev E194; replace hb145 := hb145.ev E194 mm; replace hl146 := hl146.ev E194 mm; replace E := E.trans E194 lc1; refine ⟨fun _ => ER.sb, ?_⟩; refine d_e ?_; refine o_eff0 F rfl rfl rfl (e_store0 F rfl rfl sz_39 h15 (nb rfl) rfl) ?_; rintro w197 a ⟨E198, h15, Z199⟩ F; replace B := B.size Z199; replace hb145 := hb145.ev E198 mm; replace hl146 := hl146.ev E198 mm; replace h173 := (((h173.ev E177).ev E187).ev E194).ev E198
   replace h181 := ((h181.ev E187).ev E194).ev E198; replace h195 := h195.ev E198; replace hg_ := (hg_.ev E194).ev E198; replace E := E.trans E198 lc1; replace h15 : AT _ _ _ _ _ [.slice A192 (l139 ++ [api_Row.mk (sb s150) t76 v151.rev]).length C193] := h15; refine ⟨fun q => absurd rfl q, ?_⟩; refine d_nil ?_; have hr_ := si H; subst hr_; obtain ⟨cz, az1, az2, hg_⟩ := GRL.push (zs := [m + 7, m + 8]) (ds := ([.slice A170 (sb s150).length C171, .slice A179 t76.length C180, .int .i64 v151.rev] : List Value)) (x := api_Row.mk (sb s150) t76 v151.rev) hg_ ⟨A170, C171, A179, C180, rfl, h173, h181⟩ rfl ⟨⟨mm, (pl hm0)⟩, ⟨mm, (pl hm0)⟩, trivial⟩ ⟨⟨mm, trivial⟩, trivial, trivial⟩; replace E := E.recolR hz_ az1; replace B := B.recol (fun b_ => (az2 b_).imp id (fun q_ => by rw [q_]; exact lm)); replace h15 := AT.rc h15 (rn az1 ⟨mm, mm, trivial⟩); replace hb145 := OBJ.rcz hb145 az1 ⟨mm, mm, trivial⟩; replace hl146 := OBJ.rcz hl146 az1 ⟨mm, mm, trivial⟩; have h195 : OL KO_api_Row (m + 6) (m + 9) cz _ A192 C193 (l139 ++ [api_Row.mk (sb s150) t76 v151.rev]) := OL.mk (SL.rc h195 (rn az1 ⟨mm, mm, trivial⟩) (rn az1 ⟨ne_zm, ne_zm, trivial⟩)) hg_
   first | refine REn cz hl146 ?_ | refine inbN (REn cz hl146 ?_) | refine inbN (inbN (REn cz hl146 ?_))
   exact ⟨⟨E, (l139 ++ [api_Row.mk (sb s150) t76 v151.rev]), A192, C193, rfl, h15, h195⟩, B, hb145⟩
  replace H := ifN H; obtain ⟨g68, H⟩ := H; obtain ⟨t76, q77, H⟩ := bind_some H; refine oc F Try.func29 (bytes_Clone.calls (m := m + 10) (pl hm0) B h154 (by omega) (m + 8) lm _ q77) ?_; rintro e w201 ⟨c200, A204, C205, rfl, E202, B, h206⟩; refine rt fun a F => ?_; replace ER := ER.trans E202 nx; replace hb145 := hb145.ev E202 nq; replace hl146 := hl146.ev E202 nq; replace E := E.n E202; refine ⟨fun _ => ER.sb, ?_⟩; refine d_e ?_; refine o_eff F rfl rfl rfl (by decide) (e_strBytes F Try.underlying9 Try.underlying23 Try.underlying5 rfl (by unfold maxLen; omega) c200 (m + 7) 0) ?_; rintro v w209 a ⟨c208, A210, C211, rfl, E212, h213, B214⟩ F; replace B := B214 _ B lm; replace ER := ER.trans E212 nx; replace hb145 := hb145.ev E212 nq; replace hl146 := hl146.ev E212 nq; replace E := E.n E212; refine ⟨fun _ => ER.sb, ?_⟩; refine d_q F rfl rfl rfl (by decide) (fun wq hS => r_build (v := .agg #[.slice A210 (sb s150).length C211, .slice A204 t76.length C205, .int .i64 v151.rev]) F [(0, .slice A210 (sb s150).length C211), (1, .slice A204 t76.length C205), (2, .int .i64 v151.rev)] (by exact ⟨rfl, rfl, rfl, rfl, rfl, rfl, trivial⟩) (fun w => by kernel_rfl)) ER.sb fun a F => ?_; refine d_e ?_; refine o_eff F rfl rfl rfl (by decide) (e_buildSlice (n := 1) (e := 51) (c := c208) (k := Kraw KO_api_Row.sz KO_api_Row.pos) (i := 0) F [(0, .agg #[.slice A210 (sb s150).length C211, .slice A204 t76.length C205, .int .i64 v151.rev])] [.slice A210 (sb s150).length C211, .slice A204 t76.length C205, .int .i64 v151.rev] ([[.slice A210 (sb s150).length C211, .slice A204 t76.length C205, .int .i64 v151.rev]] : List (List Value)) (by exact ⟨rfl, rfl, trivial⟩) (fun w => by kernel_rfl) rfl (by decide) rfl ⟨⟨rfl, rfl, one_all rfl⟩, trivial⟩ (fun q => q) 0) ?_; rintro v w216 a ⟨c215, A217, C218, rfl, E219, h220, B221⟩ F; replace B := B221 _ B (pl hm0); replace ER := ER.trans E219 nx; replace h138 := ((h138.ev E202).ev E212).ev E219; replace hb145 := hb145.ev E219 nq; replace hl146 := hl146.ev E219 nq; replace E := E.n E219; refine ⟨fun _ => ER.sb, ?_⟩; refine d_e ?_; replace H := ifN H; obtain ⟨g93, H⟩ := H; obtain ⟨css_, hl_, hs_, hg_⟩ := OL.len h138; refine o_eff F rfl rfl rfl (by decide) (e_appendR (e := KO_api_Row) (xs := l139) (ys := [api_Row.mk (sb s150) t76 v151.rev]) (c := c215) (j := (m + 6)) F et_39 rfl rfl hs_ h220 hl_ rfl g93 (len_ok g93) (pl hm0)) ?_; rintro v w223 a ⟨c222, A224, C225, rfl, E226, h227, B228⟩ F; replace B := B228 _ B lm; replace ER := ER.trans E226 (fun x q => by replace q : x = m + 6 := q; show x = m + 6; omega); replace h15 := (((h15.ev E202).ev E212).ev E219).ev E226; replace hb145 := hb145.ev E226 mm; replace hl146 := hl146.ev E226 mm; replace E := E.trans E226 lc1; refine ⟨fun _ => ER.sb, ?_⟩; refine d_e ?_; refine o_eff0 F rfl rfl rfl (e_store0 F rfl rfl sz_39 h15 (nb rfl) rfl) ?_; rintro w229 a ⟨E230, h15, Z231⟩ F; replace B := B.size Z231; replace hb145 := hb145.ev E230 mm; replace hl146 := hl146.ev E230 mm; replace h206 := (((h206.ev E212).ev E219).ev E226).ev E230
  replace h213 := ((h213.ev E219).ev E226).ev E230; replace h227 := h227.ev E230; replace hg_ := (hg_.ev E226).ev E230; replace E := E.trans E230 lc1; replace h15 : AT _ _ _ _ _ [.slice A224 (l139 ++ [api_Row.mk (sb s150) t76 v151.rev]).length C225] := h15; refine ⟨fun q => absurd rfl q, ?_⟩; refine d_nil ?_; have hr_ := si H; subst hr_; obtain ⟨cz, az1, az2, hg_⟩ := GRL.push (zs := [m + 7, m + 8]) (ds := ([.slice A210 (sb s150).length C211, .slice A204 t76.length C205, .int .i64 v151.rev] : List Value)) (x := api_Row.mk (sb s150) t76 v151.rev) hg_ ⟨A210, C211, A204, C205, rfl, h213, h206⟩ rfl ⟨⟨mm, (pl hm0)⟩, ⟨mm, (pl hm0)⟩, trivial⟩ ⟨⟨mm, trivial⟩, trivial, trivial⟩; replace E := E.recolR hz_ az1; replace B := B.recol (fun b_ => (az2 b_).imp id (fun q_ => by rw [q_]; exact lm)); replace h15 := AT.rc h15 (rn az1 ⟨mm, mm, trivial⟩); replace hb145 := OBJ.rcz hb145 az1 ⟨mm, mm, trivial⟩; replace hl146 := OBJ.rcz hl146 az1 ⟨mm, mm, trivial⟩; have h227 : OL KO_api_Row (m + 6) (m + 9) cz _ A224 C225 (l139 ++ [api_Row.mk (sb s150) t76 v151.rev]) := OL.mk (SL.rc h227 (rn az1 ⟨mm, mm, trivial⟩) (rn az1 ⟨ne_zm, ne_zm, trivial⟩)) hg_
  first | refine REn cz hl146 ?_ | refine inbN (REn cz hl146 ?_) | refine inbN (inbN (REn cz hl146 ?_))
  exact ⟨⟨E, (l139 ++ [api_Row.mk (sb s150) t76 v151.rev]), A224, C225, rfl, h15, h227⟩, B, hb145⟩
 ·intro s_ hx240 c236 w237 bd238 ⟨E241, l139, A136, C137, e_, h15, h138⟩ B hb239 a F; subst e_; rw [hx240] at HR148; have H : table_Table_Rows.j2 l139 = some r := HR148; unfold table_Table_Rows.j2 at H; replace E := E.trans E241 (fun _ q => q); refine hK18 _ _ ?_; refine sr fun K242 hK242 => ?_; refine qv F (r_load F rfl ag_39 (AT.cell0 h15 rfl)) fun a F => ?_; refine qa F fun a F => nil (hK242 _ _ ?_); refine wp_ret ?_; refine outM ?_; refine endM F hb239 fun w243 E244 Z245 a F => ?_; replace h138 := h138.ev E244; replace E := E.trans E244 lc1; refine endM0 F ?_; obtain rfl := si H; refine out1 F rfl rfl ?_; exact ⟨cf (fun x_ => if x_ = m + 6 then jr246 else if x_ = m + 9 then jy_ else if x_ < m then x_ else 0) c236, A136, C137, rfl, E.lv B0, cfb, OL.rc h138 cfk cfk cfk bjy_.1⟩
 intro s_ hx_ c_ w_ bd_ h_; exact h_.elim
end Go.Proofs.Ytoaldfpngihhcaa.G