/- Words, contracts and plain laws on which the row of 'ShardOnce' hangs (its '..UptoSaid': inputs of bulk at most 1048576). -/
import Derived.Test.YthankpjbfpcldaaHShardOnceB
import Derived.Test.YthankpjbfpcldaaHShardOnceD
import Derived.Test.YthankpjbfpcldaaHShardOnceE
import Derived.Test.YthankpjbfpcldaaHShardOnceA
import Derived.Test.YthankpjbfpcldaaRows
import Derived.Deep.Slices
import Derived.ChangeArms
import Derived.KernelRfl
import Derived.Laws.OwnMore
import Derived.Laws.Strings
namespace Go.Proofs.Ythankpjbfpcldaa.G
open Go Go.RowKit
set_option linter.unusedVariables false
set_option linter.unusedSimpArgs false
set_option maxRecDepth 100000
set_option maxHeartbeats 40000000
theorem haulagelaw14_ShardOnce.calls (k : Nat) {m : Nat} {c0 : Nat → Nat} {w0 : World} {A2 : Option Addr} {C3 : Nat} {A6 : Option Addr} {C7 : Nat} {A9 : Option Addr} {C10 : Nat} {a1 : List haulagelaw14_Step} {a5 : api_Op} (hm0 : 0 < m) (B0 : CB m c0 w0) (h4 : SL false K_haulagelaw14_Step 0 0 c0 w0 A2 C3 a1) (h8 : SL false (Kint .u8) 0 0 c0 w0 A6 C7 a5.Key) (h11 : SL false (Kint .u8) 0 0 c0 w0 A9 C10 a5.Value) (r : Bool) (H : haulagelaw14_ShardOnce.f k a1 a5 = some r) : Calls Try.prog 4 #[.slice A2 a1.length C3, .agg #[.int .i64 a5.Kind, .slice A6 a5.Key.length C7, .slice A9 a5.Value.length C10, .int .i64 a5.Rev]] w0 (fun e w_ => ∃ (c_ : Nat → Nat), e = .returned (.bool r) ∧ Ev (fun x => False) c0 w0 c_ w_ ∧ CB m c_ w_) := by
 unfold haulagelaw14_ShardOnce.f at H
 have B := B0.mono (show m ≤ m + 11 by omega)
 have E : Ev (fun x => False ∨ m ≤ x) c0 w0 c0 w0 := Ev.refl
 refine enter (N := 353) (l := [.slice A2 a1.length C3, .agg #[.int .i64 a5.Kind, .slice A6 a5.Key.length C7, .slice A9 a5.Value.length C10, .int .i64 a5.Rev]]) Try.func4 rfl rfl (nb rfl) fun a F => ?_
 refine wp_seq_k fun K12 hK12 => reg ?_
 refine q_eff F rfl rfl (by decide) (e_box F (v := .agg #[.int .i64 a5.Kind, .slice A6 a5.Key.length C7, .slice A9 a5.Value.length C10, .int .i64 a5.Rev]) rfl c0 (m + 1)) ?_
 rintro v w14 a ⟨c13, qa15, rfl, E16, h17, B18⟩ F
 replace B := B18 _ B lm
 replace h4 := h4.ev E16 nq nq
 replace h8 := h8.ev E16 nq nq
 replace h11 := h11.ev E16 nq nq
 replace E := E.trans E16 nx
 replace h17 : AT true (m + 1) c13 w14 qa15 [.int .i64 a5.Kind, .slice A6 a5.Key.length C7, .slice A9 a5.Value.length C10, .int .i64 a5.Rev] := h17
 as_aux_lemma =>
 refine qa F fun a F => ?_
 refine nil (hK12 _ _ ?_)
 refine wp_seq_k fun K20 hK20 => ?_
 refine wp_seq_k fun K21 hK21 => reg ?_
 obtain ⟨t22, q23, H⟩ := bind_some H
 refine qc F Try.func6 (haulagelaw14_known.calls k (m := m + 11) (pl hm0) B _ q23) ?_
 rintro e w25 ⟨c24, rfl, E26, B27⟩
 refine ⟨_, rfl, fun a F => ?_⟩
 have B := B27
 replace h4 := h4.ev E26 nq nq
 replace h8 := h8.ev E26 nq nq
 replace h11 := h11.ev E26 nq nq
 replace h17 := h17.ev E26 nq
 replace E := E.trans E26 nx
 as_aux_lemma =>
 refine qv F (r_not F rfl) fun a F => ?_
 refine nil (hK21 _ _ ?_)
 by_cases hb29 : t22 = true
 ·replace H := ip hb29 H
  refine wp_cond_false (fb F (congrArg not hb29)) (wp_skip (hK20 _ _ ?_))
  refine wp_seq_k fun K31 hK31 => reg ?_
  obtain ⟨t32, q33, H⟩ := bind_some H
  refine qc F Try.func7 (shard_New.calls (m := m + 11) (pl hm0) B (m + 2) lm (m + 3) lm _ q33) ?_
  rintro e w35 ⟨c34, p38, rfl, E36, B37, h39⟩
  refine ⟨_, rfl, fun a F => ?_⟩
  have B := B37
  replace h4 := h4.ev E36 nq nq
  replace h8 := h8.ev E36 nq nq
  replace h11 := h11.ev E36 nq nq
  replace h17 := h17.ev E36 nq
  as_aux_lemma =>
  replace E := E.trans E36 nx
  refine qa F fun a F => ?_
  refine nil (hK31 _ _ ?_)
  refine wp_seq_k fun K41 hK41 => reg ?_
  have h48 : AR K_haulagelaw14_again 0 c34 w35 ((List.replicate 16 ([.bool false, .int .i64 0, .int .i64 0, .int .i64 0, .int .i64 0, .int .i64 0, .slice none 0 0, .slice none 0 0, .int .i64 0, .bool false, .slice none 0 0, .slice none 0 0, .int .i64 0, .int .i64 0] : List Value)).flatten) 16 (List.replicate 16 (haulagelaw14_again.mk false (haulagelaw14_Step.mk 0 0 0 0 (api_Op.mk 0 [] [] 0)) (api_Answer.mk false [] [] 0 0) : haulagelaw14_again)) := AR.zero (by exact ⟨none, 0, none, 0, none, 0, none, 0, rfl, SL.nil, SL.nil, SL.nil, SL.nil⟩) 16
  refine q_eff F rfl rfl (by decide) (e_alloc F zv_53 c34 (m + 4)) ?_
  rintro v w43 a ⟨c42, qa44, rfl, E45, h46, B47⟩ F
  replace B := B47 _ B lm
  replace h4 := h4.ev E45 nq nq
  replace h8 := h8.ev E45 nq nq
  replace h11 := h11.ev E45 nq nq
  replace h17 := h17.ev E45 nq
  replace h39 := h39.ev E45 nq nq nq
  replace h48 := h48.ev E45 nq
  as_aux_lemma =>
  replace E := E.trans E45 nx
  replace h46 : AT true (m + 4) c42 w43 qa44 (([] : List Value) ++ (((List.replicate 16 ([.bool false, .int .i64 0, .int .i64 0, .int .i64 0, .int .i64 0, .int .i64 0, .slice none 0 0, .slice none 0 0, .int .i64 0, .bool false, .slice none 0 0, .slice none 0 0, .int .i64 0, .int .i64 0] : List Value)).flatten) ++ (([] : List Value)))) := h46
  refine nil (hK41 _ _ ?_)
  refine wp_seq_k fun K50 hK50 => reg ?_
  refine qa F fun a F => ?_
  refine nil (hK50 _ _ ?_)
  refine wp_seq_k fun K51 hK51 => ?_
  refine wp_seq_k fun K52 hK52 => reg ?_
  refine qa F fun a F => ?_
  refine nil (hK52 _ _ ?_)
  refine wp_block ?_
  obtain ⟨x561, HL, HR560⟩ := bind_some H
  have J1012 : ∀ (c1013 : Nat → Nat) (w1014 : World) (a : Act) (o1008 : Option Sha) (l1010 : List haulagelaw14_again) (cs1011 : List Value), Fr a 353 [(3, .pointer (some qa15)), (5, .pointer p38), (6, .pointer (some qa44))] → Ev (fun x => False ∨ m ≤ x) c0 w0 c1013 w1014 → CB (m + 11) c1013 w1014 → AT true (m + 1) c1013 w1014 qa15 [.int .i64 a5.Kind, .slice A6 a5.Key.length C7, .slice A9 a5.Value.length C10, .int .i64 a5.Rev] → AT true (m + 4) c1013 w1014 qa44 (([] : List Value) ++ (cs1011 ++ (([] : List Value)))) → SL false (Kint .u8) 0 0 c1013 w1014 A6 C7 a5.Key → SL false (Kint .u8) 0 0 c1013 w1014 A9 C10 a5.Value → SH (m + 2) (m + 3) c1013 w1014 p38 o1008 → AR K_haulagelaw14_again 0 c1013 w1014 cs1011 16 l1010 → haulagelaw14_ShardOnce.j26 k a5 o1008 l1010 = some r → K51 a w1014 := by
   intro c1013 w1014 a o1008 l1010 cs1011 F E B h17 h46 h8 h11 h1007 h1009 H
   unfold haulagelaw14_ShardOnce.j26 at H
   as_aux_lemma =>
   refine hK51 _ _ ?_
   refine wp_seq_k fun K1015 hK1015 => ?_
   refine wp_seq_k fun K1016 hK1016 => reg ?_
   refine qa F fun a F => ?_
   refine nil (hK1016 _ _ ?_)
   refine wp_block ?_
   obtain ⟨x1391, HL, HR1390⟩ := bind_some H
   have J1716 : ∀ (c1717 : Nat → Nat) (w1718 : World) (a : Act), Fr a 353 [] → Ev (fun x => False ∨ m ≤ x) c0 w0 c1717 w1718 → CB (m + 11) c1717 w1718 → haulagelaw14_ShardOnce.j36 = some r → K1015 a w1718 := by
    intro c1717 w1718 a  F E B  H
    unfold haulagelaw14_ShardOnce.j36 at H
    refine hK1015 _ _ ?_
    refine wp_seq_k fun K1719 hK1719 => reg ?_
    refine qa F fun a F => ?_
    refine nil (hK1719 _ _ ?_)
    as_aux_lemma =>
    refine wp_ret ?_
    replace H := si H
    subst H
    refine out1 F rfl rfl ?_
    exact ⟨cf (fun x_ => if x_ < m then x_ else 0) c1717, rfl, E.lv B0, cfb⟩
   refine loop_fuel (I := fun n a w => ∃ (o1380 : Option Sha) (i1381 : Int) (c : Nat → Nat), Fr a 353 [(3, .pointer (some qa15)), (5, .pointer p38), (6, .pointer (some qa44)), (20, .int .i64 i1381)] ∧ Ev (fun x => False ∨ m ≤ x) c0 w0 c w ∧ CB (m + 11) c w ∧ AT true (m + 1) c w qa15 [.int .i64 a5.Kind, .slice A6 a5.Key.length C7, .slice A9 a5.Value.length C10, .int .i64 a5.Rev] ∧ AT true (m + 4) c w qa44 (([] : List Value) ++ (cs1011 ++ (([] : List Value)))) ∧ SL false (Kint .u8) 0 0 c w A6 C7 a5.Key ∧ SL false (Kint .u8) 0 0 c w A9 C10 a5.Value ∧ AR K_haulagelaw14_again 0 c w cs1011 16 l1010 ∧ SH (m + 2) (m + 3) c w p38 o1380 ∧ loop (fun (s_ : (Option Sha) × Int) => haulagelaw14_ShardOnce.b35 k a5 l1010 s_.1 s_.2) n (o1380, i1381) = some x1391) (k := k) ⟨o1008, 0, c1013, F.sub ⟨rfl, rfl, rfl, rfl, trivial⟩, E, B, h17, h46, h8, h11, h1009, h1007, HL⟩ ?_
   clear HL H E F B
   intro n1388 X1384 hX1384 a w1383 ⟨o1380, i1381, c1382, F, E, B, h17, h46, h8, h11, h1009, h1379, HL⟩
   obtain ⟨n1389, ctl1387, rfl, HB, HN1385, HD1386⟩ := loop_some HL
   have H : haulagelaw14_ShardOnce.b35 k a5 l1010 o1380 i1381 = some ctl1387 := HB
   clear HB HL
   unfold haulagelaw14_ShardOnce.b35 at H
   refine wp_seq_k fun K1392 hK1392 => ?_
   refine wp_seq_k fun K1393 hK1393 => reg ?_
   as_aux_lemma =>
   refine qm F fun a F => ?_
   refine qv F (r_lss F rfl rfl) fun a F => ?_
   refine nil (hK1393 _ _ ?_)
   by_cases hb1394 : i1381 < 16
   ·replace H := ip hb1394 H
    refine wp_cond_true (fb F (dt hb1394)) (wp_skip (hK1392 _ _ ?_))
    refine wp_seq_k fun K1395 hK1395 => ?_
    refine wp_block ?_
    refine wp_seq_k fun K1396 hK1396 => ?_
    refine wp_seq_k fun K1397 hK1397 => reg ?_
    refine qm F fun a F => ?_
    replace H := ifN H
    obtain ⟨g1398, H⟩ := H
    obtain ⟨cs1400, h1401, r1402⟩ := AR.at (off := 0) h46 rfl h1009 i1381 g1398.1 (by have g_ := g1398.2; omega)
    obtain ⟨A1404, C1405, A1407, C1408, A1410, C1411, A1413, C1414, rfl, h1406, h1409, h1412, h1415⟩ := r1402
    obtain ⟨qa1403, qqa1403⟩ : ∃ q, q = (qa44.add (0 + i1381.toNat * 14)) := ⟨_, rfl⟩
    have h1401 : AT true (m + 4) c1382 w1383 qa1403 [.bool ((rd l1010 i1381).is), .int .i64 (((rd l1010 i1381).step).Who), .int .i64 (((rd l1010 i1381).step).Kind), .int .i64 (((rd l1010 i1381).step).Client), .int .i64 (((rd l1010 i1381).step).Seq), .int .i64 ((((rd l1010 i1381).step).Op).Kind), .slice A1404 ((((rd l1010 i1381).step).Op).Key).length C1405, .slice A1407 ((((rd l1010 i1381).step).Op).Value).length C1408, .int .i64 ((((rd l1010 i1381).step).Op).Rev), .bool (((rd l1010 i1381).answer).Done), .slice A1410 (((rd l1010 i1381).answer).Key).length C1411, .slice A1413 (((rd l1010 i1381).answer).Value).length C1414, .int .i64 (((rd l1010 i1381).answer).Rev), .int .i64 (((rd l1010 i1381).answer).At)] := by rw [qqa1403]; exact h1401
    as_aux_lemma =>
    refine qv F (r_indexArr0 F ua_53 sz_52 rfl rfl g1398.1 (by have g_ := g1398.2; omega) qqa1403) fun a F => ?_
    refine qf F ff_52_0 fun a F => ?_
    refine qv F (r_load F rfl ag_4 (AT.cell h1401 rfl)) fun a F => ?_
    refine qv F (r_not F rfl) fun a F => ?_
    refine nil (hK1397 _ _ ?_)
    by_cases hb1417 : ((rd l1010 i1381).is) = true
    ·replace H := ip hb1417 H
     refine wp_cond_false (fb F (congrArg not hb1417)) (wp_skip (hK1396 _ _ ?_))
     refine wp_seq_k fun K1418 hK1418 => reg ?_
     refine qm F fun a F => ?_
     obtain ⟨t1055, q1056, H⟩ := bind_some H
     refine qc F Try.func21 (shard_Shard_Export.calls k (m := m + 11) (pl hm0) B h1379 lm ⟨lm, mm⟩ _ q1056) ?_
     rintro e w1420 ⟨c1419, A1423, C1424, rfl, E1421, B1422, h1425⟩
     refine ⟨_, rfl, fun a F => ?_⟩
     have B := B1422
     as_aux_lemma =>
     replace h17 := h17.ev E1421 nq
     replace h46 := h46.ev E1421 nq
     replace h8 := h8.ev E1421 nq nq
     replace h11 := h11.ev E1421 nq nq
     replace h1009 := h1009.ev E1421 nq
     replace h1379 := h1379.ev E1421 nq nq nq
     replace E := E.trans E1421 nx
     refine qa F fun a F => ?_
     refine nil (hK1418 _ _ ?_)
     replace F : Fr a 353 [(3, .pointer (some qa15)), (5, .pointer p38), (6, .pointer (some qa44)), (20, .int .i64 i1381), (21, .slice A1423 t1055.length C1424)] := F.sub ⟨rfl, rfl, rfl, rfl, rfl, trivial⟩
     refine wp_seq_k fun K1427 hK1427 => ?_
     have J1514 : ∀ (c1515 : Nat → Nat) (w1516 : World) (a : Act) (qa1122 : Addr) (t1106 : api_Answer × Bool × Int × (Option Sha)) (A1508 : Option Addr) (C1509 : Nat) (A1511 : Option Addr) (C1512 : Nat), Fr a 353 [(3, .pointer (some qa15)), (5, .pointer p38), (6, .pointer (some qa44)), (20, .int .i64 i1381), (21, .slice A1423 t1055.length C1424), (22, .pointer (some qa1122)), (23, .bool t1106.2.1), (24, .int .i64 t1106.2.2.1)] → Ev (fun x => False ∨ m ≤ x) c0 w0 c1515 w1516 → CB (m + 11) c1515 w1516 → AT true (m + 1) c1515 w1516 qa15 [.int .i64 a5.Kind, .slice A6 a5.Key.length C7, .slice A9 a5.Value.length C10, .int .i64 a5.Rev] → AT true (m + 4) c1515 w1516 qa44 (([] : List Value) ++ (cs1011 ++ (([] : List Value)))) → AT true (m + 9) c1515 w1516 qa1122 [.bool t1106.1.Done, .slice A1508 t1106.1.Key.length C1509, .slice A1511 t1106.1.Value.length C1512, .int .i64 t1106.1.Rev, .int .i64 t1106.1.At] → SL false (Kint .u8) 0 0 c1515 w1516 A6 C7 a5.Key → SL false (Kint .u8) 0 0 c1515 w1516 A9 C10 a5.Value → AR K_haulagelaw14_again 0 c1515 w1516 cs1011 16 l1010 → SL false (Kint .u8) 0 0 c1515 w1516 A1423 C1424 t1055 → SH (m + 2) (m + 3) c1515 w1516 p38 t1106.2.2.2 → SL false (Kint .u8) 0 0 c1515 w1516 A1508 C1509 t1106.1.Key → SL false (Kint .u8) 0 0 c1515 w1516 A1511 C1512 t1106.1.Value → haulagelaw14_ShardOnce.j31 k a5 l1010 t1055 t1106 i1381 = some ctl1387 → K1427 a w1516 := by
      intro c1515 w1516 a qa1122 t1106 A1508 C1509 A1511 C1512 F E B h17 h46 h1124 h8 h11 h1009 h1425 h1507 h1510 h1513 H
      unfold haulagelaw14_ShardOnce.j31 at H
      as_aux_lemma =>
      refine hK1427 _ _ ?_
      refine wp_seq_k fun K1517 hK1517 => ?_
      have J1585 : ∀ (c1586 : Nat → Nat) (w1587 : World) (a : Act) (qa1198 : Addr) (t1182 : api_Answer × Bool × Int × (Option Sha)) (A1579 : Option Addr) (C1580 : Nat) (A1582 : Option Addr) (C1583 : Nat), Fr a 353 [(3, .pointer (some qa15)), (5, .pointer p38), (6, .pointer (some qa44)), (20, .int .i64 i1381), (21, .slice A1423 t1055.length C1424), (22, .pointer (some qa1122)), (23, .bool t1106.2.1), (24, .int .i64 t1106.2.2.1), (25, .pointer (some qa1198)), (26, .bool t1182.2.1), (27, .int .i64 t1182.2.2.1)] → Ev (fun x => False ∨ m ≤ x) c0 w0 c1586 w1587 → CB (m + 11) c1586 w1587 → AT true (m + 1) c1586 w1587 qa15 [.int .i64 a5.Kind, .slice A6 a5.Key.length C7, .slice A9 a5.Value.length C10, .int .i64 a5.Rev] → AT true (m + 4) c1586 w1587 qa44 (([] : List Value) ++ (cs1011 ++ (([] : List Value)))) → AT true (m + 9) c1586 w1587 qa1122 [.bool t1106.1.Done, .slice A1508 t1106.1.Key.length C1509, .slice A1511 t1106.1.Value.length C1512, .int .i64 t1106.1.Rev, .int .i64 t1106.1.At] → AT true (m + 10) c1586 w1587 qa1198 [.bool t1182.1.Done, .slice A1579 t1182.1.Key.length C1580, .slice A1582 t1182.1.Value.length C1583, .int .i64 t1182.1.Rev, .int .i64 t1182.1.At] → SL false (Kint .u8) 0 0 c1586 w1587 A6 C7 a5.Key → SL false (Kint .u8) 0 0 c1586 w1587 A9 C10 a5.Value → AR K_haulagelaw14_again 0 c1586 w1587 cs1011 16 l1010 → SL false (Kint .u8) 0 0 c1586 w1587 A1423 C1424 t1055 → SL false (Kint .u8) 0 0 c1586 w1587 A1508 C1509 t1106.1.Key → SL false (Kint .u8) 0 0 c1586 w1587 A1511 C1512 t1106.1.Value → SH (m + 2) (m + 3) c1586 w1587 p38 t1182.2.2.2 → SL false (Kint .u8) 0 0 c1586 w1587 A1579 C1580 t1182.1.Key → SL false (Kint .u8) 0 0 c1586 w1587 A1582 C1583 t1182.1.Value → haulagelaw14_ShardOnce.j32 k a5 l1010 t1055 t1106 t1182 i1381 = some ctl1387 → K1517 a w1587 := by
       intro c1586 w1587 a qa1198 t1182 A1579 C1580 A1582 C1583 F E B h17 h46 h1124 h1200 h8 h11 h1009 h1425 h1510 h1513 h1578 h1581 h1584 H
       unfold haulagelaw14_ShardOnce.j32 at H
       refine hK1517 _ _ ?_
       refine wp_seq_k fun K1588 hK1588 => ?_
       refine wp_seq_k fun K1589 hK1589 => ?_
       have J1639 : ∀ (c1640 : Nat → Nat) (w1641 : World) (a : Act) (b1638 : Bool), Fr a 353 [(3, .pointer (some qa15)), (5, .pointer p38), (6, .pointer (some qa44)), (20, .int .i64 i1381), (25, .pointer (some qa1198)), (27, .int .i64 t1182.2.2.1), (326, .bool b1638)] → Ev (fun x => False ∨ m ≤ x) c0 w0 c1640 w1641 → CB (m + 11) c1640 w1641 → AT true (m + 1) c1640 w1641 qa15 [.int .i64 a5.Kind, .slice A6 a5.Key.length C7, .slice A9 a5.Value.length C10, .int .i64 a5.Rev] → AT true (m + 4) c1640 w1641 qa44 (([] : List Value) ++ (cs1011 ++ (([] : List Value)))) → AT true (m + 10) c1640 w1641 qa1198 [.bool t1182.1.Done, .slice A1579 t1182.1.Key.length C1580, .slice A1582 t1182.1.Value.length C1583, .int .i64 t1182.1.Rev, .int .i64 t1182.1.At] → SL false (Kint .u8) 0 0 c1640 w1641 A6 C7 a5.Key → SL false (Kint .u8) 0 0 c1640 w1641 A9 C10 a5.Value → SH (m + 2) (m + 3) c1640 w1641 p38 t1182.2.2.2 → AR K_haulagelaw14_again 0 c1640 w1641 cs1011 16 l1010 → SL false (Kint .u8) 0 0 c1640 w1641 A1579 C1580 t1182.1.Key → SL false (Kint .u8) 0 0 c1640 w1641 A1582 C1583 t1182.1.Value → haulagelaw14_ShardOnce.j33 k a5 l1010 t1182 i1381 b1638 = some ctl1387 → K1589 a w1641 := by
        intro c1640 w1641 a b1638 F E B h17 h46 h1200 h8 h11 h1578 h1009 h1581 h1584 H
        unfold haulagelaw14_ShardOnce.j33 at H
        refine hK1589 _ _ ?_
        by_cases hb1642 : b1638 = true
        ·replace H := ip hb1642 H
         refine wp_cond_true (fb F hb1642) ?_
         as_aux_lemma =>
         refine wp_seq_k fun K1643 hK1643 => reg ?_
         refine qa F fun a F => ?_
         refine nil (hK1643 _ _ ?_)
         refine wp_ret ?_
         refine thenR ?_
         refine inbR ?_
         refine thenR ?_
         refine thenR ?_
         refine inbR ?_
         refine thenR ?_
         have hx_ := HD1386 _ (si H).symm
         have H := HR1390
         rw [← hx_] at H
         replace H : some false = some r := H
         as_aux_lemma =>
         replace H := si H
         subst H
         refine out1 F rfl rfl ?_
         exact ⟨cf (fun x_ => if x_ < m then x_ else 0) c1640, rfl, E.lv B0, cfb⟩
        replace H := im hb1642 H
        refine wp_cond_false (fb F (bfalse hb1642)) (wp_skip (hK1588 _ _ ?_))
        refine wp_seq_k fun K1644 hK1644 => ?_
        have J1707 : ∀ (c1708 : Nat → Nat) (w1709 : World) (a : Act) (b1706 : Bool), Fr a 353 [(3, .pointer (some qa15)), (5, .pointer p38), (6, .pointer (some qa44)), (20, .int .i64 i1381), (352, .bool b1706)] → Ev (fun x => False ∨ m ≤ x) c0 w0 c1708 w1709 → CB (m + 11) c1708 w1709 → AT true (m + 1) c1708 w1709 qa15 [.int .i64 a5.Kind, .slice A6 a5.Key.length C7, .slice A9 a5.Value.length C10, .int .i64 a5.Rev] → AT true (m + 4) c1708 w1709 qa44 (([] : List Value) ++ (cs1011 ++ (([] : List Value)))) → SL false (Kint .u8) 0 0 c1708 w1709 A6 C7 a5.Key → SL false (Kint .u8) 0 0 c1708 w1709 A9 C10 a5.Value → SH (m + 2) (m + 3) c1708 w1709 p38 t1182.2.2.2 → AR K_haulagelaw14_again 0 c1708 w1709 cs1011 16 l1010 → haulagelaw14_ShardOnce.j34 t1182 i1381 b1706 = some ctl1387 → K1644 a w1709 := by
         intro c1708 w1709 a b1706 F E B h17 h46 h8 h11 h1578 h1009 H
         unfold haulagelaw14_ShardOnce.j34 at H
         refine hK1644 _ _ ?_
         by_cases hb1710 : b1706 = true
         ·replace H := ip hb1710 H
          refine wp_cond_true (fb F hb1710) ?_
          refine wp_seq_k fun K1711 hK1711 => reg ?_
          as_aux_lemma =>
          refine qa F fun a F => ?_
          refine nil (hK1711 _ _ ?_)
          refine wp_ret ?_
          refine inbR ?_
          refine thenR ?_
          refine thenR ?_
          refine inbR ?_
          refine thenR ?_
          have hx_ := HD1386 _ (si H).symm
          have H := HR1390
          rw [← hx_] at H
          replace H : some false = some r := H
          replace H := si H
          subst H
          as_aux_lemma =>
          refine out1 F rfl rfl ?_
          exact ⟨cf (fun x_ => if x_ < m then x_ else 0) c1708, rfl, E.lv B0, cfb⟩
         replace H := im hb1710 H
         refine wp_cond_false (fb F (bfalse hb1710)) (wp_skip (hK1395 _ _ ?_))
         refine reg ?_
         refine qm F fun a F => ?_
         refine qv F (r_add F rfl rfl) fun a F => ?_
         refine qa F fun a F => ?_
         refine nil ?_
         replace H := HN1385 _ (si H).symm
         exact hX1384 _ _ _ (Nat.lt_succ_self _) ⟨t1182.2.2.2, (IntKind.i64.wrap (i1381 + 1)), c1708, F.sub ⟨rfl, rfl, rfl, rfl, trivial⟩, E, B, h17, h46, h8, h11, h1009, h1578, H⟩
        refine regD (SB No c1640 w1641) 26 (.q 0 (.e 1 (.q 2 (.q 3 (.e 4 (.q 5 (.q 6 (.q 7 (.q 8 (.q 9 (.q 10 (.q 11 (.e 12 (.q 13 (.q 14 (.q 15 (.q 16 (.q 17 (.e 18 (.q 19 (.q 20 (.q 21 (.e 22 (.q 23 (.q 24 (.q 25 .nil)))))))))))))))))))))))))) Try_hm (by decide +kernel) ?_
        intro w1645 w1_ w2_ w3_ w4_
        have E1646 : Ev No c1640 w1641 c1640 w1645 := Ev.same w1_ w2_ w3_ w4_
        as_aux_lemma =>
        replace B := B.same w1_
        have zh17 := h17
        have zh46 := h46
        have zh1200 := h1200
        have zh1009 := h1009
        have ER : Ev No c1640 w1641 c1640 w1645 := Ev.same w1_ w2_ w3_ w4_
        replace h17 := h17.ev E1646 nq
        replace h46 := h46.ev E1646 nq
        replace h8 := h8.ev E1646 nq nq
        replace h11 := h11.ev E1646 nq nq
        replace h1578 := h1578.ev E1646 nq nq nq
        replace h1009 := h1009.ev E1646 nq
        replace h1581 := h1581.ev E1646 nq nq
        replace h1584 := h1584.ev E1646 nq nq
        as_aux_lemma =>
        replace E := E.trans E1646 nx
        refine dq F (fun wq hS => r_loads (cs := [.int .i64 a5.Kind, .slice A6 a5.Key.length C7, .slice A9 a5.Value.length C10, .int .i64 a5.Rev]) F rfl ag_30 sz_30 (AT.sb zh17 hS nq)) ER.sb fun a F => ?_
        refine d_e ?_
        obtain ⟨t1303, q1304, H⟩ := bind_some H
        refine oc F Try.func24 (table_Right.calls (m := m + 11) (pl hm0) B h8 h11 _ q1304) ?_
        rintro e w1648 ⟨c1647, rfl, E1649, B1650⟩
        refine ⟨_, rfl, fun a F => ?_⟩
        have B := B1650
        replace ER := ER.trans E1649 nx
        replace h17 := h17.ev E1649 nq
        replace h46 := h46.ev E1649 nq
        replace h8 := h8.ev E1649 nq nq
        replace h11 := h11.ev E1649 nq nq
        replace h1578 := h1578.ev E1649 nq nq nq
        as_aux_lemma =>
        replace h1009 := h1009.ev E1649 nq
        replace h1581 := h1581.ev E1649 nq nq
        replace h1584 := h1584.ev E1649 nq nq
        replace E := E.trans E1649 nx
        refine ⟨fun _ => ER.sb, ?_⟩
        refine dm F ER.sb fun a F => ?_
        by_cases hb1652 : t1303 = true
        ·replace H := ip hb1652 H
         refine dy F hb1652 (fun wq hS => r_move F rfl) ER.sb fun a F => ?_
         refine d_e ?_
         obtain ⟨t1311, q1312, H⟩ := bind_some H
         refine o_call F rfl (wanted_yes F rfl rfl (by decide) rfl hb1652) rfl (by decide) (r_call F Try.func11 rfl (by kernel_rfl) rfl) (haulagelaw14_num.calls (m := m + 11) (pl hm0) B _ q1312) ?_
         rintro e w1654 ⟨c1653, rfl, E1655, B1656⟩
         refine ⟨_, rfl, fun a F => ?_⟩
         have B := B1656
         as_aux_lemma =>
         replace ER := ER.trans E1655 nx
         replace h17 := h17.ev E1655 nq
         replace h46 := h46.ev E1655 nq
         replace h8 := h8.ev E1655 nq nq
         replace h11 := h11.ev E1655 nq nq
         replace h1578 := h1578.ev E1655 nq nq nq
         replace h1009 := h1009.ev E1655 nq
         replace h1581 := h1581.ev E1655 nq nq
         replace h1584 := h1584.ev E1655 nq nq
         replace E := E.trans E1655 nx
         refine ⟨fun _ => ER.sb, ?_⟩
         refine dy F hb1652 (fun wq hS => r_neq F rfl rfl) ER.sb fun a F => ?_
         refine dy F hb1652 (fun wq hS => r_move F rfl) ER.sb fun a F => ?_
         by_cases hb1658 : t1311 = 0
         ·replace H := ip hb1658 H
          as_aux_lemma =>
          refine dy F (congrArg not (dt hb1658)) (fun wq hS => r_loads (cs := [.bool t1182.1.Done, .slice A1579 t1182.1.Key.length C1580, .slice A1582 t1182.1.Value.length C1583, .int .i64 t1182.1.Rev, .int .i64 t1182.1.At]) F rfl ag_34 sz_34 (AT.sb zh1200 hS nq)) ER.sb fun a F => ?_
          refine dy F (congrArg not (dt hb1658)) (fun wq hS => r_move F rfl) ER.sb fun a F => ?_
          replace H := ifN H
          obtain ⟨g1659, H⟩ := H
          obtain ⟨cs1661, h1662, r1663⟩ := AR.at (off := 0) zh46 rfl zh1009 i1381 g1659.1 (by have g_ := g1659.2; omega)
          obtain ⟨A1665, C1666, A1668, C1669, A1671, C1672, A1674, C1675, rfl, h1667, h1670, h1673, h1676⟩ := r1663
          replace h1673 := SL.fl (i' := 0) h1673 (fun q => q)
          replace h1676 := SL.fl (i' := 0) h1676 (fun q => q)
          obtain ⟨qa1664, qqa1664⟩ : ∃ q, q = (qa44.add (0 + i1381.toNat * 14)) := ⟨_, rfl⟩
          have h1662 : AT true (m + 4) c1640 w1641 qa1664 [.bool ((rd l1010 i1381).is), .int .i64 (((rd l1010 i1381).step).Who), .int .i64 (((rd l1010 i1381).step).Kind), .int .i64 (((rd l1010 i1381).step).Client), .int .i64 (((rd l1010 i1381).step).Seq), .int .i64 ((((rd l1010 i1381).step).Op).Kind), .slice A1665 ((((rd l1010 i1381).step).Op).Key).length C1666, .slice A1668 ((((rd l1010 i1381).step).Op).Value).length C1669, .int .i64 ((((rd l1010 i1381).step).Op).Rev), .bool (((rd l1010 i1381).answer).Done), .slice A1671 (((rd l1010 i1381).answer).Key).length C1672, .slice A1674 (((rd l1010 i1381).answer).Value).length C1675, .int .i64 (((rd l1010 i1381).answer).Rev), .int .i64 (((rd l1010 i1381).answer).At)] := by rw [qqa1664]; exact h1662
          replace h1673 := h1673.ev ER nq nq
          replace h1676 := h1676.ev ER nq nq
          have zh1662 := h1662
          refine dy F (congrArg not (dt hb1658)) (fun wq hS => r_indexArr0 F ua_53 sz_52 rfl rfl g1659.1 (by have g_ := g1659.2; omega) qqa1664) ER.sb fun a F => ?_
          as_aux_lemma =>
          refine dy F (congrArg not (dt hb1658)) (fun wq hS => r_fieldAddr F rfl ff_52_2) ER.sb fun a F => ?_
          refine dy F (congrArg not (dt hb1658)) (fun wq hS => r_loads (cs := [.bool (((rd l1010 i1381).answer).Done), .slice A1671 (((rd l1010 i1381).answer).Key).length C1672, .slice A1674 (((rd l1010 i1381).answer).Value).length C1675, .int .i64 (((rd l1010 i1381).answer).Rev), .int .i64 (((rd l1010 i1381).answer).At)]) F rfl ag_34 sz_34 (AT.sub (AT.sb zh1662 hS nq) 9 5 (nb rfl))) ER.sb fun a F => ?_
          refine d_e ?_
          obtain ⟨t1338, q1339, H⟩ := bind_some H
          refine o_call F rfl (wanted_yes F rfl rfl (by decide) rfl (congrArg not (dt hb1658))) rfl (by decide) (r_call F Try.func13 rfl (by kernel_rfl) rfl) (haulagelaw14_sameAnswer.calls k (m := m + 11) (pl hm0) B h1581 h1584 h1673 h1676 _ q1339) ?_
          rintro e w1679 ⟨c1678, rfl, E1680, B1681⟩
          refine ⟨_, rfl, fun a F => ?_⟩
          have B := B1681
          replace ER := ER.trans E1680 nx
          replace h17 := h17.ev E1680 nq
          replace h46 := h46.ev E1680 nq
          replace h8 := h8.ev E1680 nq nq
          replace h11 := h11.ev E1680 nq nq
          replace h1578 := h1578.ev E1680 nq nq nq
          as_aux_lemma =>
          replace h1009 := h1009.ev E1680 nq
          replace E := E.trans E1680 nx
          refine ⟨fun _ => ER.sb, ?_⟩
          refine dy F (congrArg not (dt hb1658)) (fun wq hS => r_not F rfl) ER.sb fun a F => ?_
          refine dy F hb1652 (fun wq hS => r_pick_f F rfl (congrArg not (dt hb1658)) rfl) ER.sb fun a F => ?_
          refine dq F (fun wq hS => r_pick_t F rfl hb1652 rfl) ER.sb fun a F => ?_
          refine dm F ER.sb fun a F => ?_
          by_cases hb1683 : t1338 = true
          ·replace H := ip hb1683 H
           refine dy F (congrArg not hb1683) (fun wq hS => r_loads (cs := [.int .i64 a5.Kind, .slice A6 a5.Key.length C7, .slice A9 a5.Value.length C10, .int .i64 a5.Rev]) F rfl ag_30 sz_30 (AT.sb zh17 hS nq)) ER.sb fun a F => ?_
           refine d_e ?_
           obtain ⟨t1346, q1347, H⟩ := bind_some H
           refine o_call F rfl (wanted_yes F rfl rfl (by decide) rfl (congrArg not hb1683)) rfl (by decide) (r_call F Try.func24 rfl (by kernel_rfl) rfl) (table_Right.calls (m := m + 11) (pl hm0) B h8 h11 _ q1347) ?_
           rintro e w1685 ⟨c1684, rfl, E1686, B1687⟩
           refine ⟨_, rfl, fun a F => ?_⟩
           have B := B1687
           as_aux_lemma =>
           replace ER := ER.trans E1686 nx
           replace h17 := h17.ev E1686 nq
           replace h46 := h46.ev E1686 nq
           replace h8 := h8.ev E1686 nq nq
           replace h11 := h11.ev E1686 nq nq
           replace h1578 := h1578.ev E1686 nq nq nq
           replace h1009 := h1009.ev E1686 nq
           replace E := E.trans E1686 nx
           refine ⟨fun _ => ER.sb, ?_⟩
           refine dy F (congrArg not hb1683) (fun wq hS => r_not F rfl) ER.sb fun a F => ?_
           refine dy F (congrArg not hb1683) (fun wq hS => r_move F rfl) ER.sb fun a F => ?_
           by_cases hb1689 : t1346 = true
           ·replace H := ip hb1689 H
            refine dn F (congrArg not hb1689) ER.sb fun a F => ?_
            refine d_e ?_
            as_aux_lemma =>
            refine o_no F rfl rfl rfl (by decide) rfl (congrArg not hb1689) rfl (by decide) fun a F => ?_
            refine ⟨fun _ => ER.sb, ?_⟩
            refine dn F (congrArg not hb1689) ER.sb fun a F => ?_
            refine dy F (congrArg not hb1683) (fun wq hS => r_pick_f F rfl (congrArg not hb1689) rfl) ER.sb fun a F => ?_
            refine dq F (fun wq hS => r_pick_f F rfl (congrArg not hb1683) rfl) ER.sb fun a F => ?_
            refine d_nil ?_
            exact J1707 c1684 w1685 a false (F.sub ⟨rfl, rfl, rfl, rfl, rfl, trivial⟩) E B h17 h46 h8 h11 h1578 h1009 H
           replace H := im hb1689 H
           refine dy F (congrArg not (bfalse hb1689)) (fun wq hS => r_move F rfl) ER.sb fun a F => ?_
           refine d_e ?_
           obtain ⟨t1354, q1355, H⟩ := bind_some H
           refine o_call F rfl (wanted_yes F rfl rfl (by decide) rfl (congrArg not (bfalse hb1689))) rfl (by decide) (r_call F Try.func11 rfl (by kernel_rfl) rfl) (haulagelaw14_num.calls (m := m + 11) (pl hm0) B _ q1355) ?_
           rintro e w1691 ⟨c1690, rfl, E1692, B1693⟩
           refine ⟨_, rfl, fun a F => ?_⟩
           have B := B1693
           as_aux_lemma =>
           replace ER := ER.trans E1692 nx
           replace h17 := h17.ev E1692 nq
           replace h46 := h46.ev E1692 nq
           replace h8 := h8.ev E1692 nq nq
           replace h11 := h11.ev E1692 nq nq
           replace h1578 := h1578.ev E1692 nq nq nq
           replace h1009 := h1009.ev E1692 nq
           replace E := E.trans E1692 nx
           refine ⟨fun _ => ER.sb, ?_⟩
           refine dy F (congrArg not (bfalse hb1689)) (fun wq hS => r_neq F rfl rfl) ER.sb fun a F => ?_
           refine dy F (congrArg not hb1683) (fun wq hS => r_pick_t F rfl (congrArg not (bfalse hb1689)) rfl) ER.sb fun a F => ?_
           refine dq F (fun wq hS => r_pick_f F rfl (congrArg not hb1683) rfl) ER.sb fun a F => ?_
           refine d_nil ?_
           exact J1707 c1690 w1691 a (!decide (t1354 = 131)) (F.sub ⟨rfl, rfl, rfl, rfl, rfl, trivial⟩) E B h17 h46 h8 h11 h1578 h1009 H
          as_aux_lemma =>
          replace H := im hb1683 H
          refine dn F (congrArg not (bfalse hb1683)) ER.sb fun a F => ?_
          refine d_e ?_
          refine o_no F rfl rfl rfl (by decide) rfl (congrArg not (bfalse hb1683)) rfl (by decide) fun a F => ?_
          refine ⟨fun _ => ER.sb, ?_⟩
          refine dn F (congrArg not (bfalse hb1683)) ER.sb fun a F => ?_
          refine dn F (congrArg not (bfalse hb1683)) ER.sb fun a F => ?_
          refine du F ER.sb fun a F => ?_
          refine d_e ?_
          refine o_nu F rfl rfl rfl (by decide) rfl rfl (by decide) fun a F => ?_
          refine ⟨fun _ => ER.sb, ?_⟩
          refine du F ER.sb fun a F => ?_
          refine dn F (congrArg not (bfalse hb1683)) ER.sb fun a F => ?_
          refine dq F (fun wq hS => r_pick_t F rfl (congrArg not (bfalse hb1683)) rfl) ER.sb fun a F => ?_
          as_aux_lemma =>
          refine d_nil ?_
          exact J1707 c1678 w1679 a true (F.sub ⟨rfl, rfl, rfl, rfl, rfl, trivial⟩) E B h17 h46 h8 h11 h1578 h1009 H
         replace H := im hb1658 H
         refine dn F (congrArg not (dz hb1658)) ER.sb fun a F => ?_
         refine dn F (congrArg not (dz hb1658)) ER.sb fun a F => ?_
         refine dn F (congrArg not (dz hb1658)) ER.sb fun a F => ?_
         refine dn F (congrArg not (dz hb1658)) ER.sb fun a F => ?_
         refine dn F (congrArg not (dz hb1658)) ER.sb fun a F => ?_
         refine d_e ?_
         refine o_no F rfl rfl rfl (by decide) rfl (congrArg not (dz hb1658)) rfl (by decide) fun a F => ?_
         refine ⟨fun _ => ER.sb, ?_⟩
         refine dn F (congrArg not (dz hb1658)) ER.sb fun a F => ?_
         refine dy F hb1652 (fun wq hS => r_pick_t F rfl (congrArg not (dz hb1658)) rfl) ER.sb fun a F => ?_
         refine dq F (fun wq hS => r_pick_t F rfl hb1652 rfl) ER.sb fun a F => ?_
         as_aux_lemma =>
         refine dm F ER.sb fun a F => ?_
         refine dn F rfl ER.sb fun a F => ?_
         refine d_e ?_
         refine o_no F rfl rfl rfl (by decide) rfl rfl rfl (by decide) fun a F => ?_
         refine ⟨fun _ => ER.sb, ?_⟩
         refine dn F rfl ER.sb fun a F => ?_
         refine dn F rfl ER.sb fun a F => ?_
         refine du F ER.sb fun a F => ?_
         refine d_e ?_
         refine o_nu F rfl rfl rfl (by decide) rfl rfl (by decide) fun a F => ?_
         refine ⟨fun _ => ER.sb, ?_⟩
         refine du F ER.sb fun a F => ?_
         refine dn F rfl ER.sb fun a F => ?_
         refine dq F (fun wq hS => r_pick_t F rfl rfl rfl) ER.sb fun a F => ?_
         as_aux_lemma =>
         refine d_nil ?_
         exact J1707 c1653 w1654 a true (F.sub ⟨rfl, rfl, rfl, rfl, rfl, trivial⟩) E B h17 h46 h8 h11 h1578 h1009 H
        replace H := im hb1652 H
        refine dn F (bfalse hb1652) ER.sb fun a F => ?_
        refine d_e ?_
        refine o_no F rfl rfl rfl (by decide) rfl (bfalse hb1652) rfl (by decide) fun a F => ?_
        refine ⟨fun _ => ER.sb, ?_⟩
        refine dn F (bfalse hb1652) ER.sb fun a F => ?_
        refine dn F (bfalse hb1652) ER.sb fun a F => ?_
        refine du F ER.sb fun a F => ?_
        refine du F ER.sb fun a F => ?_
        refine du F ER.sb fun a F => ?_
        refine du F ER.sb fun a F => ?_
        refine du F ER.sb fun a F => ?_
        as_aux_lemma =>
        refine d_e ?_
        refine o_nu F rfl rfl rfl (by decide) rfl rfl (by decide) fun a F => ?_
        refine ⟨fun _ => ER.sb, ?_⟩
        refine du F ER.sb fun a F => ?_
        refine dn F (bfalse hb1652) ER.sb fun a F => ?_
        refine dq F (fun wq hS => r_pick_f F rfl (bfalse hb1652) rfl) ER.sb fun a F => ?_
        refine dm F ER.sb fun a F => ?_
        refine dy F rfl (fun wq hS => r_loads (cs := [.int .i64 a5.Kind, .slice A6 a5.Key.length C7, .slice A9 a5.Value.length C10, .int .i64 a5.Rev]) F rfl ag_30 sz_30 (AT.sb zh17 hS nq)) ER.sb fun a F => ?_
        refine d_e ?_
        obtain ⟨t1346, q1347, H⟩ := bind_some H
        refine o_call F rfl (wanted_yes F rfl rfl (by decide) rfl rfl) rfl (by decide) (r_call F Try.func24 rfl (by kernel_rfl) rfl) (table_Right.calls (m := m + 11) (pl hm0) B h8 h11 _ q1347) ?_
        rintro e w1696 ⟨c1695, rfl, E1697, B1698⟩
        refine ⟨_, rfl, fun a F => ?_⟩
        have B := B1698
        as_aux_lemma =>
        replace ER := ER.trans E1697 nx
        replace h17 := h17.ev E1697 nq
        replace h46 := h46.ev E1697 nq
        replace h8 := h8.ev E1697 nq nq
        replace h11 := h11.ev E1697 nq nq
        replace h1578 := h1578.ev E1697 nq nq nq
        replace h1009 := h1009.ev E1697 nq
        replace E := E.trans E1697 nx
        refine ⟨fun _ => ER.sb, ?_⟩
        refine dy F rfl (fun wq hS => r_not F rfl) ER.sb fun a F => ?_
        refine dy F rfl (fun wq hS => r_move F rfl) ER.sb fun a F => ?_
        by_cases hb1700 : t1346 = true
        ·replace H := ip hb1700 H
         refine dn F (congrArg not hb1700) ER.sb fun a F => ?_
         refine d_e ?_
         as_aux_lemma =>
         refine o_no F rfl rfl rfl (by decide) rfl (congrArg not hb1700) rfl (by decide) fun a F => ?_
         refine ⟨fun _ => ER.sb, ?_⟩
         refine dn F (congrArg not hb1700) ER.sb fun a F => ?_
         refine dy F rfl (fun wq hS => r_pick_f F rfl (congrArg not hb1700) rfl) ER.sb fun a F => ?_
         refine dq F (fun wq hS => r_pick_f F rfl rfl rfl) ER.sb fun a F => ?_
         refine d_nil ?_
         exact J1707 c1695 w1696 a false (F.sub ⟨rfl, rfl, rfl, rfl, rfl, trivial⟩) E B h17 h46 h8 h11 h1578 h1009 H
        replace H := im hb1700 H
        refine dy F (congrArg not (bfalse hb1700)) (fun wq hS => r_move F rfl) ER.sb fun a F => ?_
        refine d_e ?_
        obtain ⟨t1354, q1355, H⟩ := bind_some H
        refine o_call F rfl (wanted_yes F rfl rfl (by decide) rfl (congrArg not (bfalse hb1700))) rfl (by decide) (r_call F Try.func11 rfl (by kernel_rfl) rfl) (haulagelaw14_num.calls (m := m + 11) (pl hm0) B _ q1355) ?_
        rintro e w1702 ⟨c1701, rfl, E1703, B1704⟩
        refine ⟨_, rfl, fun a F => ?_⟩
        have B := B1704
        as_aux_lemma =>
        replace ER := ER.trans E1703 nx
        replace h17 := h17.ev E1703 nq
        replace h46 := h46.ev E1703 nq
        replace h8 := h8.ev E1703 nq nq
        replace h11 := h11.ev E1703 nq nq
        replace h1578 := h1578.ev E1703 nq nq nq
        replace h1009 := h1009.ev E1703 nq
        replace E := E.trans E1703 nx
        refine ⟨fun _ => ER.sb, ?_⟩
        refine dy F (congrArg not (bfalse hb1700)) (fun wq hS => r_neq F rfl rfl) ER.sb fun a F => ?_
        refine dy F rfl (fun wq hS => r_pick_t F rfl (congrArg not (bfalse hb1700)) rfl) ER.sb fun a F => ?_
        refine dq F (fun wq hS => r_pick_f F rfl rfl rfl) ER.sb fun a F => ?_
        refine d_nil ?_
        exact J1707 c1701 w1702 a (!decide (t1354 = 131)) (F.sub ⟨rfl, rfl, rfl, rfl, rfl, trivial⟩) E B h17 h46 h8 h11 h1578 h1009 H
       as_aux_lemma =>
       refine regD (SB No c1586 w1587) 25 (.q 0 (.e 1 (.q 2 (.q 3 (.q 4 (.q 5 (.q 6 (.q 7 (.q 8 (.q 9 (.q 10 (.q 11 (.e 12 (.q 13 (.q 14 (.q 15 (.q 16 (.q 17 (.q 18 (.q 19 (.q 21 (.e 20 (.e 22 (.q 23 (.q 24 .nil))))))))))))))))))))))))) Try_hm (by decide +kernel) ?_
       intro w1590 w1_ w2_ w3_ w4_
       have E1591 : Ev No c1586 w1587 c1586 w1590 := Ev.same w1_ w2_ w3_ w4_
       replace B := B.same w1_
       have zh46 := h46
       have zh1124 := h1124
       have zh1009 := h1009
       have ER : Ev No c1586 w1587 c1586 w1590 := Ev.same w1_ w2_ w3_ w4_
       replace h17 := h17.ev E1591 nq
       replace h46 := h46.ev E1591 nq
       replace h1200 := h1200.ev E1591 nq
       replace h8 := h8.ev E1591 nq nq
       replace h11 := h11.ev E1591 nq nq
       replace h1009 := h1009.ev E1591 nq
       as_aux_lemma =>
       replace h1425 := h1425.ev E1591 nq nq
       replace h1510 := h1510.ev E1591 nq nq
       replace h1513 := h1513.ev E1591 nq nq
       replace h1578 := h1578.ev E1591 nq nq nq
       replace h1581 := h1581.ev E1591 nq nq
       replace h1584 := h1584.ev E1591 nq nq
       replace E := E.trans E1591 nx
       refine dm F ER.sb fun a F => ?_
       refine d_e ?_
       obtain ⟨t1240, q1241, H⟩ := bind_some H
       refine oc F Try.func11 (haulagelaw14_num.calls (m := m + 11) (pl hm0) B _ q1241) ?_
       rintro e w1593 ⟨c1592, rfl, E1594, B1595⟩
       refine ⟨_, rfl, fun a F => ?_⟩
       have B := B1595
       as_aux_lemma =>
       replace ER := ER.trans E1594 nx
       replace h17 := h17.ev E1594 nq
       replace h46 := h46.ev E1594 nq
       replace h1200 := h1200.ev E1594 nq
       replace h8 := h8.ev E1594 nq nq
       replace h11 := h11.ev E1594 nq nq
       replace h1009 := h1009.ev E1594 nq
       replace h1425 := h1425.ev E1594 nq nq
       replace h1510 := h1510.ev E1594 nq nq
       replace h1513 := h1513.ev E1594 nq nq
       replace h1578 := h1578.ev E1594 nq nq nq
       replace h1581 := h1581.ev E1594 nq nq
       replace h1584 := h1584.ev E1594 nq nq
       replace E := E.trans E1594 nx
       as_aux_lemma =>
       refine ⟨fun _ => ER.sb, ?_⟩
       refine dq F (fun wq hS => r_neq F rfl rfl) ER.sb fun a F => ?_
       refine dm F ER.sb fun a F => ?_
       by_cases hb1597 : t1240 = 0
       ·replace H := ip hb1597 H
        refine dy F (congrArg not (dt hb1597)) (fun wq hS => r_move F rfl) ER.sb fun a F => ?_
        refine dq F (fun wq hS => r_pick_f F rfl (congrArg not (dt hb1597)) rfl) ER.sb fun a F => ?_
        refine dm F ER.sb fun a F => ?_
        by_cases hb1598 : t1106.2.1 = true
        ·replace H := ip hb1598 H
         refine dn F hb1598 ER.sb fun a F => ?_
         refine dn F hb1598 ER.sb fun a F => ?_
         refine dn F hb1598 ER.sb fun a F => ?_
         refine dn F hb1598 ER.sb fun a F => ?_
         refine dn F hb1598 ER.sb fun a F => ?_
         refine d_e ?_
         as_aux_lemma =>
         refine o_no F rfl rfl rfl (by decide) rfl hb1598 rfl (by decide) fun a F => ?_
         refine ⟨fun _ => ER.sb, ?_⟩
         refine dn F hb1598 ER.sb fun a F => ?_
         refine dq F (fun wq hS => r_pick_t F rfl hb1598 rfl) ER.sb fun a F => ?_
         refine dm F ER.sb fun a F => ?_
         refine dn F rfl ER.sb fun a F => ?_
         refine dq F (fun wq hS => r_pick_t F rfl rfl rfl) ER.sb fun a F => ?_
         refine dm F ER.sb fun a F => ?_
         refine dn F rfl ER.sb fun a F => ?_
         refine dn F rfl ER.sb fun a F => ?_
         refine d_e ?_
         refine o_no F rfl rfl rfl (by decide) rfl rfl rfl (by decide) fun a F => ?_
         refine ⟨fun _ => ER.sb, ?_⟩
         refine d_e ?_
         as_aux_lemma =>
         refine o_no F rfl rfl rfl (by decide) rfl rfl rfl (by decide) fun a F => ?_
         refine ⟨fun _ => ER.sb, ?_⟩
         refine dn F rfl ER.sb fun a F => ?_
         refine dq F (fun wq hS => r_pick_t F rfl rfl rfl) ER.sb fun a F => ?_
         refine d_nil ?_
         exact J1639 c1592 w1593 a true (F.sub ⟨rfl, rfl, rfl, rfl, rfl, rfl, rfl, trivial⟩) E B h17 h46 h1200 h8 h11 h1578 h1009 h1581 h1584 H
        replace H := im hb1598 H
        refine dy F (bfalse hb1598) (fun wq hS => r_loads (cs := [.bool t1106.1.Done, .slice A1508 t1106.1.Key.length C1509, .slice A1511 t1106.1.Value.length C1512, .int .i64 t1106.1.Rev, .int .i64 t1106.1.At]) F rfl ag_34 sz_34 (AT.sb zh1124 hS nq)) ER.sb fun a F => ?_
        refine dy F (bfalse hb1598) (fun wq hS => r_move F rfl) ER.sb fun a F => ?_
        replace H := ifN H
        obtain ⟨g1599, H⟩ := H
        obtain ⟨cs1601, h1602, r1603⟩ := AR.at (off := 0) zh46 rfl zh1009 i1381 g1599.1 (by have g_ := g1599.2; omega)
        obtain ⟨A1605, C1606, A1608, C1609, A1611, C1612, A1614, C1615, rfl, h1607, h1610, h1613, h1616⟩ := r1603
        replace h1613 := SL.fl (i' := 0) h1613 (fun q => q)
        as_aux_lemma =>
        replace h1616 := SL.fl (i' := 0) h1616 (fun q => q)
        obtain ⟨qa1604, qqa1604⟩ : ∃ q, q = (qa44.add (0 + i1381.toNat * 14)) := ⟨_, rfl⟩
        have h1602 : AT true (m + 4) c1586 w1587 qa1604 [.bool ((rd l1010 i1381).is), .int .i64 (((rd l1010 i1381).step).Who), .int .i64 (((rd l1010 i1381).step).Kind), .int .i64 (((rd l1010 i1381).step).Client), .int .i64 (((rd l1010 i1381).step).Seq), .int .i64 ((((rd l1010 i1381).step).Op).Kind), .slice A1605 ((((rd l1010 i1381).step).Op).Key).length C1606, .slice A1608 ((((rd l1010 i1381).step).Op).Value).length C1609, .int .i64 ((((rd l1010 i1381).step).Op).Rev), .bool (((rd l1010 i1381).answer).Done), .slice A1611 (((rd l1010 i1381).answer).Key).length C1612, .slice A1614 (((rd l1010 i1381).answer).Value).length C1615, .int .i64 (((rd l1010 i1381).answer).Rev), .int .i64 (((rd l1010 i1381).answer).At)] := by rw [qqa1604]; exact h1602
        replace h1613 := h1613.ev ER nq nq
        replace h1616 := h1616.ev ER nq nq
        have zh1602 := h1602
        refine dy F (bfalse hb1598) (fun wq hS => r_indexArr0 F ua_53 sz_52 rfl rfl g1599.1 (by have g_ := g1599.2; omega) qqa1604) ER.sb fun a F => ?_
        refine dy F (bfalse hb1598) (fun wq hS => r_fieldAddr F rfl ff_52_2) ER.sb fun a F => ?_
        refine dy F (bfalse hb1598) (fun wq hS => r_loads (cs := [.bool (((rd l1010 i1381).answer).Done), .slice A1611 (((rd l1010 i1381).answer).Key).length C1612, .slice A1614 (((rd l1010 i1381).answer).Value).length C1615, .int .i64 (((rd l1010 i1381).answer).Rev), .int .i64 (((rd l1010 i1381).answer).At)]) F rfl ag_34 sz_34 (AT.sub (AT.sb zh1602 hS nq) 9 5 (nb rfl))) ER.sb fun a F => ?_
        refine d_e ?_
        obtain ⟨t1268, q1269, H⟩ := bind_some H
        refine o_call F rfl (wanted_yes F rfl rfl (by decide) rfl (bfalse hb1598)) rfl (by decide) (r_call F Try.func13 rfl (by kernel_rfl) rfl) (haulagelaw14_sameAnswer.calls k (m := m + 11) (pl hm0) B h1510 h1513 h1613 h1616 _ q1269) ?_
        rintro e w1619 ⟨c1618, rfl, E1620, B1621⟩
        refine ⟨_, rfl, fun a F => ?_⟩
        have B := B1621
        as_aux_lemma =>
        replace ER := ER.trans E1620 nx
        replace h17 := h17.ev E1620 nq
        replace h46 := h46.ev E1620 nq
        replace h1200 := h1200.ev E1620 nq
        replace h8 := h8.ev E1620 nq nq
        replace h11 := h11.ev E1620 nq nq
        replace h1009 := h1009.ev E1620 nq
        replace h1425 := h1425.ev E1620 nq nq
        replace h1578 := h1578.ev E1620 nq nq nq
        replace h1581 := h1581.ev E1620 nq nq
        replace h1584 := h1584.ev E1620 nq nq
        replace E := E.trans E1620 nx
        refine ⟨fun _ => ER.sb, ?_⟩
        refine dy F (bfalse hb1598) (fun wq hS => r_not F rfl) ER.sb fun a F => ?_
        as_aux_lemma =>
        refine dq F (fun wq hS => r_pick_f F rfl (bfalse hb1598) rfl) ER.sb fun a F => ?_
        refine dm F ER.sb fun a F => ?_
        by_cases hb1623 : t1268 = true
        ·replace H := ip hb1623 H
         refine dy F (congrArg not hb1623) (fun wq hS => r_move F rfl) ER.sb fun a F => ?_
         refine dq F (fun wq hS => r_pick_f F rfl (congrArg not hb1623) rfl) ER.sb fun a F => ?_
         refine dm F ER.sb fun a F => ?_
         by_cases hb1624 : t1182.2.1 = true
         ·replace H := ip hb1624 H
          refine dn F hb1624 ER.sb fun a F => ?_
          refine dn F hb1624 ER.sb fun a F => ?_
          refine d_e ?_
          refine o_no F rfl rfl rfl (by decide) rfl hb1624 rfl (by decide) fun a F => ?_
          refine ⟨fun _ => ER.sb, ?_⟩
          refine d_e ?_
          refine o_no F rfl rfl rfl (by decide) rfl hb1624 rfl (by decide) fun a F => ?_
          as_aux_lemma =>
          refine ⟨fun _ => ER.sb, ?_⟩
          refine dn F hb1624 ER.sb fun a F => ?_
          refine dq F (fun wq hS => r_pick_t F rfl hb1624 rfl) ER.sb fun a F => ?_
          refine d_nil ?_
          exact J1639 c1618 w1619 a true (F.sub ⟨rfl, rfl, rfl, rfl, rfl, rfl, rfl, trivial⟩) E B h17 h46 h1200 h8 h11 h1578 h1009 h1581 h1584 H
         replace H := im hb1624 H
         refine dy F (bfalse hb1624) (fun wq hS => r_move F rfl) ER.sb fun a F => ?_
         refine dy F (bfalse hb1624) (fun wq hS => r_move F rfl) ER.sb fun a F => ?_
         refine d_e ?_
         obtain ⟨t1277, q1278, H⟩ := bind_some H
         refine o_call F rfl (wanted_yes F rfl rfl (by decide) rfl (bfalse hb1624)) rfl (by decide) (r_call F Try.func21 rfl (by kernel_rfl) rfl) (shard_Shard_Export.calls k (m := m + 11) (pl hm0) B h1578 lm ⟨lm, mm⟩ _ q1278) ?_
         rintro e w1626 ⟨c1625, A1629, C1630, rfl, E1627, B1628, h1631⟩
         refine ⟨_, rfl, fun a F => ?_⟩
         have B := B1628
         as_aux_lemma =>
         replace ER := ER.trans E1627 nx
         replace h17 := h17.ev E1627 nq
         replace h46 := h46.ev E1627 nq
         replace h1200 := h1200.ev E1627 nq
         replace h8 := h8.ev E1627 nq nq
         replace h11 := h11.ev E1627 nq nq
         replace h1009 := h1009.ev E1627 nq
         replace h1425 := h1425.ev E1627 nq nq
         replace h1578 := h1578.ev E1627 nq nq nq
         replace h1581 := h1581.ev E1627 nq nq
         replace h1584 := h1584.ev E1627 nq nq
         replace E := E.trans E1627 nx
         refine ⟨fun _ => ER.sb, ?_⟩
         refine d_e ?_
         obtain ⟨t1287, q1288, H⟩ := bind_some H
         as_aux_lemma =>
         refine o_call F rfl (wanted_yes F rfl rfl (by decide) rfl (bfalse hb1624)) rfl (by decide) (r_call F Try.func23 rfl (by kernel_rfl) rfl) (haulagelaw14_same.calls k (m := m + 11) (pl hm0) B h1631 h1425 _ q1288) ?_
         rintro e w1634 ⟨c1633, rfl, E1635, B1636⟩
         refine ⟨_, rfl, fun a F => ?_⟩
         have B := B1636
         replace ER := ER.trans E1635 nx
         replace h17 := h17.ev E1635 nq
         replace h46 := h46.ev E1635 nq
         replace h1200 := h1200.ev E1635 nq
         replace h8 := h8.ev E1635 nq nq
         replace h11 := h11.ev E1635 nq nq
         replace h1009 := h1009.ev E1635 nq
         replace h1578 := h1578.ev E1635 nq nq nq
         replace h1581 := h1581.ev E1635 nq nq
         replace h1584 := h1584.ev E1635 nq nq
         as_aux_lemma =>
         replace E := E.trans E1635 nx
         refine ⟨fun _ => ER.sb, ?_⟩
         refine dy F (bfalse hb1624) (fun wq hS => r_not F rfl) ER.sb fun a F => ?_
         refine dq F (fun wq hS => r_pick_f F rfl (bfalse hb1624) rfl) ER.sb fun a F => ?_
         refine d_nil ?_
         exact J1639 c1633 w1634 a (!t1287) (F.sub ⟨rfl, rfl, rfl, rfl, rfl, rfl, rfl, trivial⟩) E B h17 h46 h1200 h8 h11 h1578 h1009 h1581 h1584 H
        replace H := im hb1623 H
        refine dn F (congrArg not (bfalse hb1623)) ER.sb fun a F => ?_
        refine dq F (fun wq hS => r_pick_t F rfl (congrArg not (bfalse hb1623)) rfl) ER.sb fun a F => ?_
        refine dm F ER.sb fun a F => ?_
        refine dn F rfl ER.sb fun a F => ?_
        refine dn F rfl ER.sb fun a F => ?_
        refine d_e ?_
        refine o_no F rfl rfl rfl (by decide) rfl rfl rfl (by decide) fun a F => ?_
        as_aux_lemma =>
        refine ⟨fun _ => ER.sb, ?_⟩
        refine d_e ?_
        refine o_no F rfl rfl rfl (by decide) rfl rfl rfl (by decide) fun a F => ?_
        refine ⟨fun _ => ER.sb, ?_⟩
        refine dn F rfl ER.sb fun a F => ?_
        refine dq F (fun wq hS => r_pick_t F rfl rfl rfl) ER.sb fun a F => ?_
        refine d_nil ?_
        exact J1639 c1618 w1619 a true (F.sub ⟨rfl, rfl, rfl, rfl, rfl, rfl, rfl, trivial⟩) E B h17 h46 h1200 h8 h11 h1578 h1009 h1581 h1584 H
       replace H := im hb1597 H
       refine dn F (congrArg not (dz hb1597)) ER.sb fun a F => ?_
       refine dq F (fun wq hS => r_pick_t F rfl (congrArg not (dz hb1597)) rfl) ER.sb fun a F => ?_
       refine dm F ER.sb fun a F => ?_
       refine dn F rfl ER.sb fun a F => ?_
       refine dn F rfl ER.sb fun a F => ?_
       as_aux_lemma =>
       refine dn F rfl ER.sb fun a F => ?_
       refine dn F rfl ER.sb fun a F => ?_
       refine dn F rfl ER.sb fun a F => ?_
       refine d_e ?_
       refine o_no F rfl rfl rfl (by decide) rfl rfl rfl (by decide) fun a F => ?_
       refine ⟨fun _ => ER.sb, ?_⟩
       refine dn F rfl ER.sb fun a F => ?_
       refine dq F (fun wq hS => r_pick_t F rfl rfl rfl) ER.sb fun a F => ?_
       refine dm F ER.sb fun a F => ?_
       refine dn F rfl ER.sb fun a F => ?_
       refine dq F (fun wq hS => r_pick_t F rfl rfl rfl) ER.sb fun a F => ?_
       refine dm F ER.sb fun a F => ?_
       refine dn F rfl ER.sb fun a F => ?_
       refine dn F rfl ER.sb fun a F => ?_
       as_aux_lemma =>
       refine d_e ?_
       refine o_no F rfl rfl rfl (by decide) rfl rfl rfl (by decide) fun a F => ?_
       refine ⟨fun _ => ER.sb, ?_⟩
       refine d_e ?_
       refine o_no F rfl rfl rfl (by decide) rfl rfl rfl (by decide) fun a F => ?_
       refine ⟨fun _ => ER.sb, ?_⟩
       refine dn F rfl ER.sb fun a F => ?_
       refine dq F (fun wq hS => r_pick_t F rfl rfl rfl) ER.sb fun a F => ?_
       refine d_nil ?_
       exact J1639 c1592 w1593 a true (F.sub ⟨rfl, rfl, rfl, rfl, rfl, rfl, rfl, trivial⟩) E B h17 h46 h1200 h8 h11 h1578 h1009 h1581 h1584 H
      refine regD (SB (fun x => x = m + 2 ∨ x = m + 3 ∨ x = m + 10) c1515 w1516) 17 (.q 0 (.q 1 (.q 2 (.q 3 (.q 4 (.q 5 (.q 6 (.q 7 (.f 8 (.q 9 (.q 10 (.q 11 (.q 12 (.e 13 (.e 14 (.q 15 (.q 16 .nil)))))))) 13 (.e 8 (.q 9 (.q 10 (.q 11 (.q 12 (.e 14 (.q 15 (.q 16 .nil))))))))))))))))) Try_hm (by decide +kernel) ?_
      intro w1518 w1_ w2_ w3_ w4_
      have E1519 : Ev No c1515 w1516 c1515 w1518 := Ev.same w1_ w2_ w3_ w4_
      replace B := B.same w1_
      have zh17 := h17
      have zh46 := h46
      have zh1009 := h1009
      have ER : Ev (fun x => x = m + 2 ∨ x = m + 3 ∨ x = m + 10) c1515 w1516 c1515 w1518 := Ev.same w1_ w2_ w3_ w4_
      as_aux_lemma =>
      replace h17 := h17.ev E1519 nq
      replace h46 := h46.ev E1519 nq
      replace h1124 := h1124.ev E1519 nq
      replace h8 := h8.ev E1519 nq nq
      replace h11 := h11.ev E1519 nq nq
      replace h1009 := h1009.ev E1519 nq
      replace h1425 := h1425.ev E1519 nq nq
      replace h1507 := h1507.ev E1519 nq nq nq
      replace h1510 := h1510.ev E1519 nq nq
      replace h1513 := h1513.ev E1519 nq nq
      replace E := E.trans E1519 nx
      refine dm F ER.sb fun a F => ?_
      refine dm F ER.sb fun a F => ?_
      refine dm F ER.sb fun a F => ?_
      as_aux_lemma =>
      replace H := ifN H
      obtain ⟨g1520, H⟩ := H
      obtain ⟨cs1522, h1523, r1524⟩ := AR.at (off := 0) zh46 rfl zh1009 i1381 g1520.1 (by have g_ := g1520.2; omega)
      obtain ⟨A1526, C1527, A1529, C1530, A1532, C1533, A1535, C1536, rfl, h1528, h1531, h1534, h1537⟩ := r1524
      obtain ⟨qa1525, qqa1525⟩ : ∃ q, q = (qa44.add (0 + i1381.toNat * 14)) := ⟨_, rfl⟩
      have h1523 : AT true (m + 4) c1515 w1516 qa1525 [.bool ((rd l1010 i1381).is), .int .i64 (((rd l1010 i1381).step).Who), .int .i64 (((rd l1010 i1381).step).Kind), .int .i64 (((rd l1010 i1381).step).Client), .int .i64 (((rd l1010 i1381).step).Seq), .int .i64 ((((rd l1010 i1381).step).Op).Kind), .slice A1526 ((((rd l1010 i1381).step).Op).Key).length C1527, .slice A1529 ((((rd l1010 i1381).step).Op).Value).length C1530, .int .i64 ((((rd l1010 i1381).step).Op).Rev), .bool (((rd l1010 i1381).answer).Done), .slice A1532 (((rd l1010 i1381).answer).Key).length C1533, .slice A1535 (((rd l1010 i1381).answer).Value).length C1536, .int .i64 (((rd l1010 i1381).answer).Rev), .int .i64 (((rd l1010 i1381).answer).At)] := by rw [qqa1525]; exact h1523
      have zh1523 := h1523
      replace h1523 := h1523.ev ER (nor mm (nor mm mm))
      refine dq F (fun wq hS => r_indexArr0 F ua_53 sz_52 rfl rfl g1520.1 (by have g_ := g1520.2; omega) qqa1525) ER.sb fun a F => ?_
      refine df F ff_52_1 ER.sb fun a F => ?_
      refine dq F (fun wq hS => r_fieldAddr2 F h1523 rfl ff_32_3) ER.sb fun a F => ?_
      refine dq F (fun wq hS => r_load F rfl ag_3 (AT.cell (AT.sb zh1523 hS (nor mm (nor mm mm))) rfl)) ER.sb fun a F => ?_
      refine dq F (fun wq hS => r_loads (cs := [.int .i64 a5.Kind, .slice A6 a5.Key.length C7, .slice A9 a5.Value.length C10, .int .i64 a5.Rev]) F rfl ag_30 sz_30 (AT.sb zh17 hS (nor mm (nor mm mm)))) ER.sb fun a F => ?_
      refine d_f ?_ ?_
      ·obtain ⟨t1182, q1183, H⟩ := bind_some H
       as_aux_lemma =>
       refine oc F Try.func10 (shard_Shard_Do.calls k (m := m + 11) (pl hm0) B h1507 h8 h11 ⟨(pl hm0), lm⟩ ⟨(pl hm0), lm, mm⟩ _ q1183) ?_
       rintro e w1540 ⟨c1539, A1543, C1544, A1546, C1547, rfl, E1541, B1542, h1545, h1548, h1549⟩
       refine ⟨_, rfl, fun a F => ?_⟩
       have B := B1542
       replace ER := ER.trans E1541 (fun x q => by replace q : x = m + 2 ∨ x = m + 3 := q; show x = m + 2 ∨ x = m + 3 ∨ x = m + 10; omega)
       replace h17 := h17.ev E1541 (nor mm mm)
       replace h46 := h46.ev E1541 (nor mm mm)
       replace h1124 := h1124.ev E1541 (nor mm mm)
       replace h8 := h8.ev E1541 (nor ne_zm ne_zm) (nor ne_zm ne_zm)
       replace h11 := h11.ev E1541 (nor ne_zm ne_zm) (nor ne_zm ne_zm)
       replace h1009 := h1009.ev E1541 (nor ne_zm ne_zm)
       replace h1425 := h1425.ev E1541 (nor ne_zm ne_zm) (nor ne_zm ne_zm)
       replace h1510 := h1510.ev E1541 (nor ne_zm ne_zm) (nor ne_zm ne_zm)
       replace h1513 := h1513.ev E1541 (nor ne_zm ne_zm) (nor ne_zm ne_zm)
       as_aux_lemma =>
       replace E := E.trans E1541 lc2
       refine ⟨fun _ => ER.sb, ?_⟩
       refine dm F ER.sb fun a F => ?_
       refine dq F (fun wq hS => r_extract F rfl rfl) ER.sb fun a F => ?_
       refine dq F (fun wq hS => r_extract F rfl rfl) ER.sb fun a F => ?_
       refine dq F (fun wq hS => r_extract F rfl rfl) ER.sb fun a F => ?_
       refine d_e ?_
       refine o_eff F rfl rfl rfl (by decide) (e_alloc F zv_34 c1539 (m + 10)) ?_
       rintro v w1552 a ⟨c1551, qa1198, rfl, E1553, h1200, B1554⟩ F
       replace B := B1554 _ B lm
       replace ER := ER.trans E1553 nx
       replace h17 := h17.ev E1553 nq
       replace h46 := h46.ev E1553 nq
       replace h1124 := h1124.ev E1553 nq
       as_aux_lemma =>
       replace h8 := h8.ev E1553 nq nq
       replace h11 := h11.ev E1553 nq nq
       replace h1009 := h1009.ev E1553 nq
       replace h1425 := h1425.ev E1553 nq nq
       replace h1510 := h1510.ev E1553 nq nq
       replace h1513 := h1513.ev E1553 nq nq
       replace h1545 := h1545.ev E1553 nq nq
       replace h1548 := h1548.ev E1553 nq nq
       replace h1549 := h1549.ev E1553 nq nq nq
       replace E := E.trans E1553 nx
       replace h1200 : AT true (m + 10) c1551 w1552 qa1198 [.bool false, .slice none 0 0, .slice none 0 0, .int .i64 0, .int .i64 0] := h1200
       refine ⟨fun _ => ER.sb, ?_⟩
       refine d_e ?_
       refine o_eff0 F rfl rfl rfl (e_storeN0 (us := [.bool t1182.1.Done, .slice A1543 t1182.1.Key.length C1544, .slice A1546 t1182.1.Value.length C1547, .int .i64 t1182.1.Rev, .int .i64 t1182.1.At]) F rfl rfl sz_34 h1200 (nb rfl) (one_all rfl)) ?_
       rintro w1555 a ⟨E1556, h1200, Z1557⟩ F
       as_aux_lemma =>
       replace B := B.size Z1557
       replace ER := ER.trans E1556 (fun x q => by replace q : x = m + 10 := q; show x = m + 2 ∨ x = m + 3 ∨ x = m + 10; omega)
       replace h17 := h17.ev E1556 mm
       replace h46 := h46.ev E1556 mm
       replace h1124 := h1124.ev E1556 mm
       replace h8 := h8.ev E1556 ne_zm ne_zm
       replace h11 := h11.ev E1556 ne_zm ne_zm
       replace h1009 := h1009.ev E1556 ne_zm
       replace h1425 := h1425.ev E1556 ne_zm ne_zm
       replace h1510 := h1510.ev E1556 ne_zm ne_zm
       replace h1513 := h1513.ev E1556 ne_zm ne_zm
       replace h1545 := h1545.ev E1556 ne_zm ne_zm
       replace h1548 := h1548.ev E1556 ne_zm ne_zm
       replace h1549 := h1549.ev E1556 mm mm ne_zm
       as_aux_lemma =>
       replace E := E.trans E1556 lc1
       replace h1200 : AT true (m + 10) c1551 w1555 qa1198 [.bool t1182.1.Done, .slice A1543 t1182.1.Key.length C1544, .slice A1546 t1182.1.Value.length C1547, .int .i64 t1182.1.Rev, .int .i64 t1182.1.At] := h1200
       refine ⟨fun _ => ER.sb, ?_⟩
       refine da F ER.sb fun a F => ?_
       refine da F ER.sb fun a F => ?_
       refine d_nil ?_
       exact J1585 c1551 w1555 a qa1198 t1182 A1543 C1544 A1546 C1547 (F.sub ⟨rfl, rfl, rfl, rfl, rfl, rfl, rfl, rfl, rfl, rfl, rfl, trivial⟩) E B h17 h46 h1124 h1200 h8 h11 h1009 h1425 h1510 h1513 h1549 h1545 h1548 H
      obtain ⟨t1182, q1183, H⟩ := bind_some H
      refine o_eff F rfl rfl rfl (by decide) (e_alloc F zv_34 c1515 (m + 10)) ?_
      rintro v w1559 a ⟨c1558, qa1198, rfl, E1560, h1200, B1561⟩ F
      replace B := B1561 _ B lm
      replace ER := ER.trans E1560 nx
      replace h17 := h17.ev E1560 nq
      replace h46 := h46.ev E1560 nq
      as_aux_lemma =>
      replace h1124 := h1124.ev E1560 nq
      replace h8 := h8.ev E1560 nq nq
      replace h11 := h11.ev E1560 nq nq
      replace h1009 := h1009.ev E1560 nq
      replace h1425 := h1425.ev E1560 nq nq
      replace h1507 := h1507.ev E1560 nq nq nq
      replace h1510 := h1510.ev E1560 nq nq
      replace h1513 := h1513.ev E1560 nq nq
      replace E := E.trans E1560 nx
      replace h1200 : AT true (m + 10) c1558 w1559 qa1198 [.bool false, .slice none 0 0, .slice none 0 0, .int .i64 0, .int .i64 0] := h1200
      refine ⟨fun _ => ER.sb, ?_⟩
      refine d_e ?_
      refine oc F Try.func10 (shard_Shard_Do.calls k (m := m + 11) (pl hm0) B h1507 h8 h11 ⟨(pl hm0), lm⟩ ⟨(pl hm0), lm, mm⟩ _ q1183) ?_
      rintro e w1563 ⟨c1562, A1566, C1567, A1569, C1570, rfl, E1564, B1565, h1568, h1571, h1572⟩
      as_aux_lemma =>
      refine ⟨_, rfl, fun a F => ?_⟩
      have B := B1565
      replace ER := ER.trans E1564 (fun x q => by replace q : x = m + 2 ∨ x = m + 3 := q; show x = m + 2 ∨ x = m + 3 ∨ x = m + 10; omega)
      replace h17 := h17.ev E1564 (nor mm mm)
      replace h46 := h46.ev E1564 (nor mm mm)
      replace h1124 := h1124.ev E1564 (nor mm mm)
      replace h8 := h8.ev E1564 (nor ne_zm ne_zm) (nor ne_zm ne_zm)
      replace h11 := h11.ev E1564 (nor ne_zm ne_zm) (nor ne_zm ne_zm)
      replace h1009 := h1009.ev E1564 (nor ne_zm ne_zm)
      replace h1425 := h1425.ev E1564 (nor ne_zm ne_zm) (nor ne_zm ne_zm)
      replace h1510 := h1510.ev E1564 (nor ne_zm ne_zm) (nor ne_zm ne_zm)
      replace h1513 := h1513.ev E1564 (nor ne_zm ne_zm) (nor ne_zm ne_zm)
      replace h1200 := h1200.ev E1564 (nor mm mm)
      replace E := E.trans E1564 lc2
      as_aux_lemma =>
      refine ⟨fun _ => ER.sb, ?_⟩
      refine dm F ER.sb fun a F => ?_
      refine dq F (fun wq hS => r_extract F rfl rfl) ER.sb fun a F => ?_
      refine dq F (fun wq hS => r_extract F rfl rfl) ER.sb fun a F => ?_
      refine dq F (fun wq hS => r_extract F rfl rfl) ER.sb fun a F => ?_
      refine d_e ?_
      refine o_eff0 F rfl rfl rfl (e_storeN0 (us := [.bool t1182.1.Done, .slice A1566 t1182.1.Key.length C1567, .slice A1569 t1182.1.Value.length C1570, .int .i64 t1182.1.Rev, .int .i64 t1182.1.At]) F rfl rfl sz_34 h1200 (nb rfl) (one_all rfl)) ?_
      rintro w1574 a ⟨E1575, h1200, Z1576⟩ F
      replace B := B.size Z1576
      replace ER := ER.trans E1575 (fun x q => by replace q : x = m + 10 := q; show x = m + 2 ∨ x = m + 3 ∨ x = m + 10; omega)
      replace h17 := h17.ev E1575 mm
      replace h46 := h46.ev E1575 mm
      replace h1124 := h1124.ev E1575 mm
      replace h8 := h8.ev E1575 ne_zm ne_zm
      as_aux_lemma =>
      replace h11 := h11.ev E1575 ne_zm ne_zm
      replace h1009 := h1009.ev E1575 ne_zm
      replace h1425 := h1425.ev E1575 ne_zm ne_zm
      replace h1510 := h1510.ev E1575 ne_zm ne_zm
      replace h1513 := h1513.ev E1575 ne_zm ne_zm
      replace h1568 := h1568.ev E1575 ne_zm ne_zm
      replace h1571 := h1571.ev E1575 ne_zm ne_zm
      replace h1572 := h1572.ev E1575 mm mm ne_zm
      replace E := E.trans E1575 lc1
      replace h1200 : AT true (m + 10) c1562 w1574 qa1198 [.bool t1182.1.Done, .slice A1566 t1182.1.Key.length C1567, .slice A1569 t1182.1.Value.length C1570, .int .i64 t1182.1.Rev, .int .i64 t1182.1.At] := h1200
      refine ⟨fun _ => ER.sb, ?_⟩
      refine da F ER.sb fun a F => ?_
      refine da F ER.sb fun a F => ?_
      refine d_nil ?_
      exact J1585 c1562 w1574 a qa1198 t1182 A1566 C1567 A1569 C1570 (F.sub ⟨rfl, rfl, rfl, rfl, rfl, rfl, rfl, rfl, rfl, rfl, rfl, trivial⟩) E B h17 h46 h1124 h1200 h8 h11 h1009 h1425 h1510 h1513 h1572 h1568 h1571 H
     as_aux_lemma =>
     refine regD (SB (fun x => x = m + 2 ∨ x = m + 3 ∨ x = m + 9) c1419 w1420) 21 (.q 0 (.q 1 (.q 2 (.q 3 (.q 4 (.q 5 (.q 6 (.q 7 (.q 8 (.q 9 (.q 10 (.q 11 (.f 12 (.q 13 (.q 14 (.q 15 (.q 16 (.e 17 (.e 18 (.q 19 (.q 20 .nil)))))))) 17 (.e 12 (.q 13 (.q 14 (.q 15 (.q 16 (.e 18 (.q 19 (.q 20 .nil))))))))))))))))))))) Try_hm (by decide +kernel) ?_
     intro w1428 w1_ w2_ w3_ w4_
     have E1429 : Ev No c1419 w1420 c1419 w1428 := Ev.same w1_ w2_ w3_ w4_
     replace B := B.same w1_
     have zh46 := h46
     have zh1009 := h1009
     have ER : Ev (fun x => x = m + 2 ∨ x = m + 3 ∨ x = m + 9) c1419 w1420 c1419 w1428 := Ev.same w1_ w2_ w3_ w4_
     replace h17 := h17.ev E1429 nq
     replace h46 := h46.ev E1429 nq
     replace h8 := h8.ev E1429 nq nq
     replace h11 := h11.ev E1429 nq nq
     replace h1009 := h1009.ev E1429 nq
     replace h1379 := h1379.ev E1429 nq nq nq
     replace h1425 := h1425.ev E1429 nq nq
     as_aux_lemma =>
     replace E := E.trans E1429 nx
     refine dm F ER.sb fun a F => ?_
     refine dm F ER.sb fun a F => ?_
     refine dm F ER.sb fun a F => ?_
     replace H := ifN H
     obtain ⟨g1430, H⟩ := H
     obtain ⟨cs1432, h1433, r1434⟩ := AR.at (off := 0) zh46 rfl zh1009 i1381 g1430.1 (by have g_ := g1430.2; omega)
     obtain ⟨A1436, C1437, A1439, C1440, A1442, C1443, A1445, C1446, rfl, h1438, h1441, h1444, h1447⟩ := r1434
     obtain ⟨qa1435, qqa1435⟩ : ∃ q, q = (qa44.add (0 + i1381.toNat * 14)) := ⟨_, rfl⟩
     have h1433 : AT true (m + 4) c1419 w1420 qa1435 [.bool ((rd l1010 i1381).is), .int .i64 (((rd l1010 i1381).step).Who), .int .i64 (((rd l1010 i1381).step).Kind), .int .i64 (((rd l1010 i1381).step).Client), .int .i64 (((rd l1010 i1381).step).Seq), .int .i64 ((((rd l1010 i1381).step).Op).Kind), .slice A1436 ((((rd l1010 i1381).step).Op).Key).length C1437, .slice A1439 ((((rd l1010 i1381).step).Op).Value).length C1440, .int .i64 ((((rd l1010 i1381).step).Op).Rev), .bool (((rd l1010 i1381).answer).Done), .slice A1442 (((rd l1010 i1381).answer).Key).length C1443, .slice A1445 (((rd l1010 i1381).answer).Value).length C1446, .int .i64 (((rd l1010 i1381).answer).Rev), .int .i64 (((rd l1010 i1381).answer).At)] := by rw [qqa1435]; exact h1433
     have zh1433 := h1433
     replace h1433 := h1433.ev ER (nor mm (nor mm mm))
     refine dq F (fun wq hS => r_indexArr0 F ua_53 sz_52 rfl rfl g1430.1 (by have g_ := g1430.2; omega) qqa1435) ER.sb fun a F => ?_
     refine df F ff_52_1 ER.sb fun a F => ?_
     as_aux_lemma =>
     refine dq F (fun wq hS => r_fieldAddr2 F h1433 rfl ff_32_3) ER.sb fun a F => ?_
     refine dq F (fun wq hS => r_load F rfl ag_3 (AT.cell (AT.sb zh1433 hS (nor mm (nor mm mm))) rfl)) ER.sb fun a F => ?_
     refine dm F ER.sb fun a F => ?_
     replace H := ifN H
     obtain ⟨g1449, H⟩ := H
     obtain ⟨cs1451, h1452, r1453⟩ := AR.at (off := 0) zh46 rfl zh1009 i1381 g1449.1 (by have g_ := g1449.2; omega)
     obtain ⟨A1455, C1456, A1458, C1459, A1461, C1462, A1464, C1465, rfl, h1457, h1460, h1463, h1466⟩ := r1453
     replace h1457 := SL.fl (i' := 0) h1457 (fun q => q)
     replace h1460 := SL.fl (i' := 0) h1460 (fun q => q)
     obtain ⟨qa1454, qqa1454⟩ : ∃ q, q = (qa44.add (0 + i1381.toNat * 14)) := ⟨_, rfl⟩
     have h1452 : AT true (m + 4) c1419 w1420 qa1454 [.bool ((rd l1010 i1381).is), .int .i64 (((rd l1010 i1381).step).Who), .int .i64 (((rd l1010 i1381).step).Kind), .int .i64 (((rd l1010 i1381).step).Client), .int .i64 (((rd l1010 i1381).step).Seq), .int .i64 ((((rd l1010 i1381).step).Op).Kind), .slice A1455 ((((rd l1010 i1381).step).Op).Key).length C1456, .slice A1458 ((((rd l1010 i1381).step).Op).Value).length C1459, .int .i64 ((((rd l1010 i1381).step).Op).Rev), .bool (((rd l1010 i1381).answer).Done), .slice A1461 (((rd l1010 i1381).answer).Key).length C1462, .slice A1464 (((rd l1010 i1381).answer).Value).length C1465, .int .i64 (((rd l1010 i1381).answer).Rev), .int .i64 (((rd l1010 i1381).answer).At)] := by rw [qqa1454]; exact h1452
     replace h1457 := h1457.ev ER (nor ne_zm (nor ne_zm ne_zm)) (nor ne_zm (nor ne_zm ne_zm))
     replace h1460 := h1460.ev ER (nor ne_zm (nor ne_zm ne_zm)) (nor ne_zm (nor ne_zm ne_zm))
     have zh1452 := h1452
     as_aux_lemma =>
     replace h1452 := h1452.ev ER (nor mm (nor mm mm))
     refine dq F (fun wq hS => r_indexArr0 F ua_53 sz_52 rfl rfl g1449.1 (by have g_ := g1449.2; omega) qqa1454) ER.sb fun a F => ?_
     refine df F ff_52_1 ER.sb fun a F => ?_
     refine dq F (fun wq hS => r_fieldAddr2 F h1452 rfl ff_32_4) ER.sb fun a F => ?_
     refine dq F (fun wq hS => r_loads (cs := [.int .i64 ((((rd l1010 i1381).step).Op).Kind), .slice A1455 ((((rd l1010 i1381).step).Op).Key).length C1456, .slice A1458 ((((rd l1010 i1381).step).Op).Value).length C1459, .int .i64 ((((rd l1010 i1381).step).Op).Rev)]) F rfl ag_30 sz_30 (AT.sub (AT.sb zh1452 hS (nor mm (nor mm mm))) 5 4 (nb rfl))) ER.sb fun a F => ?_
     refine d_f ?_ ?_
     ·obtain ⟨t1106, q1107, H⟩ := bind_some H
      refine oc F Try.func10 (shard_Shard_Do.calls k (m := m + 11) (pl hm0) B h1379 h1457 h1460 ⟨(pl hm0), lm⟩ ⟨(pl hm0), lm, mm⟩ _ q1107) ?_
      rintro e w1469 ⟨c1468, A1472, C1473, A1475, C1476, rfl, E1470, B1471, h1474, h1477, h1478⟩
      refine ⟨_, rfl, fun a F => ?_⟩
      have B := B1471
      replace ER := ER.trans E1470 (fun x q => by replace q : x = m + 2 ∨ x = m + 3 := q; show x = m + 2 ∨ x = m + 3 ∨ x = m + 9; omega)
      replace h17 := h17.ev E1470 (nor mm mm)
      replace h46 := h46.ev E1470 (nor mm mm)
      replace h8 := h8.ev E1470 (nor ne_zm ne_zm) (nor ne_zm ne_zm)
      as_aux_lemma =>
      replace h11 := h11.ev E1470 (nor ne_zm ne_zm) (nor ne_zm ne_zm)
      replace h1009 := h1009.ev E1470 (nor ne_zm ne_zm)
      replace h1425 := h1425.ev E1470 (nor ne_zm ne_zm) (nor ne_zm ne_zm)
      replace E := E.trans E1470 lc2
      refine ⟨fun _ => ER.sb, ?_⟩
      refine dm F ER.sb fun a F => ?_
      refine dq F (fun wq hS => r_extract F rfl rfl) ER.sb fun a F => ?_
      refine dq F (fun wq hS => r_extract F rfl rfl) ER.sb fun a F => ?_
      refine dq F (fun wq hS => r_extract F rfl rfl) ER.sb fun a F => ?_
      refine d_e ?_
      refine o_eff F rfl rfl rfl (by decide) (e_alloc F zv_34 c1468 (m + 9)) ?_
      rintro v w1481 a ⟨c1480, qa1122, rfl, E1482, h1124, B1483⟩ F
      replace B := B1483 _ B lm
      replace ER := ER.trans E1482 nx
      as_aux_lemma =>
      replace h17 := h17.ev E1482 nq
      replace h46 := h46.ev E1482 nq
      replace h8 := h8.ev E1482 nq nq
      replace h11 := h11.ev E1482 nq nq
      replace h1009 := h1009.ev E1482 nq
      replace h1425 := h1425.ev E1482 nq nq
      replace h1474 := h1474.ev E1482 nq nq
      replace h1477 := h1477.ev E1482 nq nq
      replace h1478 := h1478.ev E1482 nq nq nq
      replace E := E.trans E1482 nx
      replace h1124 : AT true (m + 9) c1480 w1481 qa1122 [.bool false, .slice none 0 0, .slice none 0 0, .int .i64 0, .int .i64 0] := h1124
      refine ⟨fun _ => ER.sb, ?_⟩
      refine d_e ?_
      refine o_eff0 F rfl rfl rfl (e_storeN0 (us := [.bool t1106.1.Done, .slice A1472 t1106.1.Key.length C1473, .slice A1475 t1106.1.Value.length C1476, .int .i64 t1106.1.Rev, .int .i64 t1106.1.At]) F rfl rfl sz_34 h1124 (nb rfl) (one_all rfl)) ?_
      rintro w1484 a ⟨E1485, h1124, Z1486⟩ F
      as_aux_lemma =>
      replace B := B.size Z1486
      replace ER := ER.trans E1485 (fun x q => by replace q : x = m + 9 := q; show x = m + 2 ∨ x = m + 3 ∨ x = m + 9; omega)
      replace h17 := h17.ev E1485 mm
      replace h46 := h46.ev E1485 mm
      replace h8 := h8.ev E1485 ne_zm ne_zm
      replace h11 := h11.ev E1485 ne_zm ne_zm
      replace h1009 := h1009.ev E1485 ne_zm
      replace h1425 := h1425.ev E1485 ne_zm ne_zm
      replace h1474 := h1474.ev E1485 ne_zm ne_zm
      replace h1477 := h1477.ev E1485 ne_zm ne_zm
      replace h1478 := h1478.ev E1485 mm mm ne_zm
      replace E := E.trans E1485 lc1
      replace h1124 : AT true (m + 9) c1480 w1484 qa1122 [.bool t1106.1.Done, .slice A1472 t1106.1.Key.length C1473, .slice A1475 t1106.1.Value.length C1476, .int .i64 t1106.1.Rev, .int .i64 t1106.1.At] := h1124
      refine ⟨fun _ => ER.sb, ?_⟩
      as_aux_lemma =>
      refine da F ER.sb fun a F => ?_
      refine da F ER.sb fun a F => ?_
      refine d_nil ?_
      exact J1514 c1480 w1484 a qa1122 t1106 A1472 C1473 A1475 C1476 (F.sub ⟨rfl, rfl, rfl, rfl, rfl, rfl, rfl, rfl, trivial⟩) E B h17 h46 h1124 h8 h11 h1009 h1425 h1478 h1474 h1477 H
     obtain ⟨t1106, q1107, H⟩ := bind_some H
     refine o_eff F rfl rfl rfl (by decide) (e_alloc F zv_34 c1419 (m + 9)) ?_
     rintro v w1488 a ⟨c1487, qa1122, rfl, E1489, h1124, B1490⟩ F
     replace B := B1490 _ B lm
     replace ER := ER.trans E1489 nx
     replace h17 := h17.ev E1489 nq
     replace h46 := h46.ev E1489 nq
     replace h8 := h8.ev E1489 nq nq
     replace h11 := h11.ev E1489 nq nq
     replace h1009 := h1009.ev E1489 nq
     as_aux_lemma =>
     replace h1379 := h1379.ev E1489 nq nq nq
     replace h1425 := h1425.ev E1489 nq nq
     replace h1457 := h1457.ev E1489 nq nq
     replace h1460 := h1460.ev E1489 nq nq
     replace E := E.trans E1489 nx
     replace h1124 : AT true (m + 9) c1487 w1488 qa1122 [.bool false, .slice none 0 0, .slice none 0 0, .int .i64 0, .int .i64 0] := h1124
     refine ⟨fun _ => ER.sb, ?_⟩
     refine d_e ?_
     refine oc F Try.func10 (shard_Shard_Do.calls k (m := m + 11) (pl hm0) B h1379 h1457 h1460 ⟨(pl hm0), lm⟩ ⟨(pl hm0), lm, mm⟩ _ q1107) ?_
     rintro e w1492 ⟨c1491, A1495, C1496, A1498, C1499, rfl, E1493, B1494, h1497, h1500, h1501⟩
     refine ⟨_, rfl, fun a F => ?_⟩
     have B := B1494
     replace ER := ER.trans E1493 (fun x q => by replace q : x = m + 2 ∨ x = m + 3 := q; show x = m + 2 ∨ x = m + 3 ∨ x = m + 9; omega)
     replace h17 := h17.ev E1493 (nor mm mm)
     as_aux_lemma =>
     replace h46 := h46.ev E1493 (nor mm mm)
     replace h8 := h8.ev E1493 (nor ne_zm ne_zm) (nor ne_zm ne_zm)
     replace h11 := h11.ev E1493 (nor ne_zm ne_zm) (nor ne_zm ne_zm)
     replace h1009 := h1009.ev E1493 (nor ne_zm ne_zm)
     replace h1425 := h1425.ev E1493 (nor ne_zm ne_zm) (nor ne_zm ne_zm)
     replace h1124 := h1124.ev E1493 (nor mm mm)
     replace E := E.trans E1493 lc2
     refine ⟨fun _ => ER.sb, ?_⟩
     refine dm F ER.sb fun a F => ?_
     refine dq F (fun wq hS => r_extract F rfl rfl) ER.sb fun a F => ?_
     refine dq F (fun wq hS => r_extract F rfl rfl) ER.sb fun a F => ?_
     refine dq F (fun wq hS => r_extract F rfl rfl) ER.sb fun a F => ?_
     refine d_e ?_
     refine o_eff0 F rfl rfl rfl (e_storeN0 (us := [.bool t1106.1.Done, .slice A1495 t1106.1.Key.length C1496, .slice A1498 t1106.1.Value.length C1499, .int .i64 t1106.1.Rev, .int .i64 t1106.1.At]) F rfl rfl sz_34 h1124 (nb rfl) (one_all rfl)) ?_
     rintro w1503 a ⟨E1504, h1124, Z1505⟩ F
     as_aux_lemma =>
     replace B := B.size Z1505
     replace ER := ER.trans E1504 (fun x q => by replace q : x = m + 9 := q; show x = m + 2 ∨ x = m + 3 ∨ x = m + 9; omega)
     replace h17 := h17.ev E1504 mm
     replace h46 := h46.ev E1504 mm
     replace h8 := h8.ev E1504 ne_zm ne_zm
     replace h11 := h11.ev E1504 ne_zm ne_zm
     replace h1009 := h1009.ev E1504 ne_zm
     replace h1425 := h1425.ev E1504 ne_zm ne_zm
     replace h1497 := h1497.ev E1504 ne_zm ne_zm
     replace h1500 := h1500.ev E1504 ne_zm ne_zm
     replace h1501 := h1501.ev E1504 mm mm ne_zm
     replace E := E.trans E1504 lc1
     replace h1124 : AT true (m + 9) c1491 w1503 qa1122 [.bool t1106.1.Done, .slice A1495 t1106.1.Key.length C1496, .slice A1498 t1106.1.Value.length C1499, .int .i64 t1106.1.Rev, .int .i64 t1106.1.At] := h1124
     refine ⟨fun _ => ER.sb, ?_⟩
     as_aux_lemma =>
     refine da F ER.sb fun a F => ?_
     refine da F ER.sb fun a F => ?_
     refine d_nil ?_
     exact J1514 c1491 w1503 a qa1122 t1106 A1495 C1496 A1498 C1499 (F.sub ⟨rfl, rfl, rfl, rfl, rfl, rfl, rfl, rfl, trivial⟩) E B h17 h46 h1124 h8 h11 h1009 h1425 h1501 h1497 h1500 H
    replace H := im hb1417 H
    refine wp_cond_true (fb F (congrArg not (bfalse hb1417))) ?_
    refine wp_exit ?_
    refine thenE ?_
    refine inbE ?_
    refine hK1395 _ _ ?_
    refine reg ?_
    refine qm F fun a F => ?_
    refine qv F (r_add F rfl rfl) fun a F => ?_
    refine qa F fun a F => ?_
    as_aux_lemma =>
    refine nil ?_
    replace H := HN1385 _ (si H).symm
    exact hX1384 _ _ _ (Nat.lt_succ_self _) ⟨o1380, (IntKind.i64.wrap (i1381 + 1)), c1382, F.sub ⟨rfl, rfl, rfl, rfl, trivial⟩, E, B, h17, h46, h8, h11, h1009, h1379, H⟩
   replace H := im hb1394 H
   refine wp_cond_false (fb F (dz hb1394)) ?_
   refine wp_exit ?_
   refine thenE ?_
   refine thenE ?_
   refine inbE ?_
   have hx_ := HD1386 _ (si H).symm
   have H := HR1390
   rw [← hx_] at H
   exact J1716 c1382 w1383 a  (F.sub trivial) E B  H
  refine loop_fuel (I := fun n a w => ∃ (o546 : Option Sha) (i547 : Int) (i548 : Int) (l551 : List haulagelaw14_again) (cs549 : List Value) (c : Nat → Nat), Fr a 353 [(0, .slice A2 a1.length C3), (3, .pointer (some qa15)), (5, .pointer p38), (6, .pointer (some qa44)), (7, .int .i64 i547), (8, .int .i64 i548)] ∧ Ev (fun x => False ∨ m ≤ x) c0 w0 c w ∧ CB (m + 11) c w ∧ AT true (m + 1) c w qa15 [.int .i64 a5.Kind, .slice A6 a5.Key.length C7, .slice A9 a5.Value.length C10, .int .i64 a5.Rev] ∧ AT true (m + 4) c w qa44 (([] : List Value) ++ (cs549 ++ (([] : List Value)))) ∧ SL false K_haulagelaw14_Step 0 0 c w A2 C3 a1 ∧ SL false (Kint .u8) 0 0 c w A6 C7 a5.Key ∧ SL false (Kint .u8) 0 0 c w A9 C10 a5.Value ∧ SH (m + 2) (m + 3) c w p38 o546 ∧ AR K_haulagelaw14_again 0 c w cs549 16 l551 ∧ loop (fun (s_ : (Option Sha) × Int × Int × (List haulagelaw14_again)) => haulagelaw14_ShardOnce.b25 k a1 s_.1 s_.2.1 s_.2.2.1 s_.2.2.2) n (o546, i547, i548, l551) = some x561) (k := k) ⟨t32, 0, 0, (List.replicate 16 (haulagelaw14_again.mk false (haulagelaw14_Step.mk 0 0 0 0 (api_Op.mk 0 [] [] 0)) (api_Answer.mk false [] [] 0 0) : haulagelaw14_again)), ((List.replicate 16 ([.bool false, .int .i64 0, .int .i64 0, .int .i64 0, .int .i64 0, .int .i64 0, .slice none 0 0, .slice none 0 0, .int .i64 0, .bool false, .slice none 0 0, .slice none 0 0, .int .i64 0, .int .i64 0] : List Value)).flatten), c42, F.sub ⟨rfl, rfl, rfl, rfl, rfl, rfl, trivial⟩, E, B, h17, h46, h4, h8, h11, h39, h48, HL⟩ ?_
  clear HL H E F B
  intro n558 X554 hX554 a w553 ⟨o546, i547, i548, l551, cs549, c552, F, E, B, h17, h46, h4, h8, h11, h545, h550, HL⟩
  obtain ⟨n559, ctl557, rfl, HB, HN555, HD556⟩ := loop_some HL
  have H : haulagelaw14_ShardOnce.b25 k a1 o546 i547 i548 l551 = some ctl557 := HB
  clear HB HL
  unfold haulagelaw14_ShardOnce.b25 at H
  as_aux_lemma =>
  refine wp_seq_k fun K562 hK562 => ?_
  refine wp_seq_k fun K563 hK563 => reg ?_
  refine qm F fun a F => ?_
  refine qm F fun a F => ?_
  refine qv F (r_lensl F Try.underlying22 rfl) fun a F => ?_
  refine qv F (r_lss F rfl rfl) fun a F => ?_
  refine nil (hK563 _ _ ?_)
  by_cases hb564 : i548 < (a1.length : Int)
  ·replace H := ip hb564 H
   refine wp_cond_true (fb F (dt hb564)) (wp_skip (hK562 _ _ ?_))
   refine wp_seq_k fun K565 hK565 => ?_
   refine wp_block ?_
   refine wp_seq_k fun K566 hK566 => reg ?_
   refine qm F fun a F => ?_
   refine qm F fun a F => ?_
   as_aux_lemma =>
   replace H := ifN H
   obtain ⟨g567, H⟩ := H
   obtain ⟨ad568, cs569, e570, h571, r572⟩ := SL.at h4 i548 g567.1 g567.2
   obtain ⟨A573, C574, A576, C577, rfl, h575, h578⟩ := r572
   replace h575 := SL.fl (i' := 0) h575 (fun q => q)
   replace h578 := SL.fl (i' := 0) h578 (fun q => q)
   obtain ⟨qa579, qqa579⟩ : ∃ q, q = (ad568.add (i548.toNat * 8)) := ⟨_, rfl⟩
   have h571 : AT false 0 c552 w553 qa579 [.int .i64 ((rd a1 i548).Who), .int .i64 ((rd a1 i548).Kind), .int .i64 ((rd a1 i548).Client), .int .i64 ((rd a1 i548).Seq), .int .i64 (((rd a1 i548).Op).Kind), .slice A573 (((rd a1 i548).Op).Key).length C574, .slice A576 (((rd a1 i548).Op).Value).length C577, .int .i64 (((rd a1 i548).Op).Rev)] := by rw [qqa579]; exact h571
   refine qv F (r_indexAddr' F Try.underlying22 sz_32 rfl rfl g567.1 g567.2 e570 qqa579) fun a F => ?_
   refine qv F (r_loads (cs := [.int .i64 ((rd a1 i548).Who), .int .i64 ((rd a1 i548).Kind), .int .i64 ((rd a1 i548).Client), .int .i64 ((rd a1 i548).Seq), .int .i64 (((rd a1 i548).Op).Kind), .slice A573 (((rd a1 i548).Op).Key).length C574, .slice A576 (((rd a1 i548).Op).Value).length C577, .int .i64 (((rd a1 i548).Op).Rev)]) F rfl ag_32 sz_32 h571) fun a F => ?_
   refine q_eff F rfl rfl (by decide) (e_alloc F zv_32 c552 (m + 5)) ?_
   rintro v w582 a ⟨c581, qa86, rfl, E583, h88, B584⟩ F
   replace B := B584 _ B lm
   replace h17 := h17.ev E583 nq
   as_aux_lemma =>
   replace h46 := h46.ev E583 nq
   replace h4 := h4.ev E583 nq nq
   replace h8 := h8.ev E583 nq nq
   replace h11 := h11.ev E583 nq nq
   replace h545 := h545.ev E583 nq nq nq
   replace h550 := h550.ev E583 nq
   replace h575 := h575.ev E583 nq nq
   replace h578 := h578.ev E583 nq nq
   replace E := E.trans E583 nx
   replace h88 : AT true (m + 5) c581 w582 qa86 [.int .i64 0, .int .i64 0, .int .i64 0, .int .i64 0, .int .i64 0, .slice none 0 0, .slice none 0 0, .int .i64 0] := h88
   refine q_eff0 F rfl rfl (e_storeN0 (us := [.int .i64 ((rd a1 i548).Who), .int .i64 ((rd a1 i548).Kind), .int .i64 ((rd a1 i548).Client), .int .i64 ((rd a1 i548).Seq), .int .i64 (((rd a1 i548).Op).Kind), .slice A573 (((rd a1 i548).Op).Key).length C574, .slice A576 (((rd a1 i548).Op).Value).length C577, .int .i64 (((rd a1 i548).Op).Rev)]) F rfl rfl sz_32 h88 (nb rfl) (one_all rfl)) ?_
   rintro w585 a ⟨E586, h88, Z587⟩ F
   replace B := B.size Z587
   replace h17 := h17.ev E586 mm
   as_aux_lemma =>
   replace h46 := h46.ev E586 mm
   replace h4 := h4.ev E586 ne_zm ne_zm
   replace h8 := h8.ev E586 ne_zm ne_zm
   replace h11 := h11.ev E586 ne_zm ne_zm
   replace h545 := h545.ev E586 mm mm ne_zm
   replace h550 := h550.ev E586 ne_zm
   replace h575 := h575.ev E586 ne_zm ne_zm
   replace h578 := h578.ev E586 ne_zm ne_zm
   replace E := E.trans E586 lc1
   replace h88 : AT true (m + 5) c581 w585 qa86 [.int .i64 ((rd a1 i548).Who), .int .i64 ((rd a1 i548).Kind), .int .i64 ((rd a1 i548).Client), .int .i64 ((rd a1 i548).Seq), .int .i64 (((rd a1 i548).Op).Kind), .slice A573 (((rd a1 i548).Op).Key).length C574, .slice A576 (((rd a1 i548).Op).Value).length C577, .int .i64 (((rd a1 i548).Op).Rev)] := h88
   refine nil (hK566 _ _ ?_)
   replace F : Fr a 353 [(0, .slice A2 a1.length C3), (3, .pointer (some qa15)), (5, .pointer p38), (6, .pointer (some qa44)), (7, .int .i64 i547), (8, .int .i64 i548), (9, .pointer (some qa86))] := F.sub ⟨rfl, rfl, rfl, rfl, rfl, rfl, rfl, trivial⟩
   refine wp_seq_k fun K588 hK588 => reg ?_
   refine qm F fun a F => ?_
   obtain ⟨t95, q96, H⟩ := bind_some H
   as_aux_lemma =>
   refine qc F Try.func21 (shard_Shard_Export.calls k (m := m + 11) (pl hm0) B h545 lm ⟨lm, mm⟩ _ q96) ?_
   rintro e w590 ⟨c589, A593, C594, rfl, E591, B592, h595⟩
   refine ⟨_, rfl, fun a F => ?_⟩
   have B := B592
   replace h17 := h17.ev E591 nq
   replace h46 := h46.ev E591 nq
   replace h4 := h4.ev E591 nq nq
   replace h8 := h8.ev E591 nq nq
   replace h11 := h11.ev E591 nq nq
   replace h545 := h545.ev E591 nq nq nq
   replace h550 := h550.ev E591 nq
   replace h575 := h575.ev E591 nq nq
   replace h578 := h578.ev E591 nq nq
   replace h88 := h88.ev E591 nq
   as_aux_lemma =>
   replace E := E.trans E591 nx
   refine qa F fun a F => ?_
   refine nil (hK588 _ _ ?_)
   refine wp_seq_k fun K597 hK597 => reg ?_
   refine qm F fun a F => ?_
   obtain ⟨t106, q107, H⟩ := bind_some H
   refine qc F Try.func22 (shard_Shard_Root.calls k (m := m + 11) (pl hm0) B h545 lm ⟨lm, mm⟩ _ q107) ?_
   rintro e w599 ⟨c598, rfl, E600, B601⟩
   refine ⟨_, rfl, fun a F => ?_⟩
   have B := B601
   replace h17 := h17.ev E600 nq
   replace h46 := h46.ev E600 nq
   replace h4 := h4.ev E600 nq nq
   replace h8 := h8.ev E600 nq nq
   as_aux_lemma =>
   replace h11 := h11.ev E600 nq nq
   replace h545 := h545.ev E600 nq nq nq
   replace h550 := h550.ev E600 nq
   replace h575 := h575.ev E600 nq nq
   replace h578 := h578.ev E600 nq nq
   replace h88 := h88.ev E600 nq
   replace h595 := h595.ev E600 nq nq
   replace E := E.trans E600 nx
   refine qa F fun a F => ?_
   refine nil (hK597 _ _ ?_)
   refine wp_seq_k fun K603 hK603 => reg ?_
   refine qm F fun a F => ?_
   refine qf F ff_32_2 fun a F => ?_
   refine qv F (r_load F rfl ag_3 (AT.cell h88 rfl)) fun a F => ?_
   as_aux_lemma =>
   refine qf F ff_32_3 fun a F => ?_
   refine qv F (r_load F rfl ag_3 (AT.cell h88 rfl)) fun a F => ?_
   refine qf F ff_32_4 fun a F => ?_
   refine qv F (r_loads (cs := [.int .i64 (((rd a1 i548).Op).Kind), .slice A573 (((rd a1 i548).Op).Key).length C574, .slice A576 (((rd a1 i548).Op).Value).length C577, .int .i64 (((rd a1 i548).Op).Rev)]) F rfl ag_30 sz_30 (AT.sub h88 4 4 (nb rfl))) fun a F => ?_
   obtain ⟨t114, q115, H⟩ := bind_some H
   refine qc F Try.func10 (shard_Shard_Do.calls k (m := m + 11) (pl hm0) B h545 h575 h578 ⟨(pl hm0), lm⟩ ⟨(pl hm0), lm, mm⟩ _ q115) ?_
   rintro e w605 ⟨c604, A608, C609, A611, C612, rfl, E606, B607, h610, h613, h614⟩
   refine ⟨_, rfl, fun a F => ?_⟩
   have B := B607
   replace h17 := h17.ev E606 (nor mm mm)
   replace h46 := h46.ev E606 (nor mm mm)
   replace h4 := h4.ev E606 (nor ne_zm ne_zm) (nor ne_zm ne_zm)
   replace h8 := h8.ev E606 (nor ne_zm ne_zm) (nor ne_zm ne_zm)
   replace h11 := h11.ev E606 (nor ne_zm ne_zm) (nor ne_zm ne_zm)
   as_aux_lemma =>
   replace h550 := h550.ev E606 (nor ne_zm ne_zm)
   replace h575 := h575.ev E606 (nor ne_zm ne_zm) (nor ne_zm ne_zm)
   replace h578 := h578.ev E606 (nor ne_zm ne_zm) (nor ne_zm ne_zm)
   replace h88 := h88.ev E606 (nor mm mm)
   replace h595 := h595.ev E606 (nor ne_zm ne_zm) (nor ne_zm ne_zm)
   replace E := E.trans E606 lc2
   refine qm F fun a F => ?_
   refine qv F (r_extract F rfl rfl) fun a F => ?_
   refine qv F (r_extract F rfl rfl) fun a F => ?_
   refine qv F (r_extract F rfl rfl) fun a F => ?_
   refine q_eff F rfl rfl (by decide) (e_alloc F zv_34 c604 (m + 6)) ?_
   rintro v w617 a ⟨c616, qa130, rfl, E618, h132, B619⟩ F
   replace B := B619 _ B lm
   replace h17 := h17.ev E618 nq
   as_aux_lemma =>
   replace h46 := h46.ev E618 nq
   replace h4 := h4.ev E618 nq nq
   replace h8 := h8.ev E618 nq nq
   replace h11 := h11.ev E618 nq nq
   replace h550 := h550.ev E618 nq
   replace h575 := h575.ev E618 nq nq
   replace h578 := h578.ev E618 nq nq
   replace h88 := h88.ev E618 nq
   replace h595 := h595.ev E618 nq nq
   replace h610 := h610.ev E618 nq nq
   replace h613 := h613.ev E618 nq nq
   replace h614 := h614.ev E618 nq nq nq
   replace E := E.trans E618 nx
   replace h132 : AT true (m + 6) c616 w617 qa130 [.bool false, .slice none 0 0, .slice none 0 0, .int .i64 0, .int .i64 0] := h132
   as_aux_lemma =>
   refine q_eff0 F rfl rfl (e_storeN0 (us := [.bool t114.1.Done, .slice A608 t114.1.Key.length C609, .slice A611 t114.1.Value.length C612, .int .i64 t114.1.Rev, .int .i64 t114.1.At]) F rfl rfl sz_34 h132 (nb rfl) (one_all rfl)) ?_
   rintro w620 a ⟨E621, h132, Z622⟩ F
   replace B := B.size Z622
   replace h17 := h17.ev E621 mm
   replace h46 := h46.ev E621 mm
   replace h4 := h4.ev E621 ne_zm ne_zm
   replace h8 := h8.ev E621 ne_zm ne_zm
   replace h11 := h11.ev E621 ne_zm ne_zm
   replace h550 := h550.ev E621 ne_zm
   replace h575 := h575.ev E621 ne_zm ne_zm
   replace h578 := h578.ev E621 ne_zm ne_zm
   replace h88 := h88.ev E621 mm
   replace h595 := h595.ev E621 ne_zm ne_zm
   replace h610 := h610.ev E621 ne_zm ne_zm
   as_aux_lemma =>
   replace h613 := h613.ev E621 ne_zm ne_zm
   replace h614 := h614.ev E621 mm mm ne_zm
   replace E := E.trans E621 lc1
   replace h132 : AT true (m + 6) c616 w620 qa130 [.bool t114.1.Done, .slice A608 t114.1.Key.length C609, .slice A611 t114.1.Value.length C612, .int .i64 t114.1.Rev, .int .i64 t114.1.At] := h132
   refine qa F fun a F => ?_
   refine qa F fun a F => ?_
   refine nil (hK603 _ _ ?_)
   replace F : Fr a 353 [(0, .slice A2 a1.length C3), (3, .pointer (some qa15)), (5, .pointer p38), (6, .pointer (some qa44)), (7, .int .i64 i547), (8, .int .i64 i548), (9, .pointer (some qa86)), (10, .slice A593 t95.length C594), (11, .int .u64 t106), (12, .pointer (some qa130)), (13, .bool t114.2.1), (14, .int .i64 t114.2.2.1)] := F.sub ⟨rfl, rfl, rfl, rfl, rfl, rfl, rfl, rfl, rfl, rfl, rfl, rfl, trivial⟩
   refine wp_seq_k fun K623 hK623 => ?_
   have J626 : ∀ (c627 : Nat → Nat) (w628 : World) (a : Act) (b625 : Bool), Fr a 353 [(0, .slice A2 a1.length C3), (3, .pointer (some qa15)), (5, .pointer p38), (6, .pointer (some qa44)), (7, .int .i64 i547), (8, .int .i64 i548), (9, .pointer (some qa86)), (10, .slice A593 t95.length C594), (11, .int .u64 t106), (12, .pointer (some qa130)), (13, .bool t114.2.1), (14, .int .i64 t114.2.2.1), (15, .bool b625)] → Ev (fun x => False ∨ m ≤ x) c0 w0 c627 w628 → CB (m + 11) c627 w628 → AT true (m + 1) c627 w628 qa15 [.int .i64 a5.Kind, .slice A6 a5.Key.length C7, .slice A9 a5.Value.length C10, .int .i64 a5.Rev] → AT true (m + 4) c627 w628 qa44 (([] : List Value) ++ (cs549 ++ (([] : List Value)))) → AT true (m + 5) c627 w628 qa86 [.int .i64 ((rd a1 i548).Who), .int .i64 ((rd a1 i548).Kind), .int .i64 ((rd a1 i548).Client), .int .i64 ((rd a1 i548).Seq), .int .i64 (((rd a1 i548).Op).Kind), .slice A573 (((rd a1 i548).Op).Key).length C574, .slice A576 (((rd a1 i548).Op).Value).length C577, .int .i64 (((rd a1 i548).Op).Rev)] → AT true (m + 6) c627 w628 qa130 [.bool t114.1.Done, .slice A608 t114.1.Key.length C609, .slice A611 t114.1.Value.length C612, .int .i64 t114.1.Rev, .int .i64 t114.1.At] → SL false K_haulagelaw14_Step 0 0 c627 w628 A2 C3 a1 → SL false (Kint .u8) 0 0 c627 w628 A6 C7 a5.Key → SL false (Kint .u8) 0 0 c627 w628 A9 C10 a5.Value → SH (m + 2) (m + 3) c627 w628 p38 t114.2.2.2 → AR K_haulagelaw14_again 0 c627 w628 cs549 16 l551 → SL false (Kint .u8) 0 0 c627 w628 A573 C574 (((rd a1 i548).Op).Key) → SL false (Kint .u8) 0 0 c627 w628 A576 C577 (((rd a1 i548).Op).Value) → SL false (Kint .u8) 0 0 c627 w628 A593 C594 t95 → SL false (Kint .u8) 0 0 c627 w628 A608 C609 t114.1.Key → SL false (Kint .u8) 0 0 c627 w628 A611 C612 t114.1.Value → haulagelaw14_ShardOnce.j13 k a1 t95 t106 t114 i547 i548 l551 b625 = some ctl557 → K623 a w628 := by
    intro c627 w628 a b625 F E B h17 h46 h88 h132 h4 h8 h11 h614 h550 h575 h578 h595 h610 h613 H
    unfold haulagelaw14_ShardOnce.j13 at H
    refine hK623 _ _ ?_
    refine wp_seq_k fun K629 hK629 => ?_
    as_aux_lemma =>
    refine wp_seq_k fun K630 hK630 => ?_
    have J641 : ∀ (c642 : Nat → Nat) (w643 : World) (a : Act) (b640 : Bool), Fr a 353 [(0, .slice A2 a1.length C3), (3, .pointer (some qa15)), (5, .pointer p38), (6, .pointer (some qa44)), (7, .int .i64 i547), (8, .int .i64 i548), (9, .pointer (some qa86)), (10, .slice A593 t95.length C594), (11, .int .u64 t106), (12, .pointer (some qa130)), (13, .bool t114.2.1), (14, .int .i64 t114.2.2.1), (15, .bool b625), (85, .bool b640)] → Ev (fun x => False ∨ m ≤ x) c0 w0 c642 w643 → CB (m + 11) c642 w643 → AT true (m + 1) c642 w643 qa15 [.int .i64 a5.Kind, .slice A6 a5.Key.length C7, .slice A9 a5.Value.length C10, .int .i64 a5.Rev] → AT true (m + 4) c642 w643 qa44 (([] : List Value) ++ (cs549 ++ (([] : List Value)))) → AT true (m + 5) c642 w643 qa86 [.int .i64 ((rd a1 i548).Who), .int .i64 ((rd a1 i548).Kind), .int .i64 ((rd a1 i548).Client), .int .i64 ((rd a1 i548).Seq), .int .i64 (((rd a1 i548).Op).Kind), .slice A573 (((rd a1 i548).Op).Key).length C574, .slice A576 (((rd a1 i548).Op).Value).length C577, .int .i64 (((rd a1 i548).Op).Rev)] → AT true (m + 6) c642 w643 qa130 [.bool t114.1.Done, .slice A608 t114.1.Key.length C609, .slice A611 t114.1.Value.length C612, .int .i64 t114.1.Rev, .int .i64 t114.1.At] → SL false K_haulagelaw14_Step 0 0 c642 w643 A2 C3 a1 → SL false (Kint .u8) 0 0 c642 w643 A6 C7 a5.Key → SL false (Kint .u8) 0 0 c642 w643 A9 C10 a5.Value → SH (m + 2) (m + 3) c642 w643 p38 t114.2.2.2 → AR K_haulagelaw14_again 0 c642 w643 cs549 16 l551 → SL false (Kint .u8) 0 0 c642 w643 A573 C574 (((rd a1 i548).Op).Key) → SL false (Kint .u8) 0 0 c642 w643 A576 C577 (((rd a1 i548).Op).Value) → SL false (Kint .u8) 0 0 c642 w643 A593 C594 t95 → SL false (Kint .u8) 0 0 c642 w643 A608 C609 t114.1.Key → SL false (Kint .u8) 0 0 c642 w643 A611 C612 t114.1.Value → haulagelaw14_ShardOnce.j14 k a1 t95 t106 t114 i547 i548 l551 b625 b640 = some ctl557 → K630 a w643 := by
     intro c642 w643 a b640 F E B h17 h46 h88 h132 h4 h8 h11 h614 h550 h575 h578 h595 h610 h613 H
     unfold haulagelaw14_ShardOnce.j14 at H
     refine hK630 _ _ ?_
     by_cases hb644 : b640 = true
     ·replace H := ip hb644 H
      refine wp_cond_true (fb F hb644) ?_
      refine wp_seq_k fun K645 hK645 => reg ?_
      refine qa F fun a F => ?_
      refine nil (hK645 _ _ ?_)
      replace F : Fr a 353 [(4, .bool false)] := F.sub ⟨rfl, trivial⟩
      refine wp_ret ?_
      refine thenR ?_
      refine inbR ?_
      as_aux_lemma =>
      refine thenR ?_
      refine thenR ?_
      refine inbR ?_
      refine thenR ?_
      have hx_ := HD556 _ (si H).symm
      have H := HR560
      rw [← hx_] at H
      replace H : some false = some r := H
      replace H := si H
      subst H
      refine out1 F rfl rfl ?_
      exact ⟨cf (fun x_ => if x_ < m then x_ else 0) c642, rfl, E.lv B0, cfb⟩
     replace H := im hb644 H
     refine wp_cond_false (fb F (bfalse hb644)) (wp_skip (hK629 _ _ ?_))
     as_aux_lemma =>
     refine wp_seq_k fun K646 hK646 => ?_
     refine wp_seq_k fun K647 hK647 => ?_
     have J669 : ∀ (c670 : Nat → Nat) (w671 : World) (a : Act) (b668 : Bool), Fr a 353 [(0, .slice A2 a1.length C3), (3, .pointer (some qa15)), (5, .pointer p38), (6, .pointer (some qa44)), (7, .int .i64 i547), (8, .int .i64 i548), (9, .pointer (some qa86)), (12, .pointer (some qa130)), (13, .bool t114.2.1), (14, .int .i64 t114.2.2.1), (15, .bool b625), (100, .bool b668)] → Ev (fun x => False ∨ m ≤ x) c0 w0 c670 w671 → CB (m + 11) c670 w671 → AT true (m + 1) c670 w671 qa15 [.int .i64 a5.Kind, .slice A6 a5.Key.length C7, .slice A9 a5.Value.length C10, .int .i64 a5.Rev] → AT true (m + 4) c670 w671 qa44 (([] : List Value) ++ (cs549 ++ (([] : List Value)))) → AT true (m + 5) c670 w671 qa86 [.int .i64 ((rd a1 i548).Who), .int .i64 ((rd a1 i548).Kind), .int .i64 ((rd a1 i548).Client), .int .i64 ((rd a1 i548).Seq), .int .i64 (((rd a1 i548).Op).Kind), .slice A573 (((rd a1 i548).Op).Key).length C574, .slice A576 (((rd a1 i548).Op).Value).length C577, .int .i64 (((rd a1 i548).Op).Rev)] → AT true (m + 6) c670 w671 qa130 [.bool t114.1.Done, .slice A608 t114.1.Key.length C609, .slice A611 t114.1.Value.length C612, .int .i64 t114.1.Rev, .int .i64 t114.1.At] → SL false K_haulagelaw14_Step 0 0 c670 w671 A2 C3 a1 → SL false (Kint .u8) 0 0 c670 w671 A6 C7 a5.Key → SL false (Kint .u8) 0 0 c670 w671 A9 C10 a5.Value → SH (m + 2) (m + 3) c670 w671 p38 t114.2.2.2 → AR K_haulagelaw14_again 0 c670 w671 cs549 16 l551 → SL false (Kint .u8) 0 0 c670 w671 A573 C574 (((rd a1 i548).Op).Key) → SL false (Kint .u8) 0 0 c670 w671 A576 C577 (((rd a1 i548).Op).Value) → SL false (Kint .u8) 0 0 c670 w671 A608 C609 t114.1.Key → SL false (Kint .u8) 0 0 c670 w671 A611 C612 t114.1.Value → haulagelaw14_ShardOnce.j15 k a1 t114 i547 i548 l551 b625 b668 = some ctl557 → K647 a w671 := by
      intro c670 w671 a b668 F E B h17 h46 h88 h132 h4 h8 h11 h614 h550 h575 h578 h610 h613 H
      unfold haulagelaw14_ShardOnce.j15 at H
      refine hK647 _ _ ?_
      by_cases hb672 : b668 = true
      ·replace H := ip hb672 H
       refine wp_cond_true (fb F hb672) ?_
       refine wp_seq_k fun K673 hK673 => reg ?_
       refine qa F fun a F => ?_
       refine nil (hK673 _ _ ?_)
       replace F : Fr a 353 [(4, .bool false)] := F.sub ⟨rfl, trivial⟩
       refine wp_ret ?_
       refine thenR ?_
       as_aux_lemma =>
       refine inbR ?_
       refine thenR ?_
       refine thenR ?_
       refine inbR ?_
       refine thenR ?_
       have hx_ := HD556 _ (si H).symm
       have H := HR560
       rw [← hx_] at H
       replace H : some false = some r := H
       replace H := si H
       subst H
       refine out1 F rfl rfl ?_
       exact ⟨cf (fun x_ => if x_ < m then x_ else 0) c670, rfl, E.lv B0, cfb⟩
      replace H := im hb672 H
      as_aux_lemma =>
      refine wp_cond_false (fb F (bfalse hb672)) (wp_skip (hK646 _ _ ?_))
      refine wp_seq_k fun K674 hK674 => ?_
      have J775 : ∀ (c776 : Nat → Nat) (w777 : World) (a : Act), Fr a 353 [(0, .slice A2 a1.length C3), (3, .pointer (some qa15)), (5, .pointer p38), (6, .pointer (some qa44)), (7, .int .i64 i547), (8, .int .i64 i548), (9, .pointer (some qa86)), (12, .pointer (some qa130)), (13, .bool t114.2.1), (14, .int .i64 t114.2.2.1), (15, .bool b625)] → Ev (fun x => False ∨ m ≤ x) c0 w0 c776 w777 → CB (m + 11) c776 w777 → AT true (m + 1) c776 w777 qa15 [.int .i64 a5.Kind, .slice A6 a5.Key.length C7, .slice A9 a5.Value.length C10, .int .i64 a5.Rev] → AT true (m + 4) c776 w777 qa44 (([] : List Value) ++ (cs549 ++ (([] : List Value)))) → AT true (m + 5) c776 w777 qa86 [.int .i64 ((rd a1 i548).Who), .int .i64 ((rd a1 i548).Kind), .int .i64 ((rd a1 i548).Client), .int .i64 ((rd a1 i548).Seq), .int .i64 (((rd a1 i548).Op).Kind), .slice A573 (((rd a1 i548).Op).Key).length C574, .slice A576 (((rd a1 i548).Op).Value).length C577, .int .i64 (((rd a1 i548).Op).Rev)] → AT true (m + 6) c776 w777 qa130 [.bool t114.1.Done, .slice A608 t114.1.Key.length C609, .slice A611 t114.1.Value.length C612, .int .i64 t114.1.Rev, .int .i64 t114.1.At] → SL false K_haulagelaw14_Step 0 0 c776 w777 A2 C3 a1 → SL false (Kint .u8) 0 0 c776 w777 A6 C7 a5.Key → SL false (Kint .u8) 0 0 c776 w777 A9 C10 a5.Value → SH (m + 2) (m + 3) c776 w777 p38 t114.2.2.2 → AR K_haulagelaw14_again 0 c776 w777 cs549 16 l551 → SL false (Kint .u8) 0 0 c776 w777 A573 C574 (((rd a1 i548).Op).Key) → SL false (Kint .u8) 0 0 c776 w777 A576 C577 (((rd a1 i548).Op).Value) → SL false (Kint .u8) 0 0 c776 w777 A608 C609 t114.1.Key → SL false (Kint .u8) 0 0 c776 w777 A611 C612 t114.1.Value → haulagelaw14_ShardOnce.j18 k a1 t114 i547 i548 l551 b625 = some ctl557 → K674 a w777 := by
       intro c776 w777 a  F E B h17 h46 h88 h132 h4 h8 h11 h614 h550 h575 h578 h610 h613 H
       unfold haulagelaw14_ShardOnce.j18 at H
       refine hK674 _ _ ?_
       refine wp_seq_k fun K778 hK778 => ?_
       refine wp_seq_k fun K779 hK779 => ?_
       have J788 : ∀ (c789 : Nat → Nat) (w790 : World) (a : Act) (b787 : Bool), Fr a 353 [(0, .slice A2 a1.length C3), (3, .pointer (some qa15)), (5, .pointer p38), (6, .pointer (some qa44)), (7, .int .i64 i547), (8, .int .i64 i548), (9, .pointer (some qa86)), (12, .pointer (some qa130)), (13, .bool t114.2.1), (15, .bool b625), (169, .bool b787)] → Ev (fun x => False ∨ m ≤ x) c0 w0 c789 w790 → CB (m + 11) c789 w790 → AT true (m + 1) c789 w790 qa15 [.int .i64 a5.Kind, .slice A6 a5.Key.length C7, .slice A9 a5.Value.length C10, .int .i64 a5.Rev] → AT true (m + 4) c789 w790 qa44 (([] : List Value) ++ (cs549 ++ (([] : List Value)))) → AT true (m + 5) c789 w790 qa86 [.int .i64 ((rd a1 i548).Who), .int .i64 ((rd a1 i548).Kind), .int .i64 ((rd a1 i548).Client), .int .i64 ((rd a1 i548).Seq), .int .i64 (((rd a1 i548).Op).Kind), .slice A573 (((rd a1 i548).Op).Key).length C574, .slice A576 (((rd a1 i548).Op).Value).length C577, .int .i64 (((rd a1 i548).Op).Rev)] → AT true (m + 6) c789 w790 qa130 [.bool t114.1.Done, .slice A608 t114.1.Key.length C609, .slice A611 t114.1.Value.length C612, .int .i64 t114.1.Rev, .int .i64 t114.1.At] → SL false K_haulagelaw14_Step 0 0 c789 w790 A2 C3 a1 → SL false (Kint .u8) 0 0 c789 w790 A6 C7 a5.Key → SL false (Kint .u8) 0 0 c789 w790 A9 C10 a5.Value → SH (m + 2) (m + 3) c789 w790 p38 t114.2.2.2 → AR K_haulagelaw14_again 0 c789 w790 cs549 16 l551 → SL false (Kint .u8) 0 0 c789 w790 A573 C574 (((rd a1 i548).Op).Key) → SL false (Kint .u8) 0 0 c789 w790 A576 C577 (((rd a1 i548).Op).Value) → SL false (Kint .u8) 0 0 c789 w790 A608 C609 t114.1.Key → SL false (Kint .u8) 0 0 c789 w790 A611 C612 t114.1.Value → haulagelaw14_ShardOnce.j19 k a1 t114 i547 i548 l551 b625 b787 = some ctl557 → K779 a w790 := by
        intro c789 w790 a b787 F E B h17 h46 h88 h132 h4 h8 h11 h614 h550 h575 h578 h610 h613 H
        unfold haulagelaw14_ShardOnce.j19 at H
        refine hK779 _ _ ?_
        by_cases hb791 : b787 = true
        ·replace H := ip hb791 H
         refine wp_cond_true (fb F hb791) ?_
         as_aux_lemma =>
         refine wp_seq_k fun K792 hK792 => reg ?_
         refine qa F fun a F => ?_
         refine nil (hK792 _ _ ?_)
         replace F : Fr a 353 [(4, .bool false)] := F.sub ⟨rfl, trivial⟩
         refine wp_ret ?_
         refine thenR ?_
         refine inbR ?_
         refine thenR ?_
         refine thenR ?_
         refine inbR ?_
         refine thenR ?_
         have hx_ := HD556 _ (si H).symm
         have H := HR560
         rw [← hx_] at H
         as_aux_lemma =>
         replace H : some false = some r := H
         replace H := si H
         subst H
         refine out1 F rfl rfl ?_
         exact ⟨cf (fun x_ => if x_ < m then x_ else 0) c789, rfl, E.lv B0, cfb⟩
        replace H := im hb791 H
        refine wp_cond_false (fb F (bfalse hb791)) (wp_skip (hK778 _ _ ?_))
        refine wp_seq_k fun K793 hK793 => ?_
        have J882 : ∀ (c883 : Nat → Nat) (w884 : World) (a : Act) (i878 : Int) (l881 : List haulagelaw14_again) (cs879 : List Value), Fr a 353 [(0, .slice A2 a1.length C3), (3, .pointer (some qa15)), (5, .pointer p38), (6, .pointer (some qa44)), (7, .int .i64 i878), (8, .int .i64 i548)] → Ev (fun x => False ∨ m ≤ x) c0 w0 c883 w884 → CB (m + 11) c883 w884 → AT true (m + 1) c883 w884 qa15 [.int .i64 a5.Kind, .slice A6 a5.Key.length C7, .slice A9 a5.Value.length C10, .int .i64 a5.Rev] → AT true (m + 4) c883 w884 qa44 (([] : List Value) ++ (cs879 ++ (([] : List Value)))) → SL false K_haulagelaw14_Step 0 0 c883 w884 A2 C3 a1 → SL false (Kint .u8) 0 0 c883 w884 A6 C7 a5.Key → SL false (Kint .u8) 0 0 c883 w884 A9 C10 a5.Value → SH (m + 2) (m + 3) c883 w884 p38 t114.2.2.2 → AR K_haulagelaw14_again 0 c883 w884 cs879 16 l881 → haulagelaw14_ShardOnce.j21 k t114 i548 i878 l881 = some ctl557 → K793 a w884 := by
         intro c883 w884 a i878 l881 cs879 F E B h17 h46 h4 h8 h11 h614 h880 H
         unfold haulagelaw14_ShardOnce.j21 at H
         refine hK793 _ _ ?_
         refine wp_seq_k fun K885 hK885 => reg ?_
         refine qa F fun a F => ?_
         as_aux_lemma =>
         refine nil (hK885 _ _ ?_)
         refine wp_block ?_
         obtain ⟨x896, HL, HR895⟩ := bind_some H
         have J996 : ∀ (c997 : Nat → Nat) (w998 : World) (a : Act), Fr a 353 [(0, .slice A2 a1.length C3), (3, .pointer (some qa15)), (5, .pointer p38), (6, .pointer (some qa44)), (7, .int .i64 i878), (8, .int .i64 i548)] → Ev (fun x => False ∨ m ≤ x) c0 w0 c997 w998 → CB (m + 11) c997 w998 → AT true (m + 1) c997 w998 qa15 [.int .i64 a5.Kind, .slice A6 a5.Key.length C7, .slice A9 a5.Value.length C10, .int .i64 a5.Rev] → AT true (m + 4) c997 w998 qa44 (([] : List Value) ++ (cs879 ++ (([] : List Value)))) → SL false K_haulagelaw14_Step 0 0 c997 w998 A2 C3 a1 → SL false (Kint .u8) 0 0 c997 w998 A6 C7 a5.Key → SL false (Kint .u8) 0 0 c997 w998 A9 C10 a5.Value → SH (m + 2) (m + 3) c997 w998 p38 t114.2.2.2 → AR K_haulagelaw14_again 0 c997 w998 cs879 16 l881 → haulagelaw14_ShardOnce.j24 t114 i548 i878 l881 = some ctl557 → K565 a w998 := by
          intro c997 w998 a  F E B h17 h46 h4 h8 h11 h614 h880 H
          unfold haulagelaw14_ShardOnce.j24 at H
          refine hK565 _ _ ?_
          refine reg ?_
          refine qm F fun a F => ?_
          refine qv F (r_add F rfl rfl) fun a F => ?_
          refine qa F fun a F => ?_
          refine nil ?_
          replace H := HN555 _ (si H).symm
          exact hX554 _ _ _ (Nat.lt_succ_self _) ⟨t114.2.2.2, i878, (IntKind.i64.wrap (i548 + 1)), l881, cs879, c997, F.sub ⟨rfl, rfl, rfl, rfl, rfl, rfl, trivial⟩, E, B, h17, h46, h4, h8, h11, h614, h880, H⟩
         refine loop_fuel (I := fun n a w => ∃ (i886 : Int) (c : Nat → Nat), Fr a 353 [(0, .slice A2 a1.length C3), (3, .pointer (some qa15)), (5, .pointer p38), (6, .pointer (some qa44)), (7, .int .i64 i878), (8, .int .i64 i548), (17, .int .i64 i886)] ∧ Ev (fun x => False ∨ m ≤ x) c0 w0 c w ∧ CB (m + 11) c w ∧ AT true (m + 1) c w qa15 [.int .i64 a5.Kind, .slice A6 a5.Key.length C7, .slice A9 a5.Value.length C10, .int .i64 a5.Rev] ∧ AT true (m + 4) c w qa44 (([] : List Value) ++ (cs879 ++ (([] : List Value)))) ∧ SL false K_haulagelaw14_Step 0 0 c w A2 C3 a1 ∧ SL false (Kint .u8) 0 0 c w A6 C7 a5.Key ∧ SL false (Kint .u8) 0 0 c w A9 C10 a5.Value ∧ SH (m + 2) (m + 3) c w p38 t114.2.2.2 ∧ AR K_haulagelaw14_again 0 c w cs879 16 l881 ∧ loop (fun (s_ : Int) => haulagelaw14_ShardOnce.b23 k t114 l881 s_) n i886 = some x896) (k := k) ⟨0, c883, F.sub ⟨rfl, rfl, rfl, rfl, rfl, rfl, rfl, trivial⟩, E, B, h17, h46, h4, h8, h11, h614, h880, HL⟩ ?_
         clear HL H E F B
         intro n893 X889 hX889 a w888 ⟨i886, c887, F, E, B, h17, h46, h4, h8, h11, h614, h880, HL⟩
         obtain ⟨n894, ctl892, rfl, HB, HN890, HD891⟩ := loop_some HL
         have H : haulagelaw14_ShardOnce.b23 k t114 l881 i886 = some ctl892 := HB
         clear HB HL
         unfold haulagelaw14_ShardOnce.b23 at H
         as_aux_lemma =>
         refine wp_seq_k fun K897 hK897 => ?_
         refine wp_seq_k fun K898 hK898 => reg ?_
         refine qm F fun a F => ?_
         refine qv F (r_lss F rfl rfl) fun a F => ?_
         refine nil (hK898 _ _ ?_)
         by_cases hb899 : i886 < 16
         ·replace H := ip hb899 H
          refine wp_cond_true (fb F (dt hb899)) (wp_skip (hK897 _ _ ?_))
          refine wp_seq_k fun K900 hK900 => ?_
          refine wp_block ?_
          refine wp_seq_k fun K901 hK901 => reg ?_
          refine qm F fun a F => ?_
          refine qm F fun a F => ?_
          obtain ⟨t440, q441, H⟩ := bind_some H
          refine qc F Try.func9 (shard_Shard_Seat.calls (m := m + 11) (pl hm0) B h614 lm ⟨lm, mm⟩ _ q441) ?_
          rintro e w903 ⟨c902, A906, C907, A909, C910, rfl, E904, B905, h908, h911⟩
          as_aux_lemma =>
          refine ⟨_, rfl, fun a F => ?_⟩
          have B := B905
          replace h17 := h17.ev E904 nq
          replace h46 := h46.ev E904 nq
          replace h4 := h4.ev E904 nq nq
          replace h8 := h8.ev E904 nq nq
          replace h11 := h11.ev E904 nq nq
          replace h614 := h614.ev E904 nq nq nq
          replace h880 := h880.ev E904 nq
          replace E := E.trans E904 nx
          refine qm F fun a F => ?_
          refine qv F (r_extract F rfl rfl) fun a F => ?_
          refine qv F (r_extract F rfl rfl) fun a F => ?_
          refine q_eff F rfl rfl (by decide) (e_alloc F zv_36 c902 (m + 8)) ?_
          rintro v w914 a ⟨c913, qa455, rfl, E915, h457, B916⟩ F
          as_aux_lemma =>
          replace B := B916 _ B lm
          replace h17 := h17.ev E915 nq
          replace h46 := h46.ev E915 nq
          replace h4 := h4.ev E915 nq nq
          replace h8 := h8.ev E915 nq nq
          replace h11 := h11.ev E915 nq nq
          replace h614 := h614.ev E915 nq nq nq
          replace h880 := h880.ev E915 nq
          replace h908 := h908.ev E915 nq nq
          replace h911 := h911.ev E915 nq nq
          replace E := E.trans E915 nx
          replace h457 : AT true (m + 8) c913 w914 qa455 [.int .i64 0, .int .i64 0, .bool false, .slice none 0 0, .slice none 0 0, .int .i64 0, .int .i64 0] := h457
          refine q_eff0 F rfl rfl (e_storeN0 (us := [.int .i64 t440.1.Client, .int .i64 t440.1.Seq, .bool t440.1.Answer.Done, .slice A906 t440.1.Answer.Key.length C907, .slice A909 t440.1.Answer.Value.length C910, .int .i64 t440.1.Answer.Rev, .int .i64 t440.1.Answer.At]) F rfl rfl sz_36 h457 (nb rfl) (one_all rfl)) ?_
          rintro w917 a ⟨E918, h457, Z919⟩ F
          as_aux_lemma =>
          replace B := B.size Z919
          replace h17 := h17.ev E918 mm
          replace h46 := h46.ev E918 mm
          replace h4 := h4.ev E918 ne_zm ne_zm
          replace h8 := h8.ev E918 ne_zm ne_zm
          replace h11 := h11.ev E918 ne_zm ne_zm
          replace h614 := h614.ev E918 mm mm ne_zm
          replace h880 := h880.ev E918 ne_zm
          replace h908 := h908.ev E918 ne_zm ne_zm
          replace h911 := h911.ev E918 ne_zm ne_zm
          replace E := E.trans E918 lc1
          replace h457 : AT true (m + 8) c913 w917 qa455 [.int .i64 t440.1.Client, .int .i64 t440.1.Seq, .bool t440.1.Answer.Done, .slice A906 t440.1.Answer.Key.length C907, .slice A909 t440.1.Answer.Value.length C910, .int .i64 t440.1.Answer.Rev, .int .i64 t440.1.Answer.At] := h457
          refine qa F fun a F => ?_
          refine nil (hK901 _ _ ?_)
          replace F : Fr a 353 [(0, .slice A2 a1.length C3), (3, .pointer (some qa15)), (5, .pointer p38), (6, .pointer (some qa44)), (7, .int .i64 i878), (8, .int .i64 i548), (17, .int .i64 i886), (18, .pointer (some qa455)), (19, .bool t440.2)] := F.sub ⟨rfl, rfl, rfl, rfl, rfl, rfl, rfl, rfl, rfl, trivial⟩
          as_aux_lemma =>
          refine wp_seq_k fun K920 hK920 => ?_
          have J990 : ∀ (c991 : Nat → Nat) (w992 : World) (a : Act) (b989 : Bool), Fr a 353 [(0, .slice A2 a1.length C3), (3, .pointer (some qa15)), (5, .pointer p38), (6, .pointer (some qa44)), (7, .int .i64 i878), (8, .int .i64 i548), (17, .int .i64 i886), (260, .bool b989)] → Ev (fun x => False ∨ m ≤ x) c0 w0 c991 w992 → CB (m + 11) c991 w992 → AT true (m + 1) c991 w992 qa15 [.int .i64 a5.Kind, .slice A6 a5.Key.length C7, .slice A9 a5.Value.length C10, .int .i64 a5.Rev] → AT true (m + 4) c991 w992 qa44 (([] : List Value) ++ (cs879 ++ (([] : List Value)))) → SL false K_haulagelaw14_Step 0 0 c991 w992 A2 C3 a1 → SL false (Kint .u8) 0 0 c991 w992 A6 C7 a5.Key → SL false (Kint .u8) 0 0 c991 w992 A9 C10 a5.Value → SH (m + 2) (m + 3) c991 w992 p38 t114.2.2.2 → AR K_haulagelaw14_again 0 c991 w992 cs879 16 l881 → haulagelaw14_ShardOnce.j22 i886 b989 = some ctl892 → K920 a w992 := by
           intro c991 w992 a b989 F E B h17 h46 h4 h8 h11 h614 h880 H
           unfold haulagelaw14_ShardOnce.j22 at H
           refine hK920 _ _ ?_
           by_cases hb993 : b989 = true
           ·replace H := ip hb993 H
            refine wp_cond_true (fb F hb993) ?_
            refine wp_seq_k fun K994 hK994 => reg ?_
            refine qa F fun a F => ?_
            refine nil (hK994 _ _ ?_)
            replace F : Fr a 353 [(4, .bool false)] := F.sub ⟨rfl, trivial⟩
            refine wp_ret ?_
            refine inbR ?_
            refine thenR ?_
            as_aux_lemma =>
            refine thenR ?_
            refine inbR ?_
            refine inbR ?_
            refine thenR ?_
            refine thenR ?_
            refine inbR ?_
            refine thenR ?_
            have hx_ := HD891 _ (si H).symm
            have H := HR895
            rw [← hx_] at H
            replace H : some (.done (.inr false)) = some ctl557 := H
            have hx_ := HD556 _ (si H).symm
            have H := HR560
            rw [← hx_] at H
            as_aux_lemma =>
            replace H : some false = some r := H
            replace H := si H
            subst H
            refine out1 F rfl rfl ?_
            exact ⟨cf (fun x_ => if x_ < m then x_ else 0) c991, rfl, E.lv B0, cfb⟩
           replace H := im hb993 H
           refine wp_cond_false (fb F (bfalse hb993)) (wp_skip (hK900 _ _ ?_))
           refine reg ?_
           refine qm F fun a F => ?_
           refine qv F (r_add F rfl rfl) fun a F => ?_
           refine qa F fun a F => ?_
           refine nil ?_
           replace H := HN890 _ (si H).symm
           exact hX889 _ _ _ (Nat.lt_succ_self _) ⟨(IntKind.i64.wrap (i886 + 1)), c991, F.sub ⟨rfl, rfl, rfl, rfl, rfl, rfl, rfl, trivial⟩, E, B, h17, h46, h4, h8, h11, h614, h880, H⟩
          as_aux_lemma =>
          refine regD (SB No c913 w917) 35 (.q 0 (.q 1 (.q 2 (.q 3 (.q 4 (.q 5 (.q 6 (.q 7 (.q 8 (.q 9 (.q 10 (.q 11 (.q 12 (.q 13 (.q 14 (.q 15 (.q 16 (.q 17 (.q 18 (.q 19 (.q 20 (.q 21 (.q 22 (.q 23 (.q 24 (.q 25 (.q 26 (.q 27 (.q 28 (.q 29 (.e 30 (.q 31 (.q 32 (.q 33 (.q 34 .nil))))))))))))))))))))))))))))))))))) Try_hm (by decide +kernel) ?_
          intro w921 w1_ w2_ w3_ w4_
          have E922 : Ev No c913 w917 c913 w921 := Ev.same w1_ w2_ w3_ w4_
          replace B := B.same w1_
          have zh46 := h46
          have zh880 := h880
          have zh457 := h457
          have ER : Ev No c913 w917 c913 w921 := Ev.same w1_ w2_ w3_ w4_
          replace h17 := h17.ev E922 nq
          replace h46 := h46.ev E922 nq
          replace h4 := h4.ev E922 nq nq
          replace h8 := h8.ev E922 nq nq
          replace h11 := h11.ev E922 nq nq
          replace h614 := h614.ev E922 nq nq nq
          as_aux_lemma =>
          replace h880 := h880.ev E922 nq
          replace h908 := h908.ev E922 nq nq
          replace h911 := h911.ev E922 nq nq
          replace E := E.trans E922 nx
          refine dm F ER.sb fun a F => ?_
          refine dm F ER.sb fun a F => ?_
          replace H := ifN H
          obtain ⟨g923, H⟩ := H
          obtain ⟨cs925, h926, r927⟩ := AR.at (off := 0) zh46 rfl zh880 i886 g923.1 (by have g_ := g923.2; omega)
          obtain ⟨A929, C930, A932, C933, A935, C936, A938, C939, rfl, h931, h934, h937, h940⟩ := r927
          obtain ⟨qa928, qqa928⟩ : ∃ q, q = (qa44.add (0 + i886.toNat * 14)) := ⟨_, rfl⟩
          have h926 : AT true (m + 4) c913 w917 qa928 [.bool ((rd l881 i886).is), .int .i64 (((rd l881 i886).step).Who), .int .i64 (((rd l881 i886).step).Kind), .int .i64 (((rd l881 i886).step).Client), .int .i64 (((rd l881 i886).step).Seq), .int .i64 ((((rd l881 i886).step).Op).Kind), .slice A929 ((((rd l881 i886).step).Op).Key).length C930, .slice A932 ((((rd l881 i886).step).Op).Value).length C933, .int .i64 ((((rd l881 i886).step).Op).Rev), .bool (((rd l881 i886).answer).Done), .slice A935 (((rd l881 i886).answer).Key).length C936, .slice A938 (((rd l881 i886).answer).Value).length C939, .int .i64 (((rd l881 i886).answer).Rev), .int .i64 (((rd l881 i886).answer).At)] := by rw [qqa928]; exact h926
          have zh926 := h926
          refine dq F (fun wq hS => r_indexArr0 F ua_53 sz_52 rfl rfl g923.1 (by have g_ := g923.2; omega) qqa928) ER.sb fun a F => ?_
          as_aux_lemma =>
          refine df F ff_52_0 ER.sb fun a F => ?_
          refine dq F (fun wq hS => r_load F rfl ag_4 (AT.cell (AT.sb zh926 hS nq) rfl)) ER.sb fun a F => ?_
          refine dq F (fun wq hS => r_bneq F Try.underlying4 rfl rfl) ER.sb fun a F => ?_
          refine dm F ER.sb fun a F => ?_
          by_cases hb942 : (t440.2 == ((rd l881 i886).is)) = true
          ·replace H := ip hb942 H
           refine dy F (congrArg not hb942) (fun wq hS => r_move F rfl) ER.sb fun a F => ?_
           refine dy F (congrArg not hb942) (fun wq hS => r_move F rfl) ER.sb fun a F => ?_
           by_cases hb943 : t440.2 = true
           ·replace H := ip hb943 H
            refine dy F hb943 (fun wq hS => r_fieldAddr F rfl ff_36_0) ER.sb fun a F => ?_
            refine dy F hb943 (fun wq hS => r_load F rfl ag_3 (AT.cell (AT.sb zh457 hS nq) rfl)) ER.sb fun a F => ?_
            refine dy F hb943 (fun wq hS => r_move F rfl) ER.sb fun a F => ?_
            refine dy F hb943 (fun wq hS => r_neq F rfl rfl) ER.sb fun a F => ?_
            refine dy F hb943 (fun wq hS => r_move F rfl) ER.sb fun a F => ?_
            by_cases hb944 : t440.1.Client = i886
            ·replace H := ip hb944 H
             as_aux_lemma =>
             refine dy F (congrArg not (dt hb944)) (fun wq hS => r_fieldAddr F rfl ff_36_1) ER.sb fun a F => ?_
             refine dy F (congrArg not (dt hb944)) (fun wq hS => r_load F rfl ag_3 (AT.cell (AT.sb zh457 hS nq) rfl)) ER.sb fun a F => ?_
             refine dy F (congrArg not (dt hb944)) (fun wq hS => r_move F rfl) ER.sb fun a F => ?_
             replace H := ifN H
             obtain ⟨g945, H⟩ := H
             obtain ⟨cs947, h948, r949⟩ := AR.at (off := 0) zh46 rfl zh880 i886 g945.1 (by have g_ := g945.2; omega)
             obtain ⟨A951, C952, A954, C955, A957, C958, A960, C961, rfl, h953, h956, h959, h962⟩ := r949
             obtain ⟨qa950, qqa950⟩ : ∃ q, q = (qa44.add (0 + i886.toNat * 14)) := ⟨_, rfl⟩
             have h948 : AT true (m + 4) c913 w917 qa950 [.bool ((rd l881 i886).is), .int .i64 (((rd l881 i886).step).Who), .int .i64 (((rd l881 i886).step).Kind), .int .i64 (((rd l881 i886).step).Client), .int .i64 (((rd l881 i886).step).Seq), .int .i64 ((((rd l881 i886).step).Op).Kind), .slice A951 ((((rd l881 i886).step).Op).Key).length C952, .slice A954 ((((rd l881 i886).step).Op).Value).length C955, .int .i64 ((((rd l881 i886).step).Op).Rev), .bool (((rd l881 i886).answer).Done), .slice A957 (((rd l881 i886).answer).Key).length C958, .slice A960 (((rd l881 i886).answer).Value).length C961, .int .i64 (((rd l881 i886).answer).Rev), .int .i64 (((rd l881 i886).answer).At)] := by rw [qqa950]; exact h948
             have zh948 := h948
             replace h948 := h948.ev ER nq
             refine dy F (congrArg not (dt hb944)) (fun wq hS => r_indexArr0 F ua_53 sz_52 rfl rfl g945.1 (by have g_ := g945.2; omega) qqa950) ER.sb fun a F => ?_
             refine dy F (congrArg not (dt hb944)) (fun wq hS => r_fieldAddr F rfl ff_52_1) ER.sb fun a F => ?_
             refine dy F (congrArg not (dt hb944)) (fun wq hS => r_fieldAddr2 F h948 rfl ff_32_3) ER.sb fun a F => ?_
             as_aux_lemma =>
             refine dy F (congrArg not (dt hb944)) (fun wq hS => r_load F rfl ag_3 (AT.cell (AT.sb zh948 hS nq) rfl)) ER.sb fun a F => ?_
             refine dy F (congrArg not (dt hb944)) (fun wq hS => r_neq F rfl rfl) ER.sb fun a F => ?_
             refine dy F hb943 (fun wq hS => r_pick_f F rfl (congrArg not (dt hb944)) rfl) ER.sb fun a F => ?_
             refine dy F hb943 (fun wq hS => r_move F rfl) ER.sb fun a F => ?_
             by_cases hb964 : t440.1.Seq = (((rd l881 i886).step).Seq)
             ·replace H := ip hb964 H
              refine dy F (congrArg not (dt hb964)) (fun wq hS => r_fieldAddr F rfl ff_36_2) ER.sb fun a F => ?_
              refine dy F (congrArg not (dt hb964)) (fun wq hS => r_loads (cs := [.bool t440.1.Answer.Done, .slice A906 t440.1.Answer.Key.length C907, .slice A909 t440.1.Answer.Value.length C910, .int .i64 t440.1.Answer.Rev, .int .i64 t440.1.Answer.At]) F rfl ag_34 sz_34 (AT.sub (AT.sb zh457 hS nq) 2 5 (nb rfl))) ER.sb fun a F => ?_
              refine dy F (congrArg not (dt hb964)) (fun wq hS => r_move F rfl) ER.sb fun a F => ?_
              replace H := ifN H
              obtain ⟨g965, H⟩ := H
              obtain ⟨cs967, h968, r969⟩ := AR.at (off := 0) zh46 rfl zh880 i886 g965.1 (by have g_ := g965.2; omega)
              obtain ⟨A971, C972, A974, C975, A977, C978, A980, C981, rfl, h973, h976, h979, h982⟩ := r969
              replace h979 := SL.fl (i' := 0) h979 (fun q => q)
              replace h982 := SL.fl (i' := 0) h982 (fun q => q)
              obtain ⟨qa970, qqa970⟩ : ∃ q, q = (qa44.add (0 + i886.toNat * 14)) := ⟨_, rfl⟩
              have h968 : AT true (m + 4) c913 w917 qa970 [.bool ((rd l881 i886).is), .int .i64 (((rd l881 i886).step).Who), .int .i64 (((rd l881 i886).step).Kind), .int .i64 (((rd l881 i886).step).Client), .int .i64 (((rd l881 i886).step).Seq), .int .i64 ((((rd l881 i886).step).Op).Kind), .slice A971 ((((rd l881 i886).step).Op).Key).length C972, .slice A974 ((((rd l881 i886).step).Op).Value).length C975, .int .i64 ((((rd l881 i886).step).Op).Rev), .bool (((rd l881 i886).answer).Done), .slice A977 (((rd l881 i886).answer).Key).length C978, .slice A980 (((rd l881 i886).answer).Value).length C981, .int .i64 (((rd l881 i886).answer).Rev), .int .i64 (((rd l881 i886).answer).At)] := by rw [qqa970]; exact h968
              as_aux_lemma =>
              replace h979 := h979.ev ER nq nq
              replace h982 := h982.ev ER nq nq
              have zh968 := h968
              refine dy F (congrArg not (dt hb964)) (fun wq hS => r_indexArr0 F ua_53 sz_52 rfl rfl g965.1 (by have g_ := g965.2; omega) qqa970) ER.sb fun a F => ?_
              refine dy F (congrArg not (dt hb964)) (fun wq hS => r_fieldAddr F rfl ff_52_2) ER.sb fun a F => ?_
              refine dy F (congrArg not (dt hb964)) (fun wq hS => r_loads (cs := [.bool (((rd l881 i886).answer).Done), .slice A977 (((rd l881 i886).answer).Key).length C978, .slice A980 (((rd l881 i886).answer).Value).length C981, .int .i64 (((rd l881 i886).answer).Rev), .int .i64 (((rd l881 i886).answer).At)]) F rfl ag_34 sz_34 (AT.sub (AT.sb zh968 hS nq) 9 5 (nb rfl))) ER.sb fun a F => ?_
              refine d_e ?_
              obtain ⟨t527, q528, H⟩ := bind_some H
              refine o_call F rfl (wanted_yes F rfl rfl (by decide) rfl (congrArg not (dt hb964))) rfl (by decide) (r_call F Try.func13 rfl (by kernel_rfl) rfl) (haulagelaw14_sameAnswer.calls k (m := m + 11) (pl hm0) B h908 h911 h979 h982 _ q528) ?_
              rintro e w985 ⟨c984, rfl, E986, B987⟩
              refine ⟨_, rfl, fun a F => ?_⟩
              have B := B987
              replace ER := ER.trans E986 nx
              replace h17 := h17.ev E986 nq
              as_aux_lemma =>
              replace h46 := h46.ev E986 nq
              replace h4 := h4.ev E986 nq nq
              replace h8 := h8.ev E986 nq nq
              replace h11 := h11.ev E986 nq nq
              replace h614 := h614.ev E986 nq nq nq
              replace h880 := h880.ev E986 nq
              replace E := E.trans E986 nx
              refine ⟨fun _ => ER.sb, ?_⟩
              refine dy F (congrArg not (dt hb964)) (fun wq hS => r_not F rfl) ER.sb fun a F => ?_
              refine dy F hb943 (fun wq hS => r_pick_f F rfl (congrArg not (dt hb964)) rfl) ER.sb fun a F => ?_
              refine dy F (congrArg not hb942) (fun wq hS => r_pick_t F rfl hb943 rfl) ER.sb fun a F => ?_
              refine dq F (fun wq hS => r_pick_f F rfl (congrArg not hb942) rfl) ER.sb fun a F => ?_
              refine d_nil ?_
              exact J990 c984 w985 a (!t527) (F.sub ⟨rfl, rfl, rfl, rfl, rfl, rfl, rfl, rfl, trivial⟩) E B h17 h46 h4 h8 h11 h614 h880 H
             as_aux_lemma =>
             replace H := im hb964 H
             refine dn F (congrArg not (dz hb964)) ER.sb fun a F => ?_
             refine dn F (congrArg not (dz hb964)) ER.sb fun a F => ?_
             refine dn F (congrArg not (dz hb964)) ER.sb fun a F => ?_
             refine dn F (congrArg not (dz hb964)) ER.sb fun a F => ?_
             refine dn F (congrArg not (dz hb964)) ER.sb fun a F => ?_
             refine dn F (congrArg not (dz hb964)) ER.sb fun a F => ?_
             refine d_e ?_
             refine o_no F rfl rfl rfl (by decide) rfl (congrArg not (dz hb964)) rfl (by decide) fun a F => ?_
             refine ⟨fun _ => ER.sb, ?_⟩
             refine dn F (congrArg not (dz hb964)) ER.sb fun a F => ?_
             refine dy F hb943 (fun wq hS => r_pick_t F rfl (congrArg not (dz hb964)) rfl) ER.sb fun a F => ?_
             refine dy F (congrArg not hb942) (fun wq hS => r_pick_t F rfl hb943 rfl) ER.sb fun a F => ?_
             refine dq F (fun wq hS => r_pick_f F rfl (congrArg not hb942) rfl) ER.sb fun a F => ?_
             as_aux_lemma =>
             refine d_nil ?_
             exact J990 c913 w921 a true (F.sub ⟨rfl, rfl, rfl, rfl, rfl, rfl, rfl, rfl, trivial⟩) E B h17 h46 h4 h8 h11 h614 h880 H
            replace H := im hb944 H
            refine dn F (congrArg not (dz hb944)) ER.sb fun a F => ?_
            refine dn F (congrArg not (dz hb944)) ER.sb fun a F => ?_
            refine dn F (congrArg not (dz hb944)) ER.sb fun a F => ?_
            refine dn F (congrArg not (dz hb944)) ER.sb fun a F => ?_
            refine dn F (congrArg not (dz hb944)) ER.sb fun a F => ?_
            refine dn F (congrArg not (dz hb944)) ER.sb fun a F => ?_
            refine dn F (congrArg not (dz hb944)) ER.sb fun a F => ?_
            refine dn F (congrArg not (dz hb944)) ER.sb fun a F => ?_
            refine dy F hb943 (fun wq hS => r_pick_t F rfl (congrArg not (dz hb944)) rfl) ER.sb fun a F => ?_
            refine dy F hb943 (fun wq hS => r_move F rfl) ER.sb fun a F => ?_
            refine dn F rfl ER.sb fun a F => ?_
            as_aux_lemma =>
            refine dn F rfl ER.sb fun a F => ?_
            refine dn F rfl ER.sb fun a F => ?_
            refine dn F rfl ER.sb fun a F => ?_
            refine dn F rfl ER.sb fun a F => ?_
            refine dn F rfl ER.sb fun a F => ?_
            refine d_e ?_
            refine o_no F rfl rfl rfl (by decide) rfl rfl rfl (by decide) fun a F => ?_
            refine ⟨fun _ => ER.sb, ?_⟩
            refine dn F rfl ER.sb fun a F => ?_
            refine dy F hb943 (fun wq hS => r_pick_t F rfl rfl rfl) ER.sb fun a F => ?_
            refine dy F (congrArg not hb942) (fun wq hS => r_pick_t F rfl hb943 rfl) ER.sb fun a F => ?_
            refine dq F (fun wq hS => r_pick_f F rfl (congrArg not hb942) rfl) ER.sb fun a F => ?_
            refine d_nil ?_
            exact J990 c913 w921 a true (F.sub ⟨rfl, rfl, rfl, rfl, rfl, rfl, rfl, rfl, trivial⟩) E B h17 h46 h4 h8 h11 h614 h880 H
           as_aux_lemma =>
           replace H := im hb943 H
           refine dn F (bfalse hb943) ER.sb fun a F => ?_
           refine dn F (bfalse hb943) ER.sb fun a F => ?_
           refine dn F (bfalse hb943) ER.sb fun a F => ?_
           refine dn F (bfalse hb943) ER.sb fun a F => ?_
           refine dn F (bfalse hb943) ER.sb fun a F => ?_
           refine du F ER.sb fun a F => ?_
           refine du F ER.sb fun a F => ?_
           refine du F ER.sb fun a F => ?_
           refine du F ER.sb fun a F => ?_
           refine du F ER.sb fun a F => ?_
           refine du F ER.sb fun a F => ?_
           refine du F ER.sb fun a F => ?_
           refine du F ER.sb fun a F => ?_
           as_aux_lemma =>
           refine dn F (bfalse hb943) ER.sb fun a F => ?_
           refine dn F (bfalse hb943) ER.sb fun a F => ?_
           refine du F ER.sb fun a F => ?_
           refine du F ER.sb fun a F => ?_
           refine du F ER.sb fun a F => ?_
           refine du F ER.sb fun a F => ?_
           refine du F ER.sb fun a F => ?_
           refine du F ER.sb fun a F => ?_
           refine d_e ?_
           refine o_nu F rfl rfl rfl (by decide) rfl rfl (by decide) fun a F => ?_
           refine ⟨fun _ => ER.sb, ?_⟩
           refine du F ER.sb fun a F => ?_
           refine dn F (bfalse hb943) ER.sb fun a F => ?_
           refine dy F (congrArg not hb942) (fun wq hS => r_pick_f F rfl (bfalse hb943) rfl) ER.sb fun a F => ?_
           as_aux_lemma =>
           refine dq F (fun wq hS => r_pick_f F rfl (congrArg not hb942) rfl) ER.sb fun a F => ?_
           refine d_nil ?_
           exact J990 c913 w921 a false (F.sub ⟨rfl, rfl, rfl, rfl, rfl, rfl, rfl, rfl, trivial⟩) E B h17 h46 h4 h8 h11 h614 h880 H
          replace H := im hb942 H
          refine dn F (congrArg not (bfalse hb942)) ER.sb fun a F => ?_
          refine dn F (congrArg not (bfalse hb942)) ER.sb fun a F => ?_
          refine du F ER.sb fun a F => ?_
          refine du F ER.sb fun a F => ?_
          refine du F ER.sb fun a F => ?_
          refine du F ER.sb fun a F => ?_
          refine du F ER.sb fun a F => ?_
          refine du F ER.sb fun a F => ?_
          refine du F ER.sb fun a F => ?_
          refine du F ER.sb fun a F => ?_
          as_aux_lemma =>
          refine du F ER.sb fun a F => ?_
          refine du F ER.sb fun a F => ?_
          refine du F ER.sb fun a F => ?_
          refine du F ER.sb fun a F => ?_
          refine du F ER.sb fun a F => ?_
          refine du F ER.sb fun a F => ?_
          refine du F ER.sb fun a F => ?_
          refine du F ER.sb fun a F => ?_
          refine du F ER.sb fun a F => ?_
          refine du F ER.sb fun a F => ?_
          refine du F ER.sb fun a F => ?_
          refine du F ER.sb fun a F => ?_
          refine du F ER.sb fun a F => ?_
          refine d_e ?_
          as_aux_lemma =>
          refine o_nu F rfl rfl rfl (by decide) rfl rfl (by decide) fun a F => ?_
          refine ⟨fun _ => ER.sb, ?_⟩
          refine du F ER.sb fun a F => ?_
          refine du F ER.sb fun a F => ?_
          refine dn F (congrArg not (bfalse hb942)) ER.sb fun a F => ?_
          refine dq F (fun wq hS => r_pick_t F rfl (congrArg not (bfalse hb942)) rfl) ER.sb fun a F => ?_
          refine d_nil ?_
          exact J990 c913 w921 a true (F.sub ⟨rfl, rfl, rfl, rfl, rfl, rfl, rfl, rfl, trivial⟩) E B h17 h46 h4 h8 h11 h614 h880 H
         replace H := im hb899 H
         refine wp_cond_false (fb F (dz hb899)) ?_
         refine wp_exit ?_
         refine thenE ?_
         refine thenE ?_
         refine inbE ?_
         have hx_ := HD891 _ (si H).symm
         have H := HR895
         rw [← hx_] at H
         exact J996 c887 w888 a  (F.sub ⟨rfl, rfl, rfl, rfl, rfl, rfl, trivial⟩) E B h17 h46 h4 h8 h11 h614 h880 H
        as_aux_lemma =>
        refine wp_seq_k fun K794 hK794 => reg ?_
        refine qm F fun a F => ?_
        refine nil (hK794 _ _ ?_)
        by_cases hb795 : t114.2.1 = true
        ·replace H := ip hb795 H
         refine wp_cond_true (fb F hb795) ?_
         refine wp_seq_k fun K796 hK796 => reg ?_
         refine qm F fun a F => ?_
         refine qv F (r_add F rfl rfl) fun a F => ?_
         refine qa F fun a F => ?_
         refine nil (hK796 _ _ ?_)
         refine wp_seq_k fun K797 hK797 => ?_
         refine wp_seq_k fun K798 hK798 => ?_
         have J850 : ∀ (c851 : Nat → Nat) (w852 : World) (a : Act) (b849 : Bool), Fr a 353 [(0, .slice A2 a1.length C3), (3, .pointer (some qa15)), (5, .pointer p38), (6, .pointer (some qa44)), (7, .int .i64 (IntKind.i64.wrap (i547 + 1))), (8, .int .i64 i548), (9, .pointer (some qa86)), (12, .pointer (some qa130)), (209, .bool b849)] → Ev (fun x => False ∨ m ≤ x) c0 w0 c851 w852 → CB (m + 11) c851 w852 → AT true (m + 1) c851 w852 qa15 [.int .i64 a5.Kind, .slice A6 a5.Key.length C7, .slice A9 a5.Value.length C10, .int .i64 a5.Rev] → AT true (m + 4) c851 w852 qa44 (([] : List Value) ++ (cs549 ++ (([] : List Value)))) → AT true (m + 5) c851 w852 qa86 [.int .i64 ((rd a1 i548).Who), .int .i64 ((rd a1 i548).Kind), .int .i64 ((rd a1 i548).Client), .int .i64 ((rd a1 i548).Seq), .int .i64 (((rd a1 i548).Op).Kind), .slice A573 (((rd a1 i548).Op).Key).length C574, .slice A576 (((rd a1 i548).Op).Value).length C577, .int .i64 (((rd a1 i548).Op).Rev)] → AT true (m + 6) c851 w852 qa130 [.bool t114.1.Done, .slice A608 t114.1.Key.length C609, .slice A611 t114.1.Value.length C612, .int .i64 t114.1.Rev, .int .i64 t114.1.At] → SL false K_haulagelaw14_Step 0 0 c851 w852 A2 C3 a1 → SL false (Kint .u8) 0 0 c851 w852 A6 C7 a5.Key → SL false (Kint .u8) 0 0 c851 w852 A9 C10 a5.Value → SH (m + 2) (m + 3) c851 w852 p38 t114.2.2.2 → AR K_haulagelaw14_again 0 c851 w852 cs549 16 l551 → SL false (Kint .u8) 0 0 c851 w852 A573 C574 (((rd a1 i548).Op).Key) → SL false (Kint .u8) 0 0 c851 w852 A576 C577 (((rd a1 i548).Op).Value) → SL false (Kint .u8) 0 0 c851 w852 A608 C609 t114.1.Key → SL false (Kint .u8) 0 0 c851 w852 A611 C612 t114.1.Value → haulagelaw14_ShardOnce.j20 k a1 t114 i547 i548 l551 b849 = some ctl557 → K798 a w852 := by
          intro c851 w852 a b849 F E B h17 h46 h88 h132 h4 h8 h11 h614 h550 h575 h578 h610 h613 H
          unfold haulagelaw14_ShardOnce.j20 at H
          as_aux_lemma =>
          refine hK798 _ _ ?_
          by_cases hb853 : b849 = true
          ·replace H := ip hb853 H
           refine wp_cond_true (fb F hb853) ?_
           refine wp_seq_k fun K854 hK854 => reg ?_
           refine qa F fun a F => ?_
           refine nil (hK854 _ _ ?_)
           replace F : Fr a 353 [(4, .bool false)] := F.sub ⟨rfl, trivial⟩
           refine wp_ret ?_
           refine thenR ?_
           refine thenR ?_
           refine inbR ?_
           refine thenR ?_
           refine thenR ?_
           refine inbR ?_
           as_aux_lemma =>
           refine thenR ?_
           have hx_ := HD556 _ (si H).symm
           have H := HR560
           rw [← hx_] at H
           replace H : some false = some r := H
           replace H := si H
           subst H
           refine out1 F rfl rfl ?_
           exact ⟨cf (fun x_ => if x_ < m then x_ else 0) c851, rfl, E.lv B0, cfb⟩
          replace H := im hb853 H
          refine wp_cond_false (fb F (bfalse hb853)) (wp_skip (hK797 _ _ ?_))
          refine reg ?_
          refine qf F ff_32_2 fun a F => ?_
          refine qv F (r_load F rfl ag_3 (AT.cell h88 rfl)) fun a F => ?_
          as_aux_lemma =>
          refine qv F (r_loads (cs := [.int .i64 ((rd a1 i548).Who), .int .i64 ((rd a1 i548).Kind), .int .i64 ((rd a1 i548).Client), .int .i64 ((rd a1 i548).Seq), .int .i64 (((rd a1 i548).Op).Kind), .slice A573 (((rd a1 i548).Op).Key).length C574, .slice A576 (((rd a1 i548).Op).Value).length C577, .int .i64 (((rd a1 i548).Op).Rev)]) F rfl ag_32 sz_32 h88) fun a F => ?_
          refine qv F (r_loads (cs := [.bool t114.1.Done, .slice A608 t114.1.Key.length C609, .slice A611 t114.1.Value.length C612, .int .i64 t114.1.Rev, .int .i64 t114.1.At]) F rfl ag_34 sz_34 h132) fun a F => ?_
          refine qv F (r_build (v := .agg #[.bool true, .int .i64 ((rd a1 i548).Who), .int .i64 ((rd a1 i548).Kind), .int .i64 ((rd a1 i548).Client), .int .i64 ((rd a1 i548).Seq), .int .i64 (((rd a1 i548).Op).Kind), .slice A573 (((rd a1 i548).Op).Key).length C574, .slice A576 (((rd a1 i548).Op).Value).length C577, .int .i64 (((rd a1 i548).Op).Rev), .bool t114.1.Done, .slice A608 t114.1.Key.length C609, .slice A611 t114.1.Value.length C612, .int .i64 t114.1.Rev, .int .i64 t114.1.At]) F [(0, .bool true), (1, .agg #[.int .i64 ((rd a1 i548).Who), .int .i64 ((rd a1 i548).Kind), .int .i64 ((rd a1 i548).Client), .int .i64 ((rd a1 i548).Seq), .int .i64 (((rd a1 i548).Op).Kind), .slice A573 (((rd a1 i548).Op).Key).length C574, .slice A576 (((rd a1 i548).Op).Value).length C577, .int .i64 (((rd a1 i548).Op).Rev)]), (2, .agg #[.bool t114.1.Done, .slice A608 t114.1.Key.length C609, .slice A611 t114.1.Value.length C612, .int .i64 t114.1.Rev, .int .i64 t114.1.At])] (by exact ⟨rfl, rfl, rfl, rfl, rfl, rfl, trivial⟩) (bd_52_b_0_i64i64i64i64i64ssi64_1_bssi64i64_2 _ _ _ _ _ _ _ _ _ _ _ _ _ _ _ _ _ _ _ _ _ _)) fun a F => ?_
          replace H := ifN H
          obtain ⟨g855, H⟩ := H
          obtain ⟨cs857, h858, r859⟩ := AR.at (off := 0) h46 rfl h550 ((rd a1 i548).Client) g855.1 (by have g_ := g855.2; omega)
          obtain ⟨A861, C862, A864, C865, A867, C868, A870, C871, rfl, h863, h866, h869, h872⟩ := r859
          obtain ⟨qa860, qqa860⟩ : ∃ q, q = (qa44.add (0 + ((rd a1 i548).Client).toNat * 14)) := ⟨_, rfl⟩
          have h858 : AT true (m + 4) c851 w852 qa860 [.bool ((rd l551 ((rd a1 i548).Client)).is), .int .i64 (((rd l551 ((rd a1 i548).Client)).step).Who), .int .i64 (((rd l551 ((rd a1 i548).Client)).step).Kind), .int .i64 (((rd l551 ((rd a1 i548).Client)).step).Client), .int .i64 (((rd l551 ((rd a1 i548).Client)).step).Seq), .int .i64 ((((rd l551 ((rd a1 i548).Client)).step).Op).Kind), .slice A861 ((((rd l551 ((rd a1 i548).Client)).step).Op).Key).length C862, .slice A864 ((((rd l551 ((rd a1 i548).Client)).step).Op).Value).length C865, .int .i64 ((((rd l551 ((rd a1 i548).Client)).step).Op).Rev), .bool (((rd l551 ((rd a1 i548).Client)).answer).Done), .slice A867 (((rd l551 ((rd a1 i548).Client)).answer).Key).length C868, .slice A870 (((rd l551 ((rd a1 i548).Client)).answer).Value).length C871, .int .i64 (((rd l551 ((rd a1 i548).Client)).answer).Rev), .int .i64 (((rd l551 ((rd a1 i548).Client)).answer).At)] := by rw [qqa860]; exact h858
          refine qv F (r_indexArr0 F ua_53 sz_52 rfl rfl g855.1 (by have g_ := g855.2; omega) qqa860) fun a F => ?_
          refine q_eff0 F rfl rfl (e_storearN (us := [.bool true, .int .i64 ((rd a1 i548).Who), .int .i64 ((rd a1 i548).Kind), .int .i64 ((rd a1 i548).Client), .int .i64 ((rd a1 i548).Seq), .int .i64 (((rd a1 i548).Op).Kind), .slice A573 (((rd a1 i548).Op).Key).length C574, .slice A576 (((rd a1 i548).Op).Value).length C577, .int .i64 (((rd a1 i548).Op).Rev), .bool t114.1.Done, .slice A608 t114.1.Key.length C609, .slice A611 t114.1.Value.length C612, .int .i64 t114.1.Rev, .int .i64 t114.1.At]) F rfl rfl sz_52 h46 rfl h550 (m := ((rd a1 i548).Client).toNat) (by have g_ := g855; omega) qqa860 h858 rfl (nb rfl) (one_all rfl) (haulagelaw14_again.mk true (haulagelaw14_Step.mk ((rd a1 i548).Who) ((rd a1 i548).Kind) ((rd a1 i548).Client) ((rd a1 i548).Seq) ((rd a1 i548).Op)) t114.1) ⟨A573, C574, A576, C577, A608, C609, A611, C612, rfl, (SL.fl h575 (fun q => q)), (SL.fl h578 (fun q => q)), (SL.fl h610 (fun q => q)), (SL.fl h613 (fun q => q))⟩ ne_zm) ?_
          rintro w874 a ⟨cs877, E875, h46, h550, Z876⟩ F
          replace B := B.size Z876
          replace h17 := h17.ev E875 mm
          as_aux_lemma =>
          replace h4 := h4.ev E875 ne_zm ne_zm
          replace h8 := h8.ev E875 ne_zm ne_zm
          replace h11 := h11.ev E875 ne_zm ne_zm
          replace h614 := h614.ev E875 mm mm ne_zm
          replace E := E.trans E875 lc1
          replace h46 : AT true (m + 4) c851 w874 qa44 (([] : List Value) ++ (cs877 ++ (([] : List Value)))) := h46
          refine nil ?_
          exact J882 c851 w874 a (IntKind.i64.wrap (i547 + 1)) (l551.set ((rd a1 i548).Client).toNat (haulagelaw14_again.mk true (haulagelaw14_Step.mk ((rd a1 i548).Who) ((rd a1 i548).Kind) ((rd a1 i548).Client) ((rd a1 i548).Seq) ((rd a1 i548).Op)) t114.1)) cs877 (F.sub ⟨rfl, rfl, rfl, rfl, rfl, rfl, trivial⟩) E B h17 h46 h4 h8 h11 h614 h550 H
         refine regD (SB No c789 w790) 37 (.q 0 (.q 1 (.q 2 (.q 3 (.q 4 (.q 5 (.q 6 (.q 7 (.q 8 (.q 9 (.q 11 (.e 10 (.q 12 (.q 13 (.q 14 (.q 15 (.q 16 (.q 17 (.q 18 (.q 19 (.q 20 (.q 21 (.q 22 (.q 23 (.q 24 (.q 25 (.q 26 (.q 27 (.q 28 (.q 29 (.q 30 (.q 31 (.q 32 (.q 33 (.q 34 (.q 35 (.q 36 .nil))))))))))))))))))))))))))))))))))))) Try_hm (by decide +kernel) ?_
         intro w799 w1_ w2_ w3_ w4_
         have E800 : Ev No c789 w790 c789 w799 := Ev.same w1_ w2_ w3_ w4_
         replace B := B.same w1_
         have zh46 := h46
         have zh88 := h88
         have zh132 := h132
         have zh550 := h550
         have ER : Ev No c789 w790 c789 w799 := Ev.same w1_ w2_ w3_ w4_
         as_aux_lemma =>
         replace h17 := h17.ev E800 nq
         replace h46 := h46.ev E800 nq
         replace h88 := h88.ev E800 nq
         replace h132 := h132.ev E800 nq
         replace h4 := h4.ev E800 nq nq
         replace h8 := h8.ev E800 nq nq
         replace h11 := h11.ev E800 nq nq
         replace h614 := h614.ev E800 nq nq nq
         replace h550 := h550.ev E800 nq
         replace h575 := h575.ev E800 nq nq
         replace h578 := h578.ev E800 nq nq
         replace h610 := h610.ev E800 nq nq
         replace h613 := h613.ev E800 nq nq
         replace E := E.trans E800 nx
         as_aux_lemma =>
         refine dm F ER.sb fun a F => ?_
         refine dq F (fun wq hS => r_not F rfl) ER.sb fun a F => ?_
         refine dm F ER.sb fun a F => ?_
         by_cases hb801 : b625 = true
         ·replace H := ip hb801 H
          refine dy F (congrArg not hb801) (fun wq hS => r_fieldAddr F rfl ff_34_4) ER.sb fun a F => ?_
          refine dy F (congrArg not hb801) (fun wq hS => r_load F rfl ag_3 (AT.cell (AT.sb zh132 hS nq) rfl)) ER.sb fun a F => ?_
          refine dy F (congrArg not hb801) (fun wq hS => r_move F rfl) ER.sb fun a F => ?_
          refine dy F (congrArg not hb801) (fun wq hS => r_neq F rfl rfl) ER.sb fun a F => ?_
          refine dq F (fun wq hS => r_pick_f F rfl (congrArg not hb801) rfl) ER.sb fun a F => ?_
          refine dm F ER.sb fun a F => ?_
          by_cases hb802 : t114.1.At = (IntKind.i64.wrap (i547 + 1))
          ·replace H := ip hb802 H
           refine dy F (congrArg not (dt hb802)) (fun wq hS => r_move F rfl) ER.sb fun a F => ?_
           refine dy F (congrArg not (dt hb802)) (fun wq hS => r_move F rfl) ER.sb fun a F => ?_
           refine d_e ?_
           obtain ⟨t339, q340, H⟩ := bind_some H
           as_aux_lemma =>
           refine o_call F rfl (wanted_yes F rfl rfl (by decide) rfl (congrArg not (dt hb802))) rfl (by decide) (r_call F Try.func17 rfl (by kernel_rfl) rfl) (shard_Shard_Rev.calls (m := m + 11) (pl hm0) B h614 lm ⟨lm, mm⟩ _ q340) ?_
           rintro e w804 ⟨c803, rfl, E805, B806⟩
           refine ⟨_, rfl, fun a F => ?_⟩
           have B := B806
           replace ER := ER.trans E805 nx
           replace h17 := h17.ev E805 nq
           replace h46 := h46.ev E805 nq
           replace h88 := h88.ev E805 nq
           replace h132 := h132.ev E805 nq
           replace h4 := h4.ev E805 nq nq
           replace h8 := h8.ev E805 nq nq
           replace h11 := h11.ev E805 nq nq
           replace h614 := h614.ev E805 nq nq nq
           replace h550 := h550.ev E805 nq
           as_aux_lemma =>
           replace h575 := h575.ev E805 nq nq
           replace h578 := h578.ev E805 nq nq
           replace h610 := h610.ev E805 nq nq
           replace h613 := h613.ev E805 nq nq
           replace E := E.trans E805 nx
           refine ⟨fun _ => ER.sb, ?_⟩
           refine dy F (congrArg not (dt hb802)) (fun wq hS => r_neq F rfl rfl) ER.sb fun a F => ?_
           refine dq F (fun wq hS => r_pick_f F rfl (congrArg not (dt hb802)) rfl) ER.sb fun a F => ?_
           refine dm F ER.sb fun a F => ?_
           by_cases hb808 : t339 = (IntKind.i64.wrap (i547 + 1))
           ·replace H := ip hb808 H
            refine dy F (congrArg not (dt hb808)) (fun wq hS => r_fieldAddr F rfl ff_32_3) ER.sb fun a F => ?_
            refine dy F (congrArg not (dt hb808)) (fun wq hS => r_load F rfl ag_3 (AT.cell (AT.sb zh88 hS nq) rfl)) ER.sb fun a F => ?_
            refine dy F (congrArg not (dt hb808)) (fun wq hS => r_lss F rfl rfl) ER.sb fun a F => ?_
            refine dq F (fun wq hS => r_pick_f F rfl (congrArg not (dt hb808)) rfl) ER.sb fun a F => ?_
            as_aux_lemma =>
            refine dm F ER.sb fun a F => ?_
            by_cases hb809 : ((rd a1 i548).Seq) < 1
            ·replace H := ip hb809 H
             refine dn F (dt hb809) ER.sb fun a F => ?_
             refine dn F (dt hb809) ER.sb fun a F => ?_
             refine dn F (dt hb809) ER.sb fun a F => ?_
             refine dn F (dt hb809) ER.sb fun a F => ?_
             refine dn F (dt hb809) ER.sb fun a F => ?_
             refine dn F (dt hb809) ER.sb fun a F => ?_
             refine du F ER.sb fun a F => ?_
             refine du F ER.sb fun a F => ?_
             refine du F ER.sb fun a F => ?_
             refine du F ER.sb fun a F => ?_
             refine du F ER.sb fun a F => ?_
             refine du F ER.sb fun a F => ?_
             as_aux_lemma =>
             refine du F ER.sb fun a F => ?_
             refine du F ER.sb fun a F => ?_
             refine du F ER.sb fun a F => ?_
             refine dn F (dt hb809) ER.sb fun a F => ?_
             refine dq F (fun wq hS => r_pick_t F rfl (dt hb809) rfl) ER.sb fun a F => ?_
             refine d_nil ?_
             exact J850 c803 w804 a true (F.sub ⟨rfl, rfl, rfl, rfl, rfl, rfl, rfl, rfl, rfl, trivial⟩) E B h17 h46 h88 h132 h4 h8 h11 h614 h550 h575 h578 h610 h613 H
            replace H := im hb809 H
            refine dy F (dz hb809) (fun wq hS => r_fieldAddr F rfl ff_32_2) ER.sb fun a F => ?_
            refine dy F (dz hb809) (fun wq hS => r_load F rfl ag_3 (AT.cell (AT.sb zh88 hS nq) rfl)) ER.sb fun a F => ?_
            replace H := ifN H
            obtain ⟨g810, H⟩ := H
            obtain ⟨cs812, h813, r814⟩ := AR.at (off := 0) zh46 rfl zh550 ((rd a1 i548).Client) g810.1 (by have g_ := g810.2; omega)
            obtain ⟨A816, C817, A819, C820, A822, C823, A825, C826, rfl, h818, h821, h824, h827⟩ := r814
            obtain ⟨qa815, qqa815⟩ : ∃ q, q = (qa44.add (0 + ((rd a1 i548).Client).toNat * 14)) := ⟨_, rfl⟩
            have h813 : AT true (m + 4) c789 w790 qa815 [.bool ((rd l551 ((rd a1 i548).Client)).is), .int .i64 (((rd l551 ((rd a1 i548).Client)).step).Who), .int .i64 (((rd l551 ((rd a1 i548).Client)).step).Kind), .int .i64 (((rd l551 ((rd a1 i548).Client)).step).Client), .int .i64 (((rd l551 ((rd a1 i548).Client)).step).Seq), .int .i64 ((((rd l551 ((rd a1 i548).Client)).step).Op).Kind), .slice A816 ((((rd l551 ((rd a1 i548).Client)).step).Op).Key).length C817, .slice A819 ((((rd l551 ((rd a1 i548).Client)).step).Op).Value).length C820, .int .i64 ((((rd l551 ((rd a1 i548).Client)).step).Op).Rev), .bool (((rd l551 ((rd a1 i548).Client)).answer).Done), .slice A822 (((rd l551 ((rd a1 i548).Client)).answer).Key).length C823, .slice A825 (((rd l551 ((rd a1 i548).Client)).answer).Value).length C826, .int .i64 (((rd l551 ((rd a1 i548).Client)).answer).Rev), .int .i64 (((rd l551 ((rd a1 i548).Client)).answer).At)] := by rw [qqa815]; exact h813
            have zh813 := h813
            as_aux_lemma =>
            refine dy F (dz hb809) (fun wq hS => r_indexArr0 F ua_53 sz_52 rfl rfl g810.1 (by have g_ := g810.2; omega) qqa815) ER.sb fun a F => ?_
            refine dy F (dz hb809) (fun wq hS => r_fieldAddr F rfl ff_52_0) ER.sb fun a F => ?_
            refine dy F (dz hb809) (fun wq hS => r_load F rfl ag_4 (AT.cell (AT.sb zh813 hS nq) rfl)) ER.sb fun a F => ?_
            refine dy F (dz hb809) (fun wq hS => r_move F rfl) ER.sb fun a F => ?_
            by_cases hb829 : ((rd l551 ((rd a1 i548).Client)).is) = true
            ·replace H := ip hb829 H
             refine dy F hb829 (fun wq hS => r_fieldAddr F rfl ff_32_3) ER.sb fun a F => ?_
             refine dy F hb829 (fun wq hS => r_load F rfl ag_3 (AT.cell (AT.sb zh88 hS nq) rfl)) ER.sb fun a F => ?_
             refine dy F hb829 (fun wq hS => r_fieldAddr F rfl ff_32_2) ER.sb fun a F => ?_
             refine dy F hb829 (fun wq hS => r_load F rfl ag_3 (AT.cell (AT.sb zh88 hS nq) rfl)) ER.sb fun a F => ?_
             replace H := ifN H
             obtain ⟨g830, H⟩ := H
             obtain ⟨cs832, h833, r834⟩ := AR.at (off := 0) zh46 rfl zh550 ((rd a1 i548).Client) g830.1 (by have g_ := g830.2; omega)
             obtain ⟨A836, C837, A839, C840, A842, C843, A845, C846, rfl, h838, h841, h844, h847⟩ := r834
             obtain ⟨qa835, qqa835⟩ : ∃ q, q = (qa44.add (0 + ((rd a1 i548).Client).toNat * 14)) := ⟨_, rfl⟩
             have h833 : AT true (m + 4) c789 w790 qa835 [.bool ((rd l551 ((rd a1 i548).Client)).is), .int .i64 (((rd l551 ((rd a1 i548).Client)).step).Who), .int .i64 (((rd l551 ((rd a1 i548).Client)).step).Kind), .int .i64 (((rd l551 ((rd a1 i548).Client)).step).Client), .int .i64 (((rd l551 ((rd a1 i548).Client)).step).Seq), .int .i64 ((((rd l551 ((rd a1 i548).Client)).step).Op).Kind), .slice A836 ((((rd l551 ((rd a1 i548).Client)).step).Op).Key).length C837, .slice A839 ((((rd l551 ((rd a1 i548).Client)).step).Op).Value).length C840, .int .i64 ((((rd l551 ((rd a1 i548).Client)).step).Op).Rev), .bool (((rd l551 ((rd a1 i548).Client)).answer).Done), .slice A842 (((rd l551 ((rd a1 i548).Client)).answer).Key).length C843, .slice A845 (((rd l551 ((rd a1 i548).Client)).answer).Value).length C846, .int .i64 (((rd l551 ((rd a1 i548).Client)).answer).Rev), .int .i64 (((rd l551 ((rd a1 i548).Client)).answer).At)] := by rw [qqa835]; exact h833
             have zh833 := h833
             as_aux_lemma =>
             replace h833 := h833.ev ER nq
             refine dy F hb829 (fun wq hS => r_indexArr0 F ua_53 sz_52 rfl rfl g830.1 (by have g_ := g830.2; omega) qqa835) ER.sb fun a F => ?_
             refine dy F hb829 (fun wq hS => r_fieldAddr F rfl ff_52_1) ER.sb fun a F => ?_
             refine dy F hb829 (fun wq hS => r_fieldAddr2 F h833 rfl ff_32_3) ER.sb fun a F => ?_
             refine dy F hb829 (fun wq hS => r_load F rfl ag_3 (AT.cell (AT.sb zh833 hS nq) rfl)) ER.sb fun a F => ?_
             refine dy F hb829 (fun wq hS => r_leq F rfl rfl) ER.sb fun a F => ?_
             refine dy F (dz hb809) (fun wq hS => r_pick_t F rfl hb829 rfl) ER.sb fun a F => ?_
             refine dq F (fun wq hS => r_pick_f F rfl (dz hb809) rfl) ER.sb fun a F => ?_
             refine d_nil ?_
             exact J850 c803 w804 a (decide (((rd a1 i548).Seq) ≤ (((rd l551 ((rd a1 i548).Client)).step).Seq))) (F.sub ⟨rfl, rfl, rfl, rfl, rfl, rfl, rfl, rfl, rfl, trivial⟩) E B h17 h46 h88 h132 h4 h8 h11 h614 h550 h575 h578 h610 h613 H
            replace H := im hb829 H
            refine dn F (bfalse hb829) ER.sb fun a F => ?_
            refine dn F (bfalse hb829) ER.sb fun a F => ?_
            refine dn F (bfalse hb829) ER.sb fun a F => ?_
            as_aux_lemma =>
            refine dn F (bfalse hb829) ER.sb fun a F => ?_
            refine dn F (bfalse hb829) ER.sb fun a F => ?_
            refine dn F (bfalse hb829) ER.sb fun a F => ?_
            refine dn F (bfalse hb829) ER.sb fun a F => ?_
            refine dn F (bfalse hb829) ER.sb fun a F => ?_
            refine dn F (bfalse hb829) ER.sb fun a F => ?_
            refine dy F (dz hb809) (fun wq hS => r_pick_f F rfl (bfalse hb829) rfl) ER.sb fun a F => ?_
            refine dq F (fun wq hS => r_pick_f F rfl (dz hb809) rfl) ER.sb fun a F => ?_
            refine d_nil ?_
            exact J850 c803 w804 a false (F.sub ⟨rfl, rfl, rfl, rfl, rfl, rfl, rfl, rfl, rfl, trivial⟩) E B h17 h46 h88 h132 h4 h8 h11 h614 h550 h575 h578 h610 h613 H
           replace H := im hb808 H
           refine dn F (congrArg not (dz hb808)) ER.sb fun a F => ?_
           refine dn F (congrArg not (dz hb808)) ER.sb fun a F => ?_
           refine dn F (congrArg not (dz hb808)) ER.sb fun a F => ?_
           as_aux_lemma =>
           refine dq F (fun wq hS => r_pick_t F rfl (congrArg not (dz hb808)) rfl) ER.sb fun a F => ?_
           refine dm F ER.sb fun a F => ?_
           refine dn F rfl ER.sb fun a F => ?_
           refine dn F rfl ER.sb fun a F => ?_
           refine dn F rfl ER.sb fun a F => ?_
           refine dn F rfl ER.sb fun a F => ?_
           refine dn F rfl ER.sb fun a F => ?_
           refine dn F rfl ER.sb fun a F => ?_
           refine du F ER.sb fun a F => ?_
           refine du F ER.sb fun a F => ?_
           refine du F ER.sb fun a F => ?_
           refine du F ER.sb fun a F => ?_
           refine du F ER.sb fun a F => ?_
           refine du F ER.sb fun a F => ?_
           as_aux_lemma =>
           refine du F ER.sb fun a F => ?_
           refine du F ER.sb fun a F => ?_
           refine du F ER.sb fun a F => ?_
           refine dn F rfl ER.sb fun a F => ?_
           refine dq F (fun wq hS => r_pick_t F rfl rfl rfl) ER.sb fun a F => ?_
           refine d_nil ?_
           exact J850 c803 w804 a true (F.sub ⟨rfl, rfl, rfl, rfl, rfl, rfl, rfl, rfl, rfl, trivial⟩) E B h17 h46 h88 h132 h4 h8 h11 h614 h550 h575 h578 h610 h613 H
          replace H := im hb802 H
          refine dn F (congrArg not (dz hb802)) ER.sb fun a F => ?_
          refine dn F (congrArg not (dz hb802)) ER.sb fun a F => ?_
          refine d_e ?_
          refine o_no F rfl rfl rfl (by decide) rfl (congrArg not (dz hb802)) rfl (by decide) fun a F => ?_
          refine ⟨fun _ => ER.sb, ?_⟩
          refine dn F (congrArg not (dz hb802)) ER.sb fun a F => ?_
          as_aux_lemma =>
          refine dq F (fun wq hS => r_pick_t F rfl (congrArg not (dz hb802)) rfl) ER.sb fun a F => ?_
          refine dm F ER.sb fun a F => ?_
          refine dn F rfl ER.sb fun a F => ?_
          refine dn F rfl ER.sb fun a F => ?_
          refine dn F rfl ER.sb fun a F => ?_
          refine dq F (fun wq hS => r_pick_t F rfl rfl rfl) ER.sb fun a F => ?_
          refine dm F ER.sb fun a F => ?_
          refine dn F rfl ER.sb fun a F => ?_
          refine dn F rfl ER.sb fun a F => ?_
          refine dn F rfl ER.sb fun a F => ?_
          refine dn F rfl ER.sb fun a F => ?_
          refine dn F rfl ER.sb fun a F => ?_
          refine dn F rfl ER.sb fun a F => ?_
          refine du F ER.sb fun a F => ?_
          as_aux_lemma =>
          refine du F ER.sb fun a F => ?_
          refine du F ER.sb fun a F => ?_
          refine du F ER.sb fun a F => ?_
          refine du F ER.sb fun a F => ?_
          refine du F ER.sb fun a F => ?_
          refine du F ER.sb fun a F => ?_
          refine du F ER.sb fun a F => ?_
          refine du F ER.sb fun a F => ?_
          refine dn F rfl ER.sb fun a F => ?_
          refine dq F (fun wq hS => r_pick_t F rfl rfl rfl) ER.sb fun a F => ?_
          refine d_nil ?_
          exact J850 c789 w799 a true (F.sub ⟨rfl, rfl, rfl, rfl, rfl, rfl, rfl, rfl, rfl, trivial⟩) E B h17 h46 h88 h132 h4 h8 h11 h614 h550 h575 h578 h610 h613 H
         replace H := im hb801 H
         refine dn F (congrArg not (bfalse hb801)) ER.sb fun a F => ?_
         as_aux_lemma =>
         refine dn F (congrArg not (bfalse hb801)) ER.sb fun a F => ?_
         refine dn F (congrArg not (bfalse hb801)) ER.sb fun a F => ?_
         refine dn F (congrArg not (bfalse hb801)) ER.sb fun a F => ?_
         refine dq F (fun wq hS => r_pick_t F rfl (congrArg not (bfalse hb801)) rfl) ER.sb fun a F => ?_
         refine dm F ER.sb fun a F => ?_
         refine dn F rfl ER.sb fun a F => ?_
         refine dn F rfl ER.sb fun a F => ?_
         refine d_e ?_
         refine o_no F rfl rfl rfl (by decide) rfl rfl rfl (by decide) fun a F => ?_
         refine ⟨fun _ => ER.sb, ?_⟩
         refine dn F rfl ER.sb fun a F => ?_
         refine dq F (fun wq hS => r_pick_t F rfl rfl rfl) ER.sb fun a F => ?_
         refine dm F ER.sb fun a F => ?_
         refine dn F rfl ER.sb fun a F => ?_
         as_aux_lemma =>
         refine dn F rfl ER.sb fun a F => ?_
         refine dn F rfl ER.sb fun a F => ?_
         refine dq F (fun wq hS => r_pick_t F rfl rfl rfl) ER.sb fun a F => ?_
         refine dm F ER.sb fun a F => ?_
         refine dn F rfl ER.sb fun a F => ?_
         refine dn F rfl ER.sb fun a F => ?_
         refine dn F rfl ER.sb fun a F => ?_
         refine dn F rfl ER.sb fun a F => ?_
         refine dn F rfl ER.sb fun a F => ?_
         refine dn F rfl ER.sb fun a F => ?_
         refine du F ER.sb fun a F => ?_
         refine du F ER.sb fun a F => ?_
         refine du F ER.sb fun a F => ?_
         refine du F ER.sb fun a F => ?_
         as_aux_lemma =>
         refine du F ER.sb fun a F => ?_
         refine du F ER.sb fun a F => ?_
         refine du F ER.sb fun a F => ?_
         refine du F ER.sb fun a F => ?_
         refine du F ER.sb fun a F => ?_
         refine dn F rfl ER.sb fun a F => ?_
         refine dq F (fun wq hS => r_pick_t F rfl rfl rfl) ER.sb fun a F => ?_
         refine d_nil ?_
         exact J850 c789 w799 a true (F.sub ⟨rfl, rfl, rfl, rfl, rfl, rfl, rfl, rfl, rfl, trivial⟩) E B h17 h46 h88 h132 h4 h8 h11 h614 h550 h575 h578 h610 h613 H
        replace H := im hb795 H
        refine wp_cond_false (fb F (bfalse hb795)) ?_
        refine wp_skip ?_
        exact J882 c789 w790 a i547 l551 cs549 (F.sub ⟨rfl, rfl, rfl, rfl, rfl, rfl, trivial⟩) E B h17 h46 h4 h8 h11 h614 h550 H
       refine reg ?_
       as_aux_lemma =>
       refine qm F fun a F => ?_
       obtain ⟨t314, q315, H⟩ := bind_some H
       refine qc F Try.func11 (haulagelaw14_num.calls (m := m + 11) (pl hm0) B _ q315) ?_
       rintro e w781 ⟨c780, rfl, E782, B783⟩
       refine ⟨_, rfl, fun a F => ?_⟩
       have B := B783
       replace h17 := h17.ev E782 nq
       replace h46 := h46.ev E782 nq
       replace h88 := h88.ev E782 nq
       replace h132 := h132.ev E782 nq
       replace h4 := h4.ev E782 nq nq
       replace h8 := h8.ev E782 nq nq
       replace h11 := h11.ev E782 nq nq
       replace h614 := h614.ev E782 nq nq nq
       as_aux_lemma =>
       replace h550 := h550.ev E782 nq
       replace h575 := h575.ev E782 nq nq
       replace h578 := h578.ev E782 nq nq
       replace h610 := h610.ev E782 nq nq
       replace h613 := h613.ev E782 nq nq
       replace E := E.trans E782 nx
       refine qv F (r_eql F rfl rfl) fun a F => ?_
       refine qm F fun a F => ?_
       by_cases hb785 : t314 = 0
       ·replace H := ip hb785 H
        refine qy F (dt hb785) ?_
        refine qm F fun a F => ?_
        refine qy F (dt hb785) ?_
        refine qv F (r_not F rfl) fun a F => ?_
        refine qv F (r_pick_t F rfl (dt hb785) rfl) fun a F => ?_
        as_aux_lemma =>
        refine qm F fun a F => ?_
        by_cases hb786 : t114.2.1 = true
        ·replace H := ip hb786 H
         refine qn F (congrArg not hb786) fun a F => ?_
         refine qn F (congrArg not hb786) fun a F => ?_
         refine qn F (congrArg not hb786) fun a F => ?_
         refine qn F (congrArg not hb786) fun a F => ?_
         refine qv F (r_pick_f F rfl (congrArg not hb786) rfl) fun a F => ?_
         refine nil ?_
         exact J788 c780 w781 a false (F.sub ⟨rfl, rfl, rfl, rfl, rfl, rfl, rfl, rfl, rfl, rfl, rfl, trivial⟩) E B h17 h46 h88 h132 h4 h8 h11 h614 h550 h575 h578 h610 h613 H
        replace H := im hb786 H
        refine qy F (congrArg not (bfalse hb786)) ?_
        refine qf F ff_34_4 fun a F => ?_
        refine qy F (congrArg not (bfalse hb786)) ?_
        refine qv F (r_load F rfl ag_3 (AT.cell h132 rfl)) fun a F => ?_
        as_aux_lemma =>
        refine qy F (congrArg not (bfalse hb786)) ?_
        refine qm F fun a F => ?_
        refine qy F (congrArg not (bfalse hb786)) ?_
        refine qv F (r_gtr F rfl rfl) fun a F => ?_
        refine qv F (r_pick_t F rfl (congrArg not (bfalse hb786)) rfl) fun a F => ?_
        refine nil ?_
        exact J788 c780 w781 a (decide (i547 < t114.1.At)) (F.sub ⟨rfl, rfl, rfl, rfl, rfl, rfl, rfl, rfl, rfl, rfl, rfl, trivial⟩) E B h17 h46 h88 h132 h4 h8 h11 h614 h550 h575 h578 h610 h613 H
       replace H := im hb785 H
       refine qn F (dz hb785) fun a F => ?_
       refine qn F (dz hb785) fun a F => ?_
       refine qv F (r_pick_f F rfl (dz hb785) rfl) fun a F => ?_
       refine qm F fun a F => ?_
       refine qn F rfl fun a F => ?_
       refine qn F rfl fun a F => ?_
       as_aux_lemma =>
       refine qn F rfl fun a F => ?_
       refine qn F rfl fun a F => ?_
       refine qv F (r_pick_f F rfl rfl rfl) fun a F => ?_
       refine nil ?_
       exact J788 c780 w781 a false (F.sub ⟨rfl, rfl, rfl, rfl, rfl, rfl, rfl, rfl, rfl, rfl, rfl, trivial⟩) E B h17 h46 h88 h132 h4 h8 h11 h614 h550 h575 h578 h610 h613 H
      refine wp_seq_k fun K675 hK675 => ?_
      have J704 : ∀ (c705 : Nat → Nat) (w706 : World) (a : Act) (b703 : Bool), Fr a 353 [(0, .slice A2 a1.length C3), (3, .pointer (some qa15)), (5, .pointer p38), (6, .pointer (some qa44)), (7, .int .i64 i547), (8, .int .i64 i548), (9, .pointer (some qa86)), (12, .pointer (some qa130)), (13, .bool t114.2.1), (14, .int .i64 t114.2.2.1), (15, .bool b625), (118, .bool b703)] → Ev (fun x => False ∨ m ≤ x) c0 w0 c705 w706 → CB (m + 11) c705 w706 → AT true (m + 1) c705 w706 qa15 [.int .i64 a5.Kind, .slice A6 a5.Key.length C7, .slice A9 a5.Value.length C10, .int .i64 a5.Rev] → AT true (m + 4) c705 w706 qa44 (([] : List Value) ++ (cs549 ++ (([] : List Value)))) → AT true (m + 5) c705 w706 qa86 [.int .i64 ((rd a1 i548).Who), .int .i64 ((rd a1 i548).Kind), .int .i64 ((rd a1 i548).Client), .int .i64 ((rd a1 i548).Seq), .int .i64 (((rd a1 i548).Op).Kind), .slice A573 (((rd a1 i548).Op).Key).length C574, .slice A576 (((rd a1 i548).Op).Value).length C577, .int .i64 (((rd a1 i548).Op).Rev)] → AT true (m + 6) c705 w706 qa130 [.bool t114.1.Done, .slice A608 t114.1.Key.length C609, .slice A611 t114.1.Value.length C612, .int .i64 t114.1.Rev, .int .i64 t114.1.At] → SL false K_haulagelaw14_Step 0 0 c705 w706 A2 C3 a1 → SL false (Kint .u8) 0 0 c705 w706 A6 C7 a5.Key → SL false (Kint .u8) 0 0 c705 w706 A9 C10 a5.Value → SH (m + 2) (m + 3) c705 w706 p38 t114.2.2.2 → AR K_haulagelaw14_again 0 c705 w706 cs549 16 l551 → SL false (Kint .u8) 0 0 c705 w706 A573 C574 (((rd a1 i548).Op).Key) → SL false (Kint .u8) 0 0 c705 w706 A576 C577 (((rd a1 i548).Op).Value) → SL false (Kint .u8) 0 0 c705 w706 A608 C609 t114.1.Key → SL false (Kint .u8) 0 0 c705 w706 A611 C612 t114.1.Value → haulagelaw14_ShardOnce.j16 k a1 t114 i547 i548 l551 b625 b703 = some ctl557 → K675 a w706 := by
       intro c705 w706 a b703 F E B h17 h46 h88 h132 h4 h8 h11 h614 h550 h575 h578 h610 h613 H
       unfold haulagelaw14_ShardOnce.j16 at H
       refine hK675 _ _ ?_
       by_cases hb707 : b703 = true
       ·replace H := ip hb707 H
        refine wp_cond_true (fb F hb707) ?_
        refine wp_seq_k fun K708 hK708 => reg ?_
        refine qf F ff_32_2 fun a F => ?_
        as_aux_lemma =>
        refine qv F (r_load F rfl ag_3 (AT.cell h88 rfl)) fun a F => ?_
        replace H := ifN H
        obtain ⟨g709, H⟩ := H
        obtain ⟨cs711, h712, r713⟩ := AR.at (off := 0) h46 rfl h550 ((rd a1 i548).Client) g709.1 (by have g_ := g709.2; omega)
        obtain ⟨A715, C716, A718, C719, A721, C722, A724, C725, rfl, h717, h720, h723, h726⟩ := r713
        replace h723 := SL.fl (i' := 0) h723 (fun q => q)
        replace h726 := SL.fl (i' := 0) h726 (fun q => q)
        obtain ⟨qa714, qqa714⟩ : ∃ q, q = (qa44.add (0 + ((rd a1 i548).Client).toNat * 14)) := ⟨_, rfl⟩
        have h712 : AT true (m + 4) c705 w706 qa714 [.bool ((rd l551 ((rd a1 i548).Client)).is), .int .i64 (((rd l551 ((rd a1 i548).Client)).step).Who), .int .i64 (((rd l551 ((rd a1 i548).Client)).step).Kind), .int .i64 (((rd l551 ((rd a1 i548).Client)).step).Client), .int .i64 (((rd l551 ((rd a1 i548).Client)).step).Seq), .int .i64 ((((rd l551 ((rd a1 i548).Client)).step).Op).Kind), .slice A715 ((((rd l551 ((rd a1 i548).Client)).step).Op).Key).length C716, .slice A718 ((((rd l551 ((rd a1 i548).Client)).step).Op).Value).length C719, .int .i64 ((((rd l551 ((rd a1 i548).Client)).step).Op).Rev), .bool (((rd l551 ((rd a1 i548).Client)).answer).Done), .slice A721 (((rd l551 ((rd a1 i548).Client)).answer).Key).length C722, .slice A724 (((rd l551 ((rd a1 i548).Client)).answer).Value).length C725, .int .i64 (((rd l551 ((rd a1 i548).Client)).answer).Rev), .int .i64 (((rd l551 ((rd a1 i548).Client)).answer).At)] := by rw [qqa714]; exact h712
        refine qv F (r_indexArr0 F ua_53 sz_52 rfl rfl g709.1 (by have g_ := g709.2; omega) qqa714) fun a F => ?_
        refine qv F (r_loads (cs := [.bool ((rd l551 ((rd a1 i548).Client)).is), .int .i64 (((rd l551 ((rd a1 i548).Client)).step).Who), .int .i64 (((rd l551 ((rd a1 i548).Client)).step).Kind), .int .i64 (((rd l551 ((rd a1 i548).Client)).step).Client), .int .i64 (((rd l551 ((rd a1 i548).Client)).step).Seq), .int .i64 ((((rd l551 ((rd a1 i548).Client)).step).Op).Kind), .slice A715 ((((rd l551 ((rd a1 i548).Client)).step).Op).Key).length C716, .slice A718 ((((rd l551 ((rd a1 i548).Client)).step).Op).Value).length C719, .int .i64 ((((rd l551 ((rd a1 i548).Client)).step).Op).Rev), .bool (((rd l551 ((rd a1 i548).Client)).answer).Done), .slice A721 (((rd l551 ((rd a1 i548).Client)).answer).Key).length C722, .slice A724 (((rd l551 ((rd a1 i548).Client)).answer).Value).length C725, .int .i64 (((rd l551 ((rd a1 i548).Client)).answer).Rev), .int .i64 (((rd l551 ((rd a1 i548).Client)).answer).At)]) F rfl ag_52 sz_52 h712) fun a F => ?_
        refine q_eff F rfl rfl (by decide) (e_alloc F zv_52 c705 (m + 7)) ?_
        rintro v w729 a ⟨c728, qa255, rfl, E730, h257, B731⟩ F
        replace B := B731 _ B lm
        as_aux_lemma =>
        replace h17 := h17.ev E730 nq
        replace h46 := h46.ev E730 nq
        replace h88 := h88.ev E730 nq
        replace h132 := h132.ev E730 nq
        replace h4 := h4.ev E730 nq nq
        replace h8 := h8.ev E730 nq nq
        replace h11 := h11.ev E730 nq nq
        replace h614 := h614.ev E730 nq nq nq
        replace h550 := h550.ev E730 nq
        replace h575 := h575.ev E730 nq nq
        replace h578 := h578.ev E730 nq nq
        replace h610 := h610.ev E730 nq nq
        replace h613 := h613.ev E730 nq nq
        replace h723 := h723.ev E730 nq nq
        as_aux_lemma =>
        replace h726 := h726.ev E730 nq nq
        replace E := E.trans E730 nx
        replace h257 : AT true (m + 7) c728 w729 qa255 [.bool false, .int .i64 0, .int .i64 0, .int .i64 0, .int .i64 0, .int .i64 0, .slice none 0 0, .slice none 0 0, .int .i64 0, .bool false, .slice none 0 0, .slice none 0 0, .int .i64 0, .int .i64 0] := h257
        refine q_eff0 F rfl rfl (e_storeN0 (us := [.bool ((rd l551 ((rd a1 i548).Client)).is), .int .i64 (((rd l551 ((rd a1 i548).Client)).step).Who), .int .i64 (((rd l551 ((rd a1 i548).Client)).step).Kind), .int .i64 (((rd l551 ((rd a1 i548).Client)).step).Client), .int .i64 (((rd l551 ((rd a1 i548).Client)).step).Seq), .int .i64 ((((rd l551 ((rd a1 i548).Client)).step).Op).Kind), .slice A715 ((((rd l551 ((rd a1 i548).Client)).step).Op).Key).length C716, .slice A718 ((((rd l551 ((rd a1 i548).Client)).step).Op).Value).length C719, .int .i64 ((((rd l551 ((rd a1 i548).Client)).step).Op).Rev), .bool (((rd l551 ((rd a1 i548).Client)).answer).Done), .slice A721 (((rd l551 ((rd a1 i548).Client)).answer).Key).length C722, .slice A724 (((rd l551 ((rd a1 i548).Client)).answer).Value).length C725, .int .i64 (((rd l551 ((rd a1 i548).Client)).answer).Rev), .int .i64 (((rd l551 ((rd a1 i548).Client)).answer).At)]) F rfl rfl sz_52 h257 (nb rfl) (one_all rfl)) ?_
        rintro w732 a ⟨E733, h257, Z734⟩ F
        replace B := B.size Z734
        replace h17 := h17.ev E733 mm
        replace h46 := h46.ev E733 mm
        replace h88 := h88.ev E733 mm
        replace h132 := h132.ev E733 mm
        replace h4 := h4.ev E733 ne_zm ne_zm
        replace h8 := h8.ev E733 ne_zm ne_zm
        replace h11 := h11.ev E733 ne_zm ne_zm
        replace h614 := h614.ev E733 mm mm ne_zm
        as_aux_lemma =>
        replace h550 := h550.ev E733 ne_zm
        replace h575 := h575.ev E733 ne_zm ne_zm
        replace h578 := h578.ev E733 ne_zm ne_zm
        replace h610 := h610.ev E733 ne_zm ne_zm
        replace h613 := h613.ev E733 ne_zm ne_zm
        replace h723 := h723.ev E733 ne_zm ne_zm
        replace h726 := h726.ev E733 ne_zm ne_zm
        replace E := E.trans E733 lc1
        replace h257 : AT true (m + 7) c728 w732 qa255 [.bool ((rd l551 ((rd a1 i548).Client)).is), .int .i64 (((rd l551 ((rd a1 i548).Client)).step).Who), .int .i64 (((rd l551 ((rd a1 i548).Client)).step).Kind), .int .i64 (((rd l551 ((rd a1 i548).Client)).step).Client), .int .i64 (((rd l551 ((rd a1 i548).Client)).step).Seq), .int .i64 ((((rd l551 ((rd a1 i548).Client)).step).Op).Kind), .slice A715 ((((rd l551 ((rd a1 i548).Client)).step).Op).Key).length C716, .slice A718 ((((rd l551 ((rd a1 i548).Client)).step).Op).Value).length C719, .int .i64 ((((rd l551 ((rd a1 i548).Client)).step).Op).Rev), .bool (((rd l551 ((rd a1 i548).Client)).answer).Done), .slice A721 (((rd l551 ((rd a1 i548).Client)).answer).Key).length C722, .slice A724 (((rd l551 ((rd a1 i548).Client)).answer).Value).length C725, .int .i64 (((rd l551 ((rd a1 i548).Client)).answer).Rev), .int .i64 (((rd l551 ((rd a1 i548).Client)).answer).At)] := h257
        refine nil (hK708 _ _ ?_)
        refine wp_seq_k fun K735 hK735 => ?_
        have J770 : ∀ (c771 : Nat → Nat) (w772 : World) (a : Act) (b769 : Bool), Fr a 353 [(0, .slice A2 a1.length C3), (3, .pointer (some qa15)), (5, .pointer p38), (6, .pointer (some qa44)), (7, .int .i64 i547), (8, .int .i64 i548), (9, .pointer (some qa86)), (12, .pointer (some qa130)), (13, .bool t114.2.1), (14, .int .i64 t114.2.2.1), (15, .bool b625), (156, .bool b769)] → Ev (fun x => False ∨ m ≤ x) c0 w0 c771 w772 → CB (m + 11) c771 w772 → AT true (m + 1) c771 w772 qa15 [.int .i64 a5.Kind, .slice A6 a5.Key.length C7, .slice A9 a5.Value.length C10, .int .i64 a5.Rev] → AT true (m + 4) c771 w772 qa44 (([] : List Value) ++ (cs549 ++ (([] : List Value)))) → AT true (m + 5) c771 w772 qa86 [.int .i64 ((rd a1 i548).Who), .int .i64 ((rd a1 i548).Kind), .int .i64 ((rd a1 i548).Client), .int .i64 ((rd a1 i548).Seq), .int .i64 (((rd a1 i548).Op).Kind), .slice A573 (((rd a1 i548).Op).Key).length C574, .slice A576 (((rd a1 i548).Op).Value).length C577, .int .i64 (((rd a1 i548).Op).Rev)] → AT true (m + 6) c771 w772 qa130 [.bool t114.1.Done, .slice A608 t114.1.Key.length C609, .slice A611 t114.1.Value.length C612, .int .i64 t114.1.Rev, .int .i64 t114.1.At] → SL false K_haulagelaw14_Step 0 0 c771 w772 A2 C3 a1 → SL false (Kint .u8) 0 0 c771 w772 A6 C7 a5.Key → SL false (Kint .u8) 0 0 c771 w772 A9 C10 a5.Value → SH (m + 2) (m + 3) c771 w772 p38 t114.2.2.2 → AR K_haulagelaw14_again 0 c771 w772 cs549 16 l551 → SL false (Kint .u8) 0 0 c771 w772 A573 C574 (((rd a1 i548).Op).Key) → SL false (Kint .u8) 0 0 c771 w772 A576 C577 (((rd a1 i548).Op).Value) → SL false (Kint .u8) 0 0 c771 w772 A608 C609 t114.1.Key → SL false (Kint .u8) 0 0 c771 w772 A611 C612 t114.1.Value → haulagelaw14_ShardOnce.j17 k a1 t114 i547 i548 l551 b625 b769 = some ctl557 → K735 a w772 := by
         intro c771 w772 a b769 F E B h17 h46 h88 h132 h4 h8 h11 h614 h550 h575 h578 h610 h613 H
         unfold haulagelaw14_ShardOnce.j17 at H
         as_aux_lemma =>
         refine hK735 _ _ ?_
         by_cases hb773 : b769 = true
         ·replace H := ip hb773 H
          refine wp_cond_true (fb F hb773) ?_
          refine wp_seq_k fun K774 hK774 => reg ?_
          refine qa F fun a F => ?_
          refine nil (hK774 _ _ ?_)
          replace F : Fr a 353 [(4, .bool false)] := F.sub ⟨rfl, trivial⟩
          refine wp_ret ?_
          refine thenR ?_
          refine inbR ?_
          refine thenR ?_
          refine thenR ?_
          refine inbR ?_
          refine thenR ?_
          have hx_ := HD556 _ (si H).symm
          have H := HR560
          rw [← hx_] at H
          as_aux_lemma =>
          replace H : some false = some r := H
          replace H := si H
          subst H
          refine out1 F rfl rfl ?_
          exact ⟨cf (fun x_ => if x_ < m then x_ else 0) c771, rfl, E.lv B0, cfb⟩
         replace H := im hb773 H
         refine wp_cond_false (fb F (bfalse hb773)) ?_
         refine wp_skip ?_
         exact J775 c771 w772 a  (F.sub ⟨rfl, rfl, rfl, rfl, rfl, rfl, rfl, rfl, rfl, rfl, rfl, trivial⟩) E B h17 h46 h88 h132 h4 h8 h11 h614 h550 h575 h578 h610 h613 H
        refine reg ?_
        refine qf F ff_32_3 fun a F => ?_
        refine qv F (r_load F rfl ag_3 (AT.cell h88 rfl)) fun a F => ?_
        refine qf F ff_52_1 fun a F => ?_
        refine qv F (r_fieldAddr2 F h257 rfl ff_32_3) fun a F => ?_
        as_aux_lemma =>
        refine qv F (r_load F rfl ag_3 (AT.cell h257 rfl)) fun a F => ?_
        refine qv F (r_lss F rfl rfl) fun a F => ?_
        refine qm F fun a F => ?_
        by_cases hb736 : ((rd a1 i548).Seq) < (((rd l551 ((rd a1 i548).Client)).step).Seq)
        ·replace H := ip hb736 H
         refine qy F (dt hb736) ?_
         refine qm F fun a F => ?_
         obtain ⟨t265, q266, H⟩ := bind_some H
         refine qy F (dt hb736) ?_
         refine qc F Try.func11 (haulagelaw14_num.calls (m := m + 11) (pl hm0) B _ q266) ?_
         rintro e w738 ⟨c737, rfl, E739, B740⟩
         refine ⟨_, rfl, fun a F => ?_⟩
         have B := B740
         replace h17 := h17.ev E739 nq
         replace h46 := h46.ev E739 nq
         as_aux_lemma =>
         replace h88 := h88.ev E739 nq
         replace h132 := h132.ev E739 nq
         replace h4 := h4.ev E739 nq nq
         replace h8 := h8.ev E739 nq nq
         replace h11 := h11.ev E739 nq nq
         replace h614 := h614.ev E739 nq nq nq
         replace h550 := h550.ev E739 nq
         replace h575 := h575.ev E739 nq nq
         replace h578 := h578.ev E739 nq nq
         replace h610 := h610.ev E739 nq nq
         replace h613 := h613.ev E739 nq nq
         replace h723 := h723.ev E739 nq nq
         replace h726 := h726.ev E739 nq nq
         replace h257 := h257.ev E739 nq
         as_aux_lemma =>
         replace E := E.trans E739 nx
         refine qy F (dt hb736) ?_
         refine qv F (r_neq F rfl rfl) fun a F => ?_
         refine qv F (r_pick_t F rfl (dt hb736) rfl) fun a F => ?_
         refine qm F fun a F => ?_
         by_cases hb742 : t265 = 141
         ·replace H := ip hb742 H
          refine qy F (congrArg not (dt hb742)) ?_
          refine qf F ff_32_3 fun a F => ?_
          refine qy F (congrArg not (dt hb742)) ?_
          refine qv F (r_load F rfl ag_3 (AT.cell h88 rfl)) fun a F => ?_
          refine qy F (congrArg not (dt hb742)) ?_
          refine qf F ff_52_1 fun a F => ?_
          refine qy F (congrArg not (dt hb742)) ?_
          refine qv F (r_fieldAddr2 F h257 rfl ff_32_3) fun a F => ?_
          as_aux_lemma =>
          refine qy F (congrArg not (dt hb742)) ?_
          refine qv F (r_load F rfl ag_3 (AT.cell h257 rfl)) fun a F => ?_
          refine qy F (congrArg not (dt hb742)) ?_
          refine qv F (r_eql F rfl rfl) fun a F => ?_
          refine qy F (congrArg not (dt hb742)) ?_
          refine qm F fun a F => ?_
          by_cases hb743 : ((rd a1 i548).Seq) = (((rd l551 ((rd a1 i548).Client)).step).Seq)
          ·replace H := ip hb743 H
           refine qy F (dt hb743) ?_
           refine qm F fun a F => ?_
           obtain ⟨t274, q275, H⟩ := bind_some H
           refine qy F (dt hb743) ?_
           refine qc F Try.func11 (haulagelaw14_num.calls (m := m + 11) (pl hm0) B _ q275) ?_
           rintro e w745 ⟨c744, rfl, E746, B747⟩
           refine ⟨_, rfl, fun a F => ?_⟩
           have B := B747
           as_aux_lemma =>
           replace h17 := h17.ev E746 nq
           replace h46 := h46.ev E746 nq
           replace h88 := h88.ev E746 nq
           replace h132 := h132.ev E746 nq
           replace h4 := h4.ev E746 nq nq
           replace h8 := h8.ev E746 nq nq
           replace h11 := h11.ev E746 nq nq
           replace h614 := h614.ev E746 nq nq nq
           replace h550 := h550.ev E746 nq
           replace h575 := h575.ev E746 nq nq
           replace h578 := h578.ev E746 nq nq
           replace h610 := h610.ev E746 nq nq
           replace h613 := h613.ev E746 nq nq
           replace h723 := h723.ev E746 nq nq
           as_aux_lemma =>
           replace h726 := h726.ev E746 nq nq
           replace h257 := h257.ev E746 nq
           replace E := E.trans E746 nx
           refine qy F (dt hb743) ?_
           refine qv F (r_neq F rfl rfl) fun a F => ?_
           refine qy F (dt hb743) ?_
           refine qm F fun a F => ?_
           by_cases hb749 : t274 = 0
           ·replace H := ip hb749 H
            refine qy F (congrArg not (dt hb749)) ?_
            refine qm F fun a F => ?_
            refine qy F (dt hb743) ?_
            refine qv F (r_pick_f F rfl (congrArg not (dt hb749)) rfl) fun a F => ?_
            refine qy F (dt hb743) ?_
            refine qm F fun a F => ?_
            by_cases hb750 : t114.2.1 = true
            ·replace H := ip hb750 H
             as_aux_lemma =>
             refine qn F hb750 fun a F => ?_
             refine qn F hb750 fun a F => ?_
             refine qn F hb750 fun a F => ?_
             refine qn F hb750 fun a F => ?_
             refine qn F hb750 fun a F => ?_
             refine qy F (dt hb743) ?_
             refine qv F (r_pick_t F rfl hb750 rfl) fun a F => ?_
             refine qy F (congrArg not (dt hb742)) ?_
             refine qv F (r_pick_t F rfl (dt hb743) rfl) fun a F => ?_
             refine qv F (r_pick_f F rfl (congrArg not (dt hb742)) rfl) fun a F => ?_
             refine nil ?_
             exact J770 c744 w745 a true (F.sub ⟨rfl, rfl, rfl, rfl, rfl, rfl, rfl, rfl, rfl, rfl, rfl, rfl, trivial⟩) E B h17 h46 h88 h132 h4 h8 h11 h614 h550 h575 h578 h610 h613 H
            replace H := im hb750 H
            refine qy F (bfalse hb750) ?_
            as_aux_lemma =>
            refine qv F (r_loads (cs := [.bool t114.1.Done, .slice A608 t114.1.Key.length C609, .slice A611 t114.1.Value.length C612, .int .i64 t114.1.Rev, .int .i64 t114.1.At]) F rfl ag_34 sz_34 h132) fun a F => ?_
            refine qy F (bfalse hb750) ?_
            refine qf F ff_52_2 fun a F => ?_
            refine qy F (bfalse hb750) ?_
            refine qv F (r_loads (cs := [.bool (((rd l551 ((rd a1 i548).Client)).answer).Done), .slice A721 (((rd l551 ((rd a1 i548).Client)).answer).Key).length C722, .slice A724 (((rd l551 ((rd a1 i548).Client)).answer).Value).length C725, .int .i64 (((rd l551 ((rd a1 i548).Client)).answer).Rev), .int .i64 (((rd l551 ((rd a1 i548).Client)).answer).At)]) F rfl ag_34 sz_34 (AT.sub h257 9 5 (nb rfl))) fun a F => ?_
            obtain ⟨t283, q284, H⟩ := bind_some H
            refine qy F (bfalse hb750) ?_
            refine qc F Try.func13 (haulagelaw14_sameAnswer.calls k (m := m + 11) (pl hm0) B h610 h613 h723 h726 _ q284) ?_
            rintro e w752 ⟨c751, rfl, E753, B754⟩
            refine ⟨_, rfl, fun a F => ?_⟩
            have B := B754
            replace h17 := h17.ev E753 nq
            replace h46 := h46.ev E753 nq
            replace h88 := h88.ev E753 nq
            as_aux_lemma =>
            replace h132 := h132.ev E753 nq
            replace h4 := h4.ev E753 nq nq
            replace h8 := h8.ev E753 nq nq
            replace h11 := h11.ev E753 nq nq
            replace h614 := h614.ev E753 nq nq nq
            replace h550 := h550.ev E753 nq
            replace h575 := h575.ev E753 nq nq
            replace h578 := h578.ev E753 nq nq
            replace h610 := h610.ev E753 nq nq
            replace h613 := h613.ev E753 nq nq
            replace E := E.trans E753 nx
            refine qy F (bfalse hb750) ?_
            refine qv F (r_not F rfl) fun a F => ?_
            refine qy F (dt hb743) ?_
            as_aux_lemma =>
            refine qv F (r_pick_f F rfl (bfalse hb750) rfl) fun a F => ?_
            refine qy F (congrArg not (dt hb742)) ?_
            refine qv F (r_pick_t F rfl (dt hb743) rfl) fun a F => ?_
            refine qv F (r_pick_f F rfl (congrArg not (dt hb742)) rfl) fun a F => ?_
            refine nil ?_
            exact J770 c751 w752 a (!t283) (F.sub ⟨rfl, rfl, rfl, rfl, rfl, rfl, rfl, rfl, rfl, rfl, rfl, rfl, trivial⟩) E B h17 h46 h88 h132 h4 h8 h11 h614 h550 h575 h578 h610 h613 H
           replace H := im hb749 H
           refine qn F (congrArg not (dz hb749)) fun a F => ?_
           refine qy F (dt hb743) ?_
           refine qv F (r_pick_t F rfl (congrArg not (dz hb749)) rfl) fun a F => ?_
           refine qy F (dt hb743) ?_
           refine qm F fun a F => ?_
           refine qn F rfl fun a F => ?_
           refine qn F rfl fun a F => ?_
           as_aux_lemma =>
           refine qn F rfl fun a F => ?_
           refine qn F rfl fun a F => ?_
           refine qn F rfl fun a F => ?_
           refine qy F (dt hb743) ?_
           refine qv F (r_pick_t F rfl rfl rfl) fun a F => ?_
           refine qy F (congrArg not (dt hb742)) ?_
           refine qv F (r_pick_t F rfl (dt hb743) rfl) fun a F => ?_
           refine qv F (r_pick_f F rfl (congrArg not (dt hb742)) rfl) fun a F => ?_
           refine nil ?_
           exact J770 c744 w745 a true (F.sub ⟨rfl, rfl, rfl, rfl, rfl, rfl, rfl, rfl, rfl, rfl, rfl, rfl, trivial⟩) E B h17 h46 h88 h132 h4 h8 h11 h614 h550 h575 h578 h610 h613 H
          replace H := im hb743 H
          refine qn F (dz hb743) fun a F => ?_
          refine qn F (dz hb743) fun a F => ?_
          refine qn F (dz hb743) fun a F => ?_
          as_aux_lemma =>
          refine qn F (dz hb743) fun a F => ?_
          refine q_nu F rfl (by decide) rfl (by decide) fun a F => ?_
          refine qn F (dz hb743) fun a F => ?_
          refine qn F (dz hb743) fun a F => ?_
          refine q_nu F rfl (by decide) rfl (by decide) fun a F => ?_
          refine q_nu F rfl (by decide) rfl (by decide) fun a F => ?_
          refine q_nu F rfl (by decide) rfl (by decide) fun a F => ?_
          refine q_nu F rfl (by decide) rfl (by decide) fun a F => ?_
          refine q_nu F rfl (by decide) rfl (by decide) fun a F => ?_
          refine qn F (dz hb743) fun a F => ?_
          refine qy F (congrArg not (dt hb742)) ?_
          refine qv F (r_pick_f F rfl (dz hb743) rfl) fun a F => ?_
          refine qv F (r_pick_f F rfl (congrArg not (dt hb742)) rfl) fun a F => ?_
          refine nil ?_
          exact J770 c737 w738 a false (F.sub ⟨rfl, rfl, rfl, rfl, rfl, rfl, rfl, rfl, rfl, rfl, rfl, rfl, trivial⟩) E B h17 h46 h88 h132 h4 h8 h11 h614 h550 h575 h578 h610 h613 H
         as_aux_lemma =>
         replace H := im hb742 H
         refine qn F (congrArg not (dz hb742)) fun a F => ?_
         refine qn F (congrArg not (dz hb742)) fun a F => ?_
         refine qn F (congrArg not (dz hb742)) fun a F => ?_
         refine qn F (congrArg not (dz hb742)) fun a F => ?_
         refine qn F (congrArg not (dz hb742)) fun a F => ?_
         refine qn F (congrArg not (dz hb742)) fun a F => ?_
         refine qn F (congrArg not (dz hb742)) fun a F => ?_
         refine q_nu F rfl (by decide) rfl (by decide) fun a F => ?_
         refine q_nu F rfl (by decide) rfl (by decide) fun a F => ?_
         refine q_nu F rfl (by decide) rfl (by decide) fun a F => ?_
         refine q_nu F rfl (by decide) rfl (by decide) fun a F => ?_
         refine q_nu F rfl (by decide) rfl (by decide) fun a F => ?_
         refine q_nu F rfl (by decide) rfl (by decide) fun a F => ?_
         as_aux_lemma =>
         refine q_nu F rfl (by decide) rfl (by decide) fun a F => ?_
         refine q_nu F rfl (by decide) rfl (by decide) fun a F => ?_
         refine q_nu F rfl (by decide) rfl (by decide) fun a F => ?_
         refine q_nu F rfl (by decide) rfl (by decide) fun a F => ?_
         refine q_nu F rfl (by decide) rfl (by decide) fun a F => ?_
         refine q_nu F rfl (by decide) rfl (by decide) fun a F => ?_
         refine q_nu F rfl (by decide) rfl (by decide) fun a F => ?_
         refine qn F (congrArg not (dz hb742)) fun a F => ?_
         refine qv F (r_pick_t F rfl (congrArg not (dz hb742)) rfl) fun a F => ?_
         refine nil ?_
         exact J770 c737 w738 a true (F.sub ⟨rfl, rfl, rfl, rfl, rfl, rfl, rfl, rfl, rfl, rfl, rfl, rfl, trivial⟩) E B h17 h46 h88 h132 h4 h8 h11 h614 h550 h575 h578 h610 h613 H
        replace H := im hb736 H
        refine qn F (dz hb736) fun a F => ?_
        refine qn F (dz hb736) fun a F => ?_
        as_aux_lemma =>
        refine qn F (dz hb736) fun a F => ?_
        refine qv F (r_pick_f F rfl (dz hb736) rfl) fun a F => ?_
        refine qm F fun a F => ?_
        refine qy F rfl ?_
        refine qf F ff_32_3 fun a F => ?_
        refine qy F rfl ?_
        refine qv F (r_load F rfl ag_3 (AT.cell h88 rfl)) fun a F => ?_
        refine qy F rfl ?_
        refine qf F ff_52_1 fun a F => ?_
        refine qy F rfl ?_
        refine qv F (r_fieldAddr2 F h257 rfl ff_32_3) fun a F => ?_
        refine qy F rfl ?_
        refine qv F (r_load F rfl ag_3 (AT.cell h257 rfl)) fun a F => ?_
        refine qy F rfl ?_
        as_aux_lemma =>
        refine qv F (r_eql F rfl rfl) fun a F => ?_
        refine qy F rfl ?_
        refine qm F fun a F => ?_
        by_cases hb756 : ((rd a1 i548).Seq) = (((rd l551 ((rd a1 i548).Client)).step).Seq)
        ·replace H := ip hb756 H
         refine qy F (dt hb756) ?_
         refine qm F fun a F => ?_
         obtain ⟨t274, q275, H⟩ := bind_some H
         refine qy F (dt hb756) ?_
         refine qc F Try.func11 (haulagelaw14_num.calls (m := m + 11) (pl hm0) B _ q275) ?_
         rintro e w758 ⟨c757, rfl, E759, B760⟩
         refine ⟨_, rfl, fun a F => ?_⟩
         have B := B760
         replace h17 := h17.ev E759 nq
         replace h46 := h46.ev E759 nq
         as_aux_lemma =>
         replace h88 := h88.ev E759 nq
         replace h132 := h132.ev E759 nq
         replace h4 := h4.ev E759 nq nq
         replace h8 := h8.ev E759 nq nq
         replace h11 := h11.ev E759 nq nq
         replace h614 := h614.ev E759 nq nq nq
         replace h550 := h550.ev E759 nq
         replace h575 := h575.ev E759 nq nq
         replace h578 := h578.ev E759 nq nq
         replace h610 := h610.ev E759 nq nq
         replace h613 := h613.ev E759 nq nq
         replace h723 := h723.ev E759 nq nq
         replace h726 := h726.ev E759 nq nq
         replace h257 := h257.ev E759 nq
         as_aux_lemma =>
         replace E := E.trans E759 nx
         refine qy F (dt hb756) ?_
         refine qv F (r_neq F rfl rfl) fun a F => ?_
         refine qy F (dt hb756) ?_
         refine qm F fun a F => ?_
         by_cases hb762 : t274 = 0
         ·replace H := ip hb762 H
          refine qy F (congrArg not (dt hb762)) ?_
          refine qm F fun a F => ?_
          refine qy F (dt hb756) ?_
          refine qv F (r_pick_f F rfl (congrArg not (dt hb762)) rfl) fun a F => ?_
          refine qy F (dt hb756) ?_
          refine qm F fun a F => ?_
          by_cases hb763 : t114.2.1 = true
          ·replace H := ip hb763 H
           refine qn F hb763 fun a F => ?_
           as_aux_lemma =>
           refine qn F hb763 fun a F => ?_
           refine qn F hb763 fun a F => ?_
           refine qn F hb763 fun a F => ?_
           refine qn F hb763 fun a F => ?_
           refine qy F (dt hb756) ?_
           refine qv F (r_pick_t F rfl hb763 rfl) fun a F => ?_
           refine qy F rfl ?_
           refine qv F (r_pick_t F rfl (dt hb756) rfl) fun a F => ?_
           refine qv F (r_pick_f F rfl rfl rfl) fun a F => ?_
           refine nil ?_
           exact J770 c757 w758 a true (F.sub ⟨rfl, rfl, rfl, rfl, rfl, rfl, rfl, rfl, rfl, rfl, rfl, rfl, trivial⟩) E B h17 h46 h88 h132 h4 h8 h11 h614 h550 h575 h578 h610 h613 H
          replace H := im hb763 H
          refine qy F (bfalse hb763) ?_
          refine qv F (r_loads (cs := [.bool t114.1.Done, .slice A608 t114.1.Key.length C609, .slice A611 t114.1.Value.length C612, .int .i64 t114.1.Rev, .int .i64 t114.1.At]) F rfl ag_34 sz_34 h132) fun a F => ?_
          as_aux_lemma =>
          refine qy F (bfalse hb763) ?_
          refine qf F ff_52_2 fun a F => ?_
          refine qy F (bfalse hb763) ?_
          refine qv F (r_loads (cs := [.bool (((rd l551 ((rd a1 i548).Client)).answer).Done), .slice A721 (((rd l551 ((rd a1 i548).Client)).answer).Key).length C722, .slice A724 (((rd l551 ((rd a1 i548).Client)).answer).Value).length C725, .int .i64 (((rd l551 ((rd a1 i548).Client)).answer).Rev), .int .i64 (((rd l551 ((rd a1 i548).Client)).answer).At)]) F rfl ag_34 sz_34 (AT.sub h257 9 5 (nb rfl))) fun a F => ?_
          obtain ⟨t283, q284, H⟩ := bind_some H
          refine qy F (bfalse hb763) ?_
          refine qc F Try.func13 (haulagelaw14_sameAnswer.calls k (m := m + 11) (pl hm0) B h610 h613 h723 h726 _ q284) ?_
          rintro e w765 ⟨c764, rfl, E766, B767⟩
          refine ⟨_, rfl, fun a F => ?_⟩
          have B := B767
          replace h17 := h17.ev E766 nq
          replace h46 := h46.ev E766 nq
          replace h88 := h88.ev E766 nq
          replace h132 := h132.ev E766 nq
          as_aux_lemma =>
          replace h4 := h4.ev E766 nq nq
          replace h8 := h8.ev E766 nq nq
          replace h11 := h11.ev E766 nq nq
          replace h614 := h614.ev E766 nq nq nq
          replace h550 := h550.ev E766 nq
          replace h575 := h575.ev E766 nq nq
          replace h578 := h578.ev E766 nq nq
          replace h610 := h610.ev E766 nq nq
          replace h613 := h613.ev E766 nq nq
          replace E := E.trans E766 nx
          refine qy F (bfalse hb763) ?_
          refine qv F (r_not F rfl) fun a F => ?_
          refine qy F (dt hb756) ?_
          refine qv F (r_pick_f F rfl (bfalse hb763) rfl) fun a F => ?_
          as_aux_lemma =>
          refine qy F rfl ?_
          refine qv F (r_pick_t F rfl (dt hb756) rfl) fun a F => ?_
          refine qv F (r_pick_f F rfl rfl rfl) fun a F => ?_
          refine nil ?_
          exact J770 c764 w765 a (!t283) (F.sub ⟨rfl, rfl, rfl, rfl, rfl, rfl, rfl, rfl, rfl, rfl, rfl, rfl, trivial⟩) E B h17 h46 h88 h132 h4 h8 h11 h614 h550 h575 h578 h610 h613 H
         replace H := im hb762 H
         refine qn F (congrArg not (dz hb762)) fun a F => ?_
         refine qy F (dt hb756) ?_
         refine qv F (r_pick_t F rfl (congrArg not (dz hb762)) rfl) fun a F => ?_
         refine qy F (dt hb756) ?_
         refine qm F fun a F => ?_
         refine qn F rfl fun a F => ?_
         refine qn F rfl fun a F => ?_
         refine qn F rfl fun a F => ?_
         as_aux_lemma =>
         refine qn F rfl fun a F => ?_
         refine qn F rfl fun a F => ?_
         refine qy F (dt hb756) ?_
         refine qv F (r_pick_t F rfl rfl rfl) fun a F => ?_
         refine qy F rfl ?_
         refine qv F (r_pick_t F rfl (dt hb756) rfl) fun a F => ?_
         refine qv F (r_pick_f F rfl rfl rfl) fun a F => ?_
         refine nil ?_
         exact J770 c757 w758 a true (F.sub ⟨rfl, rfl, rfl, rfl, rfl, rfl, rfl, rfl, rfl, rfl, rfl, rfl, trivial⟩) E B h17 h46 h88 h132 h4 h8 h11 h614 h550 h575 h578 h610 h613 H
        replace H := im hb756 H
        refine qn F (dz hb756) fun a F => ?_
        refine qn F (dz hb756) fun a F => ?_
        refine qn F (dz hb756) fun a F => ?_
        refine qn F (dz hb756) fun a F => ?_
        as_aux_lemma =>
        refine q_nu F rfl (by decide) rfl (by decide) fun a F => ?_
        refine qn F (dz hb756) fun a F => ?_
        refine qn F (dz hb756) fun a F => ?_
        refine q_nu F rfl (by decide) rfl (by decide) fun a F => ?_
        refine q_nu F rfl (by decide) rfl (by decide) fun a F => ?_
        refine q_nu F rfl (by decide) rfl (by decide) fun a F => ?_
        refine q_nu F rfl (by decide) rfl (by decide) fun a F => ?_
        refine q_nu F rfl (by decide) rfl (by decide) fun a F => ?_
        refine qn F (dz hb756) fun a F => ?_
        refine qy F rfl ?_
        refine qv F (r_pick_f F rfl (dz hb756) rfl) fun a F => ?_
        refine qv F (r_pick_f F rfl rfl rfl) fun a F => ?_
        refine nil ?_
        exact J770 c728 w732 a false (F.sub ⟨rfl, rfl, rfl, rfl, rfl, rfl, rfl, rfl, rfl, rfl, rfl, rfl, trivial⟩) E B h17 h46 h88 h132 h4 h8 h11 h614 h550 h575 h578 h610 h613 H
       as_aux_lemma =>
       replace H := im hb707 H
       refine wp_cond_false (fb F (bfalse hb707)) ?_
       refine wp_skip ?_
       exact J775 c705 w706 a  (F.sub ⟨rfl, rfl, rfl, rfl, rfl, rfl, rfl, rfl, rfl, rfl, rfl, trivial⟩) E B h17 h46 h88 h132 h4 h8 h11 h614 h550 h575 h578 h610 h613 H
      refine reg ?_
      refine qm F fun a F => ?_
      refine qm F fun a F => ?_
      by_cases hb676 : b625 = true
      ·replace H := ip hb676 H
       refine qy F hb676 ?_
       refine qf F ff_32_2 fun a F => ?_
       refine qy F hb676 ?_
       refine qv F (r_load F rfl ag_3 (AT.cell h88 rfl)) fun a F => ?_
       replace H := ifN H
       obtain ⟨g677, H⟩ := H
       obtain ⟨cs679, h680, r681⟩ := AR.at (off := 0) h46 rfl h550 ((rd a1 i548).Client) g677.1 (by have g_ := g677.2; omega)
       obtain ⟨A683, C684, A686, C687, A689, C690, A692, C693, rfl, h685, h688, h691, h694⟩ := r681
       obtain ⟨qa682, qqa682⟩ : ∃ q, q = (qa44.add (0 + ((rd a1 i548).Client).toNat * 14)) := ⟨_, rfl⟩
       have h680 : AT true (m + 4) c670 w671 qa682 [.bool ((rd l551 ((rd a1 i548).Client)).is), .int .i64 (((rd l551 ((rd a1 i548).Client)).step).Who), .int .i64 (((rd l551 ((rd a1 i548).Client)).step).Kind), .int .i64 (((rd l551 ((rd a1 i548).Client)).step).Client), .int .i64 (((rd l551 ((rd a1 i548).Client)).step).Seq), .int .i64 ((((rd l551 ((rd a1 i548).Client)).step).Op).Kind), .slice A683 ((((rd l551 ((rd a1 i548).Client)).step).Op).Key).length C684, .slice A686 ((((rd l551 ((rd a1 i548).Client)).step).Op).Value).length C687, .int .i64 ((((rd l551 ((rd a1 i548).Client)).step).Op).Rev), .bool (((rd l551 ((rd a1 i548).Client)).answer).Done), .slice A689 (((rd l551 ((rd a1 i548).Client)).answer).Key).length C690, .slice A692 (((rd l551 ((rd a1 i548).Client)).answer).Value).length C693, .int .i64 (((rd l551 ((rd a1 i548).Client)).answer).Rev), .int .i64 (((rd l551 ((rd a1 i548).Client)).answer).At)] := by rw [qqa682]; exact h680
       as_aux_lemma =>
       refine qy F hb676 ?_
       refine qv F (r_indexArr0 F ua_53 sz_52 rfl rfl g677.1 (by have g_ := g677.2; omega) qqa682) fun a F => ?_
       refine qy F hb676 ?_
       refine qf F ff_52_0 fun a F => ?_
       refine qy F hb676 ?_
       refine qv F (r_load F rfl ag_4 (AT.cell h680 rfl)) fun a F => ?_
       refine qv F (r_pick_t F rfl hb676 rfl) fun a F => ?_
       refine qm F fun a F => ?_
       by_cases hb696 : ((rd l551 ((rd a1 i548).Client)).is) = true
       ·replace H := ip hb696 H
        refine qy F hb696 ?_
        refine qf F ff_32_3 fun a F => ?_
        refine qy F hb696 ?_
        refine qv F (r_load F rfl ag_3 (AT.cell h88 rfl)) fun a F => ?_
        refine qy F hb696 ?_
        as_aux_lemma =>
        refine qv F (r_geq F rfl rfl) fun a F => ?_
        refine qv F (r_pick_t F rfl hb696 rfl) fun a F => ?_
        refine qm F fun a F => ?_
        by_cases hb697 : 1 ≤ ((rd a1 i548).Seq)
        ·replace H := ip hb697 H
         refine qy F (dt hb697) ?_
         refine qf F ff_32_4 fun a F => ?_
         refine qy F (dt hb697) ?_
         refine qv F (r_loads (cs := [.int .i64 (((rd a1 i548).Op).Kind), .slice A573 (((rd a1 i548).Op).Key).length C574, .slice A576 (((rd a1 i548).Op).Value).length C577, .int .i64 (((rd a1 i548).Op).Rev)]) F rfl ag_30 sz_30 (AT.sub h88 4 4 (nb rfl))) fun a F => ?_
         obtain ⟨t221, q222, H⟩ := bind_some H
         refine qy F (dt hb697) ?_
         refine qc F Try.func24 (table_Right.calls (m := m + 11) (pl hm0) B h575 h578 _ q222) ?_
         rintro e w699 ⟨c698, rfl, E700, B701⟩
         refine ⟨_, rfl, fun a F => ?_⟩
         have B := B701
         as_aux_lemma =>
         replace h17 := h17.ev E700 nq
         replace h46 := h46.ev E700 nq
         replace h88 := h88.ev E700 nq
         replace h132 := h132.ev E700 nq
         replace h4 := h4.ev E700 nq nq
         replace h8 := h8.ev E700 nq nq
         replace h11 := h11.ev E700 nq nq
         replace h614 := h614.ev E700 nq nq nq
         replace h550 := h550.ev E700 nq
         replace h575 := h575.ev E700 nq nq
         replace h578 := h578.ev E700 nq nq
         replace h610 := h610.ev E700 nq nq
         replace h613 := h613.ev E700 nq nq
         replace E := E.trans E700 nx
         as_aux_lemma =>
         refine qv F (r_pick_t F rfl (dt hb697) rfl) fun a F => ?_
         refine nil ?_
         exact J704 c698 w699 a t221 (F.sub ⟨rfl, rfl, rfl, rfl, rfl, rfl, rfl, rfl, rfl, rfl, rfl, rfl, trivial⟩) E B h17 h46 h88 h132 h4 h8 h11 h614 h550 h575 h578 h610 h613 H
        replace H := im hb697 H
        refine qn F (dz hb697) fun a F => ?_
        refine qn F (dz hb697) fun a F => ?_
        refine qn F (dz hb697) fun a F => ?_
        refine qv F (r_pick_f F rfl (dz hb697) rfl) fun a F => ?_
        refine nil ?_
        exact J704 c670 w671 a false (F.sub ⟨rfl, rfl, rfl, rfl, rfl, rfl, rfl, rfl, rfl, rfl, rfl, rfl, trivial⟩) E B h17 h46 h88 h132 h4 h8 h11 h614 h550 h575 h578 h610 h613 H
       replace H := im hb696 H
       refine qn F (bfalse hb696) fun a F => ?_
       refine qn F (bfalse hb696) fun a F => ?_
       refine qn F (bfalse hb696) fun a F => ?_
       as_aux_lemma =>
       refine qv F (r_pick_f F rfl (bfalse hb696) rfl) fun a F => ?_
       refine qm F fun a F => ?_
       refine qn F rfl fun a F => ?_
       refine qn F rfl fun a F => ?_
       refine qn F rfl fun a F => ?_
       refine qv F (r_pick_f F rfl rfl rfl) fun a F => ?_
       refine nil ?_
       exact J704 c670 w671 a false (F.sub ⟨rfl, rfl, rfl, rfl, rfl, rfl, rfl, rfl, rfl, rfl, rfl, rfl, trivial⟩) E B h17 h46 h88 h132 h4 h8 h11 h614 h550 h575 h578 h610 h613 H
      replace H := im hb676 H
      refine qn F (bfalse hb676) fun a F => ?_
      refine qn F (bfalse hb676) fun a F => ?_
      refine qn F (bfalse hb676) fun a F => ?_
      refine qn F (bfalse hb676) fun a F => ?_
      refine qn F (bfalse hb676) fun a F => ?_
      as_aux_lemma =>
      refine qv F (r_pick_f F rfl (bfalse hb676) rfl) fun a F => ?_
      refine qm F fun a F => ?_
      refine qn F rfl fun a F => ?_
      refine qn F rfl fun a F => ?_
      refine qn F rfl fun a F => ?_
      refine qv F (r_pick_f F rfl rfl rfl) fun a F => ?_
      refine qm F fun a F => ?_
      refine qn F rfl fun a F => ?_
      refine qn F rfl fun a F => ?_
      refine qn F rfl fun a F => ?_
      refine qv F (r_pick_f F rfl rfl rfl) fun a F => ?_
      refine nil ?_
      exact J704 c670 w671 a false (F.sub ⟨rfl, rfl, rfl, rfl, rfl, rfl, rfl, rfl, rfl, rfl, rfl, rfl, trivial⟩) E B h17 h46 h88 h132 h4 h8 h11 h614 h550 h575 h578 h610 h613 H
     refine reg ?_
     as_aux_lemma =>
     refine qm F fun a F => ?_
     refine qv F (r_not F rfl) fun a F => ?_
     refine qm F fun a F => ?_
     by_cases hb648 : t114.2.1 = true
     ·replace H := ip hb648 H
      refine qn F (congrArg not hb648) fun a F => ?_
      refine qn F (congrArg not hb648) fun a F => ?_
      refine qn F (congrArg not hb648) fun a F => ?_
      refine qn F (congrArg not hb648) fun a F => ?_
      refine qn F (congrArg not hb648) fun a F => ?_
      refine qn F (congrArg not hb648) fun a F => ?_
      refine q_nu F rfl (by decide) rfl (by decide) fun a F => ?_
      refine q_nu F rfl (by decide) rfl (by decide) fun a F => ?_
      refine q_nu F rfl (by decide) rfl (by decide) fun a F => ?_
      refine q_nu F rfl (by decide) rfl (by decide) fun a F => ?_
      as_aux_lemma =>
      refine qn F (congrArg not hb648) fun a F => ?_
      refine qv F (r_pick_f F rfl (congrArg not hb648) rfl) fun a F => ?_
      refine nil ?_
      exact J669 c642 w643 a false (F.sub ⟨rfl, rfl, rfl, rfl, rfl, rfl, rfl, rfl, rfl, rfl, rfl, rfl, trivial⟩) E B h17 h46 h88 h132 h4 h8 h11 h614 h550 h575 h578 h610 h613 H
     replace H := im hb648 H
     refine qy F (congrArg not (bfalse hb648)) ?_
     refine qm F fun a F => ?_
     obtain ⟨t166, q167, H⟩ := bind_some H
     refine qy F (congrArg not (bfalse hb648)) ?_
     refine qc F Try.func21 (shard_Shard_Export.calls k (m := m + 11) (pl hm0) B h614 lm ⟨lm, mm⟩ _ q167) ?_
     rintro e w650 ⟨c649, A653, C654, rfl, E651, B652, h655⟩
     refine ⟨_, rfl, fun a F => ?_⟩
     have B := B652
     replace h17 := h17.ev E651 nq
     as_aux_lemma =>
     replace h46 := h46.ev E651 nq
     replace h88 := h88.ev E651 nq
     replace h132 := h132.ev E651 nq
     replace h4 := h4.ev E651 nq nq
     replace h8 := h8.ev E651 nq nq
     replace h11 := h11.ev E651 nq nq
     replace h614 := h614.ev E651 nq nq nq
     replace h550 := h550.ev E651 nq
     replace h575 := h575.ev E651 nq nq
     replace h578 := h578.ev E651 nq nq
     replace h595 := h595.ev E651 nq nq
     replace h610 := h610.ev E651 nq nq
     replace h613 := h613.ev E651 nq nq
     replace E := E.trans E651 nx
     as_aux_lemma =>
     refine qy F (congrArg not (bfalse hb648)) ?_
     refine qm F fun a F => ?_
     obtain ⟨t176, q177, H⟩ := bind_some H
     refine qy F (congrArg not (bfalse hb648)) ?_
     refine qc F Try.func23 (haulagelaw14_same.calls k (m := m + 11) (pl hm0) B h655 h595 _ q177) ?_
     rintro e w658 ⟨c657, rfl, E659, B660⟩
     refine ⟨_, rfl, fun a F => ?_⟩
     have B := B660
     replace h17 := h17.ev E659 nq
     replace h46 := h46.ev E659 nq
     replace h88 := h88.ev E659 nq
     replace h132 := h132.ev E659 nq
     replace h4 := h4.ev E659 nq nq
     replace h8 := h8.ev E659 nq nq
     as_aux_lemma =>
     replace h11 := h11.ev E659 nq nq
     replace h614 := h614.ev E659 nq nq nq
     replace h550 := h550.ev E659 nq
     replace h575 := h575.ev E659 nq nq
     replace h578 := h578.ev E659 nq nq
     replace h610 := h610.ev E659 nq nq
     replace h613 := h613.ev E659 nq nq
     replace E := E.trans E659 nx
     refine qy F (congrArg not (bfalse hb648)) ?_
     refine qv F (r_not F rfl) fun a F => ?_
     refine qy F (congrArg not (bfalse hb648)) ?_
     refine qm F fun a F => ?_
     by_cases hb662 : t176 = true
     ·replace H := ip hb662 H
      refine qy F (congrArg not hb662) ?_
      as_aux_lemma =>
      refine qm F fun a F => ?_
      obtain ⟨t184, q185, H⟩ := bind_some H
      refine qy F (congrArg not hb662) ?_
      refine qc F Try.func22 (shard_Shard_Root.calls k (m := m + 11) (pl hm0) B h614 lm ⟨lm, mm⟩ _ q185) ?_
      rintro e w664 ⟨c663, rfl, E665, B666⟩
      refine ⟨_, rfl, fun a F => ?_⟩
      have B := B666
      replace h17 := h17.ev E665 nq
      replace h46 := h46.ev E665 nq
      replace h88 := h88.ev E665 nq
      replace h132 := h132.ev E665 nq
      replace h4 := h4.ev E665 nq nq
      replace h8 := h8.ev E665 nq nq
      replace h11 := h11.ev E665 nq nq
      as_aux_lemma =>
      replace h614 := h614.ev E665 nq nq nq
      replace h550 := h550.ev E665 nq
      replace h575 := h575.ev E665 nq nq
      replace h578 := h578.ev E665 nq nq
      replace h610 := h610.ev E665 nq nq
      replace h613 := h613.ev E665 nq nq
      replace E := E.trans E665 nx
      refine qy F (congrArg not hb662) ?_
      refine qm F fun a F => ?_
      refine qy F (congrArg not hb662) ?_
      refine qv F (r_neq F rfl rfl) fun a F => ?_
      refine qy F (congrArg not (bfalse hb648)) ?_
      refine qv F (r_pick_f F rfl (congrArg not hb662) rfl) fun a F => ?_
      refine qv F (r_pick_t F rfl (congrArg not (bfalse hb648)) rfl) fun a F => ?_
      as_aux_lemma =>
      refine nil ?_
      exact J669 c663 w664 a (!decide (t184 = t106)) (F.sub ⟨rfl, rfl, rfl, rfl, rfl, rfl, rfl, rfl, rfl, rfl, rfl, rfl, trivial⟩) E B h17 h46 h88 h132 h4 h8 h11 h614 h550 h575 h578 h610 h613 H
     replace H := im hb662 H
     refine qn F (congrArg not (bfalse hb662)) fun a F => ?_
     refine qn F (congrArg not (bfalse hb662)) fun a F => ?_
     refine qn F (congrArg not (bfalse hb662)) fun a F => ?_
     refine qn F (congrArg not (bfalse hb662)) fun a F => ?_
     refine qy F (congrArg not (bfalse hb648)) ?_
     refine qv F (r_pick_t F rfl (congrArg not (bfalse hb662)) rfl) fun a F => ?_
     refine qv F (r_pick_t F rfl (congrArg not (bfalse hb648)) rfl) fun a F => ?_
     refine nil ?_
     exact J669 c657 w658 a true (F.sub ⟨rfl, rfl, rfl, rfl, rfl, rfl, rfl, rfl, rfl, rfl, rfl, rfl, trivial⟩) E B h17 h46 h88 h132 h4 h8 h11 h614 h550 h575 h578 h610 h613 H
    refine reg ?_
    refine qm F fun a F => ?_
    obtain ⟨t146, q147, H⟩ := bind_some H
    as_aux_lemma =>
    refine qc F Try.func11 (haulagelaw14_num.calls (m := m + 11) (pl hm0) B _ q147) ?_
    rintro e w632 ⟨c631, rfl, E633, B634⟩
    refine ⟨_, rfl, fun a F => ?_⟩
    have B := B634
    replace h17 := h17.ev E633 nq
    replace h46 := h46.ev E633 nq
    replace h88 := h88.ev E633 nq
    replace h132 := h132.ev E633 nq
    replace h4 := h4.ev E633 nq nq
    replace h8 := h8.ev E633 nq nq
    replace h11 := h11.ev E633 nq nq
    replace h614 := h614.ev E633 nq nq nq
    replace h550 := h550.ev E633 nq
    replace h575 := h575.ev E633 nq nq
    as_aux_lemma =>
    replace h578 := h578.ev E633 nq nq
    replace h595 := h595.ev E633 nq nq
    replace h610 := h610.ev E633 nq nq
    replace h613 := h613.ev E633 nq nq
    replace E := E.trans E633 nx
    refine qv F (r_neq F rfl rfl) fun a F => ?_
    refine qm F fun a F => ?_
    by_cases hb636 : t146 = 0
    ·replace H := ip hb636 H
     refine qn F (congrArg not (dt hb636)) fun a F => ?_
     refine qn F (congrArg not (dt hb636)) fun a F => ?_
     refine q_nu F rfl (by decide) rfl (by decide) fun a F => ?_
     refine q_nu F rfl (by decide) rfl (by decide) fun a F => ?_
     refine q_nu F rfl (by decide) rfl (by decide) fun a F => ?_
     refine qn F (congrArg not (dt hb636)) fun a F => ?_
     as_aux_lemma =>
     refine qn F (congrArg not (dt hb636)) fun a F => ?_
     refine q_nu F rfl (by decide) rfl (by decide) fun a F => ?_
     refine q_nu F rfl (by decide) rfl (by decide) fun a F => ?_
     refine qn F (congrArg not (dt hb636)) fun a F => ?_
     refine qn F (congrArg not (dt hb636)) fun a F => ?_
     refine q_nu F rfl (by decide) rfl (by decide) fun a F => ?_
     refine q_nu F rfl (by decide) rfl (by decide) fun a F => ?_
     refine q_nu F rfl (by decide) rfl (by decide) fun a F => ?_
     refine q_nu F rfl (by decide) rfl (by decide) fun a F => ?_
     refine qn F (congrArg not (dt hb636)) fun a F => ?_
     refine qv F (r_pick_f F rfl (congrArg not (dt hb636)) rfl) fun a F => ?_
     refine nil ?_
     exact J641 c631 w632 a false (F.sub ⟨rfl, rfl, rfl, rfl, rfl, rfl, rfl, rfl, rfl, rfl, rfl, rfl, rfl, rfl, trivial⟩) E B h17 h46 h88 h132 h4 h8 h11 h614 h550 h575 h578 h595 h610 h613 H
    replace H := im hb636 H
    as_aux_lemma =>
    refine qy F (congrArg not (dz hb636)) ?_
    refine qm F fun a F => ?_
    refine qy F (congrArg not (dz hb636)) ?_
    refine qm F fun a F => ?_
    by_cases hb637 : t114.2.1 = true
    ·replace H := ip hb637 H
     refine qn F hb637 fun a F => ?_
     refine qn F hb637 fun a F => ?_
     refine qn F hb637 fun a F => ?_
     refine qy F (congrArg not (dz hb636)) ?_
     refine qv F (r_pick_t F rfl hb637 rfl) fun a F => ?_
     refine qy F (congrArg not (dz hb636)) ?_
     refine qm F fun a F => ?_
     refine qn F rfl fun a F => ?_
     refine qn F rfl fun a F => ?_
     as_aux_lemma =>
     refine qy F (congrArg not (dz hb636)) ?_
     refine qv F (r_pick_t F rfl rfl rfl) fun a F => ?_
     refine qy F (congrArg not (dz hb636)) ?_
     refine qm F fun a F => ?_
     refine qn F rfl fun a F => ?_
     refine qn F rfl fun a F => ?_
     refine qn F rfl fun a F => ?_
     refine qn F rfl fun a F => ?_
     refine qy F (congrArg not (dz hb636)) ?_
     refine qv F (r_pick_t F rfl rfl rfl) fun a F => ?_
     refine qv F (r_pick_t F rfl (congrArg not (dz hb636)) rfl) fun a F => ?_
     refine nil ?_
     exact J641 c631 w632 a true (F.sub ⟨rfl, rfl, rfl, rfl, rfl, rfl, rfl, rfl, rfl, rfl, rfl, rfl, rfl, rfl, trivial⟩) E B h17 h46 h88 h132 h4 h8 h11 h614 h550 h575 h578 h595 h610 h613 H
    replace H := im hb637 H
    as_aux_lemma =>
    refine qy F (bfalse hb637) ?_
    refine qf F ff_34_4 fun a F => ?_
    refine qy F (bfalse hb637) ?_
    refine qv F (r_load F rfl ag_3 (AT.cell h132 rfl)) fun a F => ?_
    refine qy F (bfalse hb637) ?_
    refine qv F (r_neq F rfl rfl) fun a F => ?_
    refine qy F (congrArg not (dz hb636)) ?_
    refine qv F (r_pick_f F rfl (bfalse hb637) rfl) fun a F => ?_
    refine qy F (congrArg not (dz hb636)) ?_
    refine qm F fun a F => ?_
    by_cases hb638 : t114.1.At = 0
    ·replace H := ip hb638 H
     refine qy F (congrArg not (dt hb638)) ?_
     refine qf F ff_34_0 fun a F => ?_
     refine qy F (congrArg not (dt hb638)) ?_
     as_aux_lemma =>
     refine qv F (r_load F rfl ag_4 (AT.cell h132 rfl)) fun a F => ?_
     refine qy F (congrArg not (dz hb636)) ?_
     refine qv F (r_pick_f F rfl (congrArg not (dt hb638)) rfl) fun a F => ?_
     refine qy F (congrArg not (dz hb636)) ?_
     refine qm F fun a F => ?_
     by_cases hb639 : t114.1.Done = true
     ·replace H := ip hb639 H
      refine qn F hb639 fun a F => ?_
      refine qn F hb639 fun a F => ?_
      refine qn F hb639 fun a F => ?_
      refine qn F hb639 fun a F => ?_
      refine qy F (congrArg not (dz hb636)) ?_
      refine qv F (r_pick_t F rfl hb639 rfl) fun a F => ?_
      refine qv F (r_pick_t F rfl (congrArg not (dz hb636)) rfl) fun a F => ?_
      refine nil ?_
      exact J641 c631 w632 a true (F.sub ⟨rfl, rfl, rfl, rfl, rfl, rfl, rfl, rfl, rfl, rfl, rfl, rfl, rfl, rfl, trivial⟩) E B h17 h46 h88 h132 h4 h8 h11 h614 h550 h575 h578 h595 h610 h613 H
     as_aux_lemma =>
     replace H := im hb639 H
     refine qy F (bfalse hb639) ?_
     refine qf F ff_34_1 fun a F => ?_
     refine qy F (bfalse hb639) ?_
     refine qv F (r_load F rfl ag_28 (AT.cell h132 rfl)) fun a F => ?_
     refine qy F (bfalse hb639) ?_
     refine qv F (r_lensl F Try.underlying28 rfl) fun a F => ?_
     refine qy F (bfalse hb639) ?_
     refine qv F (r_gtr F rfl rfl) fun a F => ?_
     refine qy F (congrArg not (dz hb636)) ?_
     refine qv F (r_pick_f F rfl (bfalse hb639) rfl) fun a F => ?_
     refine qv F (r_pick_t F rfl (congrArg not (dz hb636)) rfl) fun a F => ?_
     refine nil ?_
     exact J641 c631 w632 a (decide (0 < (t114.1.Key.length : Int))) (F.sub ⟨rfl, rfl, rfl, rfl, rfl, rfl, rfl, rfl, rfl, rfl, rfl, rfl, rfl, rfl, trivial⟩) E B h17 h46 h88 h132 h4 h8 h11 h614 h550 h575 h578 h595 h610 h613 H
    as_aux_lemma =>
    replace H := im hb638 H
    refine qn F (congrArg not (dz hb638)) fun a F => ?_
    refine qn F (congrArg not (dz hb638)) fun a F => ?_
    refine qy F (congrArg not (dz hb636)) ?_
    refine qv F (r_pick_t F rfl (congrArg not (dz hb638)) rfl) fun a F => ?_
    refine qy F (congrArg not (dz hb636)) ?_
    refine qm F fun a F => ?_
    refine qn F rfl fun a F => ?_
    refine qn F rfl fun a F => ?_
    refine qn F rfl fun a F => ?_
    refine qn F rfl fun a F => ?_
    refine qy F (congrArg not (dz hb636)) ?_
    refine qv F (r_pick_t F rfl rfl rfl) fun a F => ?_
    refine qv F (r_pick_t F rfl (congrArg not (dz hb636)) rfl) fun a F => ?_
    as_aux_lemma =>
    refine nil ?_
    exact J641 c631 w632 a true (F.sub ⟨rfl, rfl, rfl, rfl, rfl, rfl, rfl, rfl, rfl, rfl, rfl, rfl, rfl, rfl, trivial⟩) E B h17 h46 h88 h132 h4 h8 h11 h614 h550 h575 h578 h595 h610 h613 H
   refine reg ?_
   refine qf F ff_32_2 fun a F => ?_
   refine qv F (r_load F rfl ag_3 (AT.cell h88 rfl)) fun a F => ?_
   refine qv F (r_geq F rfl rfl) fun a F => ?_
   refine qm F fun a F => ?_
   by_cases hb624 : 0 ≤ ((rd a1 i548).Client)
   ·replace H := ip hb624 H
    refine qy F (dt hb624) ?_
    refine qf F ff_32_2 fun a F => ?_
    refine qy F (dt hb624) ?_
    refine qv F (r_load F rfl ag_3 (AT.cell h88 rfl)) fun a F => ?_
    refine qy F (dt hb624) ?_
    refine qv F (r_lss F rfl rfl) fun a F => ?_
    as_aux_lemma =>
    refine qv F (r_pick_t F rfl (dt hb624) rfl) fun a F => ?_
    refine qa F fun a F => ?_
    refine nil ?_
    exact J626 c616 w620 a (decide (((rd a1 i548).Client) < 16)) (F.sub ⟨rfl, rfl, rfl, rfl, rfl, rfl, rfl, rfl, rfl, rfl, rfl, rfl, rfl, trivial⟩) E B h17 h46 h88 h132 h4 h8 h11 h614 h550 h575 h578 h595 h610 h613 H
   replace H := im hb624 H
   refine qn F (dz hb624) fun a F => ?_
   refine qn F (dz hb624) fun a F => ?_
   refine qn F (dz hb624) fun a F => ?_
   refine qv F (r_pick_f F rfl (dz hb624) rfl) fun a F => ?_
   refine qa F fun a F => ?_
   refine nil ?_
   exact J626 c616 w620 a false (F.sub ⟨rfl, rfl, rfl, rfl, rfl, rfl, rfl, rfl, rfl, rfl, rfl, rfl, rfl, trivial⟩) E B h17 h46 h88 h132 h4 h8 h11 h614 h550 h575 h578 h595 h610 h613 H
  replace H := im hb564 H
  refine wp_cond_false (fb F (dz hb564)) ?_
  as_aux_lemma =>
  refine wp_exit ?_
  refine thenE ?_
  refine thenE ?_
  refine inbE ?_
  have hx_ := HD556 _ (si H).symm
  have H := HR560
  rw [← hx_] at H
  exact J1012 c552 w553 a o546 l551 cs549 (F.sub ⟨rfl, rfl, rfl, trivial⟩) E B h17 h46 h8 h11 h545 h550 H
 replace H := im hb29 H
 refine wp_cond_true (fb F (congrArg not (bfalse hb29))) ?_
 refine wp_seq_k fun K30 hK30 => reg ?_
 refine qa F fun a F => ?_
 refine nil (hK30 _ _ ?_)
 refine wp_ret ?_
 as_aux_lemma =>
 refine thenR ?_
 replace H := si H
 subst H
 refine out1 F rfl rfl ?_
 exact ⟨cf (fun x_ => if x_ < m then x_ else 0) c24, rfl, E.lv B0, cfb⟩
end Go.Proofs.Ythankpjbfpcldaa.G
namespace Go.Proofs.Ythankpjbfpcldaa.G
open Go Go.ChangeShapes Go.WideShapes
set_option linter.unusedVariables false
set_option linter.unusedSimpArgs false
theorem bulk_one {H : Type} (d : DataW H) : 1 ≤ Rows.uptoBulk d := by
  cases d with
  | lit l => cases l <;> simp [Rows.uptoBulk]
  | nil => simp [Rows.uptoBulk]
  | ptr d => simp [Rows.uptoBulk]
  | slice elems spare => simp [Rows.uptoBulk]
  | agg parts => simp [Rows.uptoBulk]
  | iface t d => simp [Rows.uptoBulk]
  | map entries => simp [Rows.uptoBulk]
  | held h => simp [Rows.uptoBulk]
theorem bulk_slice {H : Type} (elems spare : List (DataW H)) : Rows.uptoBulkAll elems + 1 ≤ Rows.uptoBulk (.slice elems spare) := by
  simp only [Rows.uptoBulk]
  omega
theorem bulk_agg {H : Type} (parts : List (DataW H)) : Rows.uptoBulkAll parts + 1 ≤ Rows.uptoBulk (.agg parts) := by
  simp only [Rows.uptoBulk]
  omega
theorem bulk_all {H : Type} : ∀ l : List (DataW H), Rows.uptoBulkAll l = (l.map Rows.uptoBulk).sum
  | [] => by simp [Rows.uptoBulkAll]
  | d :: l => by simp [Rows.uptoBulkAll, bulk_all l]
def c0 : Nat → Nat := fun _ => 0
def Opens {α : Type} (P : Program) (w : World) (t : TypeId) (e : K α) (wt : α → Nat) (ok : α → Prop) : Prop :=
  ∀ (H : Type) (enc : TypeId × Value → H) (fuel : Nat) (cs : List Value) (x : DataW H × List MemPlace), DataW.trod enc P w 0 (fun _ => true) true fuel t cs = some x → ∃ y, e.rep 0 c0 w cs y ∧ wt y ≤ Rows.uptoBulk x.1 ∧ ok y
section
variable {α : Type} {P : Program} {w : World} {t u : TypeId} {e : K α} {wt : α → Nat} {ok : α → Prop}
theorem opens_int {k : IntKind} (ht : P.underlying t = some (.int k)) : Opens P w t (Kint k) (fun _ => 1) (fun n => (Lit.int k n).wf = true) := by
  intro H enc fuel cs x h
  obtain ⟨n, rfl, rfl, hw⟩ := DataW.trod_int ht h
  exact ⟨n, rfl, bulk_one _, hw⟩
theorem at_cell {p : Addr} {v : Value} (h : w.cell? p = some v) : p = ⟨p.block, p.off, none⟩ ∧ ∃ cur ty fz, w.heap[p.block]? = some (.cells cur ty fz) ∧ cur[p.off]? = some v := by
  obtain ⟨b, off, spot⟩ := p
  simp only [World.cell?] at h
  split at h
  · rename_i c ty fz hb
    cases spot with
    | some s => simp at h
    | none => exact ⟨rfl, c, ty, fz, hb, by simpa using h⟩
  · cases h
theorem at_cells {p : Addr} {n : Nat} {cs : List Value} (hn : cs.length = n) (hp : 0 < n) (h : ∀ i, i < n → w.cell? (p.add i) = cs[i]?) : AT false 0 c0 w p cs := by
  have h0 := h 0 hp
  have e0 : p.add 0 = p := by simp [Addr.add]
  rw [e0, List.getElem?_eq_getElem (by omega)] at h0
  obtain ⟨ep, cur, ty, fz, hb, hc⟩ := at_cell h0
  refine ⟨p.block, p.off, cur, ty, fz, ep, hb, rfl, fun k hk => ?_, fun q => by cases q⟩
  have hk' := h k (by omega)
  rw [ep, add_eq] at hk'
  simp only [World.cell?, hb] at hk'
  simpa using hk'
theorem sum_le {β γ : Type} (f : β → Nat) (g : γ → Nat) : ∀ (l : List β) (m : List γ), l.length = m.length → (∀ i (h : i < l.length) (h' : i < m.length), f l[i] ≤ g m[i]) → (l.map f).sum ≤ (m.map g).sum
  | [], [], _, _ => Nat.le_refl _
  | [], _ :: _, h, _ => by simp at h
  | _ :: _, [], h, _ => by simp at h
  | a :: l, b :: m, h, hh => by
    simp only [List.map_cons, List.sum_cons]
    have h0 := hh 0 (by simp) (by simp)
    simp only [List.getElem_cons_zero] at h0
    have := sum_le f g l m (by simpa using h) (fun i h1 h2 => by
      have := hh (i + 1) (by simp; omega) (by simp; omega)
      simpa using this)
    omega
theorem open_sl [Inhabited α] (ht : P.underlying t = some (.slice u)) (hc : P.cellsOf u = e.sz) (hu : Opens P w u e wt ok) {H : Type} {enc : TypeId × Value → H} {fuel : Nat} {cs : List Value} {x : DataW H × List MemPlace}
    (h : DataW.trod enc P w 0 (fun _ => true) true fuel t cs = some x) :
    ∃ A cap xs, cs = [.slice A xs.length cap] ∧ SL false e 0 0 c0 w A cap xs ∧ (xs.map wt).sum + 1 ≤ Rows.uptoBulk x.1 ∧ ∀ y ∈ xs, ok y := by
  rcases Deep.open_slice ht h with ⟨rfl, rfl⟩ | ⟨a, len, cap, m, n, D, Pl, rfl, _, hl, hm, hmm, rfl, hx⟩
  · exact ⟨none, 0, [], rfl, SL.nil, by simp [Rows.uptoBulk], fun y hy => by cases hy⟩
  simp only [if_true] at hmm
  subst hmm
  have hp := e.pos
  rw [hc] at hx
  have each : ∀ i, i < m → ∃ y : List Value × α, (y.1.length = e.sz ∧ ∀ k, k < e.sz → w.cell? ((a.add (i * e.sz)).add k) = y.1[k]?) ∧ e.rep 0 c0 w y.1 y.2 ∧ wt y.2 ≤ Rows.uptoBulk (D i) ∧ ok y.2 := by
    intro i hi
    obtain ⟨cs', h1, h2⟩ := hx i hi
    obtain ⟨_, g1, g2⟩ := World.cells?_some h1
    obtain ⟨y, g3, g4, g5⟩ := hu H enc n cs' _ h2
    exact ⟨(cs', y), ⟨g1, g2⟩, g3, g4, g5⟩
  obtain ⟨y, hy⟩ := Deep.choose_lt each
  let V : Nat → Value := fun q => (y (q / e.sz)).1.getD (q % e.sz) default
  have hV : ∀ i k, k < e.sz → V (i * e.sz + k) = (y i).1.getD k default := by
    intro i k hk
    show (y ((i * e.sz + k) / e.sz)).1.getD ((i * e.sz + k) % e.sz) default = _
    rw [Nat.mul_comm, Nat.mul_add_div hp, Nat.div_eq_of_lt hk, Nat.add_zero, Nat.mul_add_mod, Nat.mod_eq_of_lt hk]
  let cs := (List.range (m * e.sz)).map V
  have hcs : cs.length = m * e.sz := by simp [cs]
  have hcell : ∀ q, q < m * e.sz → w.cell? (a.add q) = cs[q]? := by
    intro q hq
    have hi : q / e.sz < m := (Nat.div_lt_iff_lt_mul hp).2 hq
    have hk : q % e.sz < e.sz := Nat.mod_lt _ hp
    obtain ⟨⟨g1, g2⟩, _⟩ := hy _ hi
    have g := g2 _ hk
    have e1 : (a.add (q / e.sz * e.sz)).add (q % e.sz) = a.add q := by
      have e2 : q / e.sz * e.sz + q % e.sz = q := Nat.div_add_mod' q e.sz
      obtain ⟨b, off, s⟩ := a
      simp only [Addr.add]
      split <;> split <;> split <;> simp_all <;> omega
    rw [e1] at g
    rw [g]
    simp only [cs, List.getElem?_map, List.getElem?_range hq, Option.map_some]
    show _ = some ((y (q / e.sz)).1.getD (q % e.sz) default)
    rw [List.getD_eq_getElem?_getD, List.getElem?_eq_getElem (by omega)]
    rfl
  refine ⟨some a, m, (List.range len).map fun i => (y i).2, by simp, ⟨cs, by simpa using hl, hm, hcs, ?_, fun n hn => ?_⟩, ?_, ?_⟩
  · rcases Nat.eq_zero_or_pos (m * e.sz) with q | q
    · left; exact List.length_eq_zero_iff.1 (by omega)
    · right; exact ⟨a, rfl, at_cells hcs q hcell⟩
  · simp only [List.length_map, List.length_range] at hn
    obtain ⟨⟨g1, _⟩, g3, _, _⟩ := hy n (by omega)
    have e1 : (cs.drop (n * e.sz)).take e.sz = (y n).1 := by
      apply List.ext_getElem?
      intro k
      by_cases hk : k < e.sz
      · have hq : n * e.sz + k < m * e.sz := by
          have : (n + 1) * e.sz ≤ m * e.sz := Nat.mul_le_mul_right _ (by omega)
          rw [Nat.succ_mul] at this; omega
        rw [List.getElem?_take_of_lt hk, List.getElem?_drop]
        simp only [cs, List.getElem?_map, List.getElem?_range hq, Option.map_some]
        rw [hV n k hk, List.getD_eq_getElem?_getD, List.getElem?_eq_getElem (by omega)]
        rfl
      · rw [List.getElem?_eq_none (by simp; omega), List.getElem?_eq_none (by omega)]
    rw [e1]
    simpa using g3
  · refine Nat.le_trans (Nat.succ_le_succ ?_) (bulk_slice _ _)
    rw [bulk_all]
    rw [List.map_map, List.map_map]
    have := sum_le (fun i => wt (y i).2) (fun i => Rows.uptoBulk (D i)) (List.range len) (List.range len) rfl (fun i h1 h2 => by
      simp only [List.length_range] at h1
      simp only [List.getElem_range]
      exact (hy i (by omega)).2.2.1)
    exact this
  · intro z hz
    obtain ⟨i, hi, rfl⟩ := List.mem_map.1 hz
    exact (hy i (by have := List.mem_range.1 hi; omega)).2.2.2
theorem opens_slice [Inhabited α] (ht : P.underlying t = some (.slice u)) (hc : P.cellsOf u = e.sz) (hu : Opens P w u e wt ok) : Opens P w t (Kslice e) (fun xs => (xs.map wt).sum + 1) (fun xs => ∀ y ∈ xs, ok y) := by
  intro H enc fuel cs x h
  obtain ⟨A, cap, xs, h1, h2, h3, h4⟩ := open_sl ht hc hu h
  exact ⟨xs, ⟨A, cap, h1, h2⟩, h3, h4⟩
end
end Go.Proofs.Ythankpjbfpcldaa.G
namespace Go.Proofs.Ythankpjbfpcldaa.G
open Go Go.ChangeShapes Go.WideShapes
set_option linter.unusedVariables false
theorem row_own : ownKnob Try.prog.godebug = none := by kernel_rfl
theorem row_laidOut : laidOutB Try.prog = true := by kernel_rfl
def intok (n : Int) : Prop := (Lit.int .i64 n).wf = true
def byteok (n : Int) : Prop := (Lit.int .u8 n).wf = true
def bytesok (xs : List Int) : Prop := ∀ n ∈ xs, byteok n
theorem sum_one {α : Type} (xs : List α) : (xs.map fun _ => 1).sum = xs.length := by
  induction xs with
  | nil => rfl
  | cons x xs ih => simp [ih]; omega
theorem len_sum {α : Type} (f : α → Nat) (hf : ∀ x, 1 ≤ f x) : ∀ xs : List α, xs.length ≤ (xs.map f).sum
  | [] => Nat.le_refl _
  | x :: xs => by have := len_sum f hf xs; have := hf x; simp only [List.map_cons, List.sum_cons, List.length_cons]; omega
theorem cells_3 : Try.prog.cellsOf 3 = 1 := by kernel_rfl
theorem cells_5 : Try.prog.cellsOf 5 = 1 := by kernel_rfl
theorem cells_28 : Try.prog.cellsOf 28 = 1 := by kernel_rfl
theorem cells_30 : Try.prog.cellsOf 30 = 4 := by kernel_rfl
theorem cells_32 : Try.prog.cellsOf 32 = 8 := by kernel_rfl
theorem opens_bytes {w : World} : Opens Try.prog w 28 (Kslice (Kint .u8)) (fun xs => xs.length + 1) bytesok := by
  intro H enc fuel cs x h
  obtain ⟨y, h1, h2, h3⟩ := opens_slice (e := Kint .u8) Try.underlying28 cells_5 (opens_int Try.underlying5) H enc fuel cs x h
  have h2' : (y.map fun _ => 1).sum + 1 ≤ Rows.uptoBulk x.1 := h2
  rw [sum_one] at h2'
  exact ⟨y, h1, h2', h3⟩
abbrev wt_api_Op (o : api_Op) : Nat := o.Key.length + o.Value.length + 1
def ok_api_Op (o : api_Op) : Prop := intok o.Kind ∧ bytesok o.Key ∧ bytesok o.Value ∧ intok o.Rev
set_option maxRecDepth 100000 in
theorem opens_api_Op {w : World} : Opens Try.prog w 30 K_api_Op wt_api_Op ok_api_Op := by
  intro H enc fuel cs x h
  obtain ⟨xs, n, rfl, rfl, hl, hxl, hf⟩ := DataW.trod_struct Try.underlying30 h
  rw [cells_30] at hl
  match cs, hl with
  | [v0, v1, v2, v3], _ =>
    match xs, hxl with
    | [x0, x1, x2, x3], _ =>
      have g0 : DataW.trod enc Try.prog w 0 (fun _ => true) true n 3 (([v0, v1, v2, v3].drop 0).take (Try.prog.cellsOf 3)) = some x0 := hf 0 _ rfl
      rw [cells_3] at g0
      replace g0 : DataW.trod enc Try.prog w 0 (fun _ => true) true n 3 [v0] = some x0 := g0
      obtain ⟨y0, r0, -, k0⟩ := opens_int (w := w) Try.underlying3 H enc n _ _ g0
      have g1 : DataW.trod enc Try.prog w 0 (fun _ => true) true n 28 (([v0, v1, v2, v3].drop 1).take (Try.prog.cellsOf 28)) = some x1 := hf 1 _ rfl
      rw [cells_28] at g1
      replace g1 : DataW.trod enc Try.prog w 0 (fun _ => true) true n 28 [v1] = some x1 := g1
      obtain ⟨y1, ⟨A1, C1, e1, s1⟩, b1, k1⟩ := opens_bytes (w := w) H enc n _ _ g1
      have g2 : DataW.trod enc Try.prog w 0 (fun _ => true) true n 28 (([v0, v1, v2, v3].drop 2).take (Try.prog.cellsOf 28)) = some x2 := hf 2 _ rfl
      rw [cells_28] at g2
      replace g2 : DataW.trod enc Try.prog w 0 (fun _ => true) true n 28 [v2] = some x2 := g2
      obtain ⟨y2, ⟨A2, C2, e2, s2⟩, b2, k2⟩ := opens_bytes (w := w) H enc n _ _ g2
      have g3 : DataW.trod enc Try.prog w 0 (fun _ => true) true n 3 (([v0, v1, v2, v3].drop 3).take (Try.prog.cellsOf 3)) = some x3 := hf 3 _ rfl
      rw [cells_3] at g3
      replace g3 : DataW.trod enc Try.prog w 0 (fun _ => true) true n 3 [v3] = some x3 := g3
      obtain ⟨y3, r3, -, k3⟩ := opens_int (w := w) Try.underlying3 H enc n _ _ g3
      obtain rfl : v0 = .int .i64 y0 := List.head_eq_of_cons_eq r0
      obtain rfl := List.head_eq_of_cons_eq e1
      obtain rfl := List.head_eq_of_cons_eq e2
      obtain rfl : v3 = .int .i64 y3 := List.head_eq_of_cons_eq r3
      refine ⟨⟨y0, y1, y2, y3⟩, ⟨A1, C1, A2, C2, rfl, s1, s2⟩, ?_, ⟨k0, k1, k2, k3⟩⟩
      refine Nat.le_trans ?_ (bulk_agg _)
      simp only [List.map_cons, List.map_nil, Rows.uptoBulkAll]
      have q0 := bulk_one x0.1
      have q1 : y1.length + 1 ≤ Rows.uptoBulk x1.1 := b1
      have q2 : y2.length + 1 ≤ Rows.uptoBulk x2.1 := b2
      have q3 := bulk_one x3.1
      show y1.length + y2.length + 1 ≤ _
      omega
abbrev wt_haulagelaw14_Step (o : haulagelaw14_Step) : Nat := wt_api_Op o.Op + 1
def ok_haulagelaw14_Step (o : haulagelaw14_Step) : Prop := intok o.Who ∧ intok o.Kind ∧ intok o.Client ∧ intok o.Seq ∧ ok_api_Op o.Op
set_option maxRecDepth 100000 in
theorem opens_haulagelaw14_Step {w : World} : Opens Try.prog w 32 K_haulagelaw14_Step wt_haulagelaw14_Step ok_haulagelaw14_Step := by
  intro H enc fuel cs x h
  obtain ⟨xs, n, rfl, rfl, hl, hxl, hf⟩ := DataW.trod_struct Try.underlying32 h
  rw [cells_32] at hl
  match cs, hl with
  | [v0, v1, v2, v3, v4, v5, v6, v7], _ =>
    match xs, hxl with
    | [x0, x1, x2, x3, x4], _ =>
      have g0 : DataW.trod enc Try.prog w 0 (fun _ => true) true n 3 (([v0, v1, v2, v3, v4, v5, v6, v7].drop 0).take (Try.prog.cellsOf 3)) = some x0 := hf 0 _ rfl
      rw [cells_3] at g0
      replace g0 : DataW.trod enc Try.prog w 0 (fun _ => true) true n 3 [v0] = some x0 := g0
      obtain ⟨y0, r0, -, k0⟩ := opens_int (w := w) Try.underlying3 H enc n _ _ g0
      have g1 : DataW.trod enc Try.prog w 0 (fun _ => true) true n 3 (([v0, v1, v2, v3, v4, v5, v6, v7].drop 1).take (Try.prog.cellsOf 3)) = some x1 := hf 1 _ rfl
      rw [cells_3] at g1
      replace g1 : DataW.trod enc Try.prog w 0 (fun _ => true) true n 3 [v1] = some x1 := g1
      obtain ⟨y1, r1, -, k1⟩ := opens_int (w := w) Try.underlying3 H enc n _ _ g1
      have g2 : DataW.trod enc Try.prog w 0 (fun _ => true) true n 3 (([v0, v1, v2, v3, v4, v5, v6, v7].drop 2).take (Try.prog.cellsOf 3)) = some x2 := hf 2 _ rfl
      rw [cells_3] at g2
      replace g2 : DataW.trod enc Try.prog w 0 (fun _ => true) true n 3 [v2] = some x2 := g2
      obtain ⟨y2, r2, -, k2⟩ := opens_int (w := w) Try.underlying3 H enc n _ _ g2
      have g3 : DataW.trod enc Try.prog w 0 (fun _ => true) true n 3 (([v0, v1, v2, v3, v4, v5, v6, v7].drop 3).take (Try.prog.cellsOf 3)) = some x3 := hf 3 _ rfl
      rw [cells_3] at g3
      replace g3 : DataW.trod enc Try.prog w 0 (fun _ => true) true n 3 [v3] = some x3 := g3
      obtain ⟨y3, r3, -, k3⟩ := opens_int (w := w) Try.underlying3 H enc n _ _ g3
      have g4 : DataW.trod enc Try.prog w 0 (fun _ => true) true n 30 (([v0, v1, v2, v3, v4, v5, v6, v7].drop 4).take (Try.prog.cellsOf 30)) = some x4 := hf 4 _ rfl
      rw [cells_30] at g4
      replace g4 : DataW.trod enc Try.prog w 0 (fun _ => true) true n 30 [v4, v5, v6, v7] = some x4 := g4
      obtain ⟨y4, ⟨m4_0, m4_1, m4_2, m4_3, e4, s4_0, s4_1⟩, b4, k4⟩ := opens_api_Op (w := w) H enc n _ _ g4
      obtain rfl : v0 = .int .i64 y0 := List.head_eq_of_cons_eq r0
      obtain rfl : v1 = .int .i64 y1 := List.head_eq_of_cons_eq r1
      obtain rfl : v2 = .int .i64 y2 := List.head_eq_of_cons_eq r2
      obtain rfl : v3 = .int .i64 y3 := List.head_eq_of_cons_eq r3
      simp only [List.cons.injEq, and_true] at e4
      obtain ⟨rfl, rfl, rfl, rfl⟩ := e4
      refine ⟨⟨y0, y1, y2, y3, y4⟩, ⟨m4_0, m4_1, m4_2, m4_3, rfl, s4_0, s4_1⟩, ?_, ⟨k0, k1, k2, k3, k4⟩⟩
      refine Nat.le_trans ?_ (bulk_agg _)
      simp only [List.map_cons, List.map_nil, Rows.uptoBulkAll]
      have q0 := bulk_one x0.1
      have q1 := bulk_one x1.1
      have q2 := bulk_one x2.1
      have q3 := bulk_one x3.1
      have q4 : wt_api_Op y4 ≤ Rows.uptoBulk x4.1 := b4
      show wt_api_Op y4 + 1 ≤ _
      omega
theorem wt_haulagelaw14_Step_pos (o : haulagelaw14_Step) : 1 ≤ wt_haulagelaw14_Step o := by unfold wt_haulagelaw14_Step; omega
theorem arg_steps {H : Type} {enc : TypeId × Value → H} {w : World} {v : Value} {d : DataW H} {p : List MemPlace} (hv : ∃ a len cap, v = .slice a len cap) (h : DataW.Trod enc Try.prog w 0 (fun _ => true) true 22 v d p) :
    ∃ A C xs, v = .slice A xs.length C ∧ SL false K_haulagelaw14_Step 0 0 c0 w A C xs ∧ (xs.map wt_haulagelaw14_Step).sum + 1 ≤ Rows.uptoBulk d ∧ ∀ o ∈ xs, ok_haulagelaw14_Step o := by
  obtain ⟨a, len, cap, rfl⟩ := hv
  obtain ⟨fuel, hf⟩ := h
  obtain ⟨A, C, xs, e, h1, h2, h3⟩ := open_sl (e := K_haulagelaw14_Step) Try.underlying22 cells_32 opens_haulagelaw14_Step hf
  refine ⟨A, C, xs, ?_, h1, h2, h3⟩
  have e' : [Value.slice a len cap] = [.slice A xs.length C] := e
  exact List.head_eq_of_cons_eq e'
theorem arg_op {H : Type} {enc : TypeId × Value → H} {w : World} {v : Value} {d : DataW H} {p : List MemPlace} (hv : ∃ cs : Array Value, v = .agg cs ∧ cs.size = Try.prog.cellsOf 30) (h : DataW.Trod enc Try.prog w 0 (fun _ => true) true 30 v d p) :
    ∃ (A1 : Option Addr) (C2 : Nat) (A4 : Option Addr) (C5 : Nat) (y : api_Op), v = .agg #[.int .i64 y.Kind, .slice A1 y.Key.length C2, .slice A4 y.Value.length C5, .int .i64 y.Rev] ∧ SL false (Kint .u8) 0 0 c0 w A1 C2 y.Key ∧ SL false (Kint .u8) 0 0 c0 w A4 C5 y.Value ∧ wt_api_Op y ≤ Rows.uptoBulk d ∧ ok_api_Op y := by
  obtain ⟨cs, rfl, _⟩ := hv
  obtain ⟨fuel, hf⟩ := h
  obtain ⟨y, ⟨A1, C2, A4, C5, e, s0, s1⟩, b, k⟩ := opens_api_Op (w := w) H enc fuel _ _ hf
  exact ⟨A1, C2, A4, C5, y, congrArg Value.agg (Array.ext' (show cs.toList = (#[.int .i64 y.Kind, .slice A1 y.Key.length C2, .slice A4 y.Value.length C5, .int .i64 y.Rev] : Array Value).toList from e)), s0, s1, b, k⟩
end Go.Proofs.Ythankpjbfpcldaa.G
namespace Go.Proofs.Ythankpjbfpcldaa.G
open Go
set_option linter.unusedVariables false
set_option linter.unusedSimpArgs false
abbrev Ent := ByteArray × table_cell
def Tr.list : Tr → List Ent
  | .nil => []
  | .node l r k v _ _ => l.list ++ (k, v) :: r.list
def Tr.hgt : Tr → Nat
  | .nil => 0
  | .node l r _ _ _ _ => 1 + max l.hgt r.hgt
def Tr.WF : Tr → Prop
  | .nil => True
  | .node l r k v s d => l.WF ∧ r.WF ∧ s = ((Tr.node l r k v s d).list.length : Int) ∧ d = ((Tr.node l r k v s d).hgt : Int)
theorem Tr.hgt_le : ∀ t : Tr, t.hgt ≤ t.list.length
  | .nil => Nat.le_refl _
  | .node l r k v s d => by
    have := hgt_le l; have := hgt_le r
    simp only [Tr.hgt, Tr.list, List.length_append, List.length_cons]; omega
theorem len_eq {t : Tr} (h : t.WF) : tree_Tree_Len.f t = some (t.list.length : Int) := by
  cases t with
  | nil => rfl
  | node l r k v s d => show (if (Tr.node l r k v s d).isNil = true then some 0 else some s) = _; rw [if_neg (by simp [Tr.isNil])]; exact congrArg some h.2.2.1
theorem dep_eq {t : Tr} (h : t.WF) : tree_Tree_Depth.f t = some (t.hgt : Int) := by
  cases t with
  | nil => rfl
  | node l r k v s d => show (if (Tr.node l r k v s d).isNil = true then some 0 else some d) = _; rw [if_neg (by simp [Tr.isNil])]; exact congrArg some h.2.2.2
theorem wr {n : Int} (h0 : -1000000000000000000 ≤ n) (h1 : n ≤ 1000000000000000000) : IntKind.i64.wrap n = n := by rw [IntKind.wrap_i64]; omega
def big : Nat := 1099511627776
theorem node_eq {l r : Tr} {k : ByteArray} {v : table_cell} (hl : l.WF) (hr : r.WF) (hb : l.list.length + r.list.length < big) :
    ∃ t, tree_node.f l k v r = some t ∧ t.WF ∧ t.list = l.list ++ (k, v) :: r.list ∧ (∃ s d, t = .node l r k v s d) := by
  have h1 := l.hgt_le; have h2 := r.hgt_le
  unfold big at hb
  refine ⟨.node l r k v (l.list.length + 1 + r.list.length) (1 + max l.hgt r.hgt), ?_, ⟨hl, hr, ?_, ?_⟩, rfl, _, _, rfl⟩
  · simp only [tree_node.f, len_eq hl, len_eq hr, dep_eq hl, dep_eq hr, Option.bind_some]
    rw [wr (n := (l.list.length : Int) + 1) (by omega) (by omega), wr (by omega) (by omega), wr (by omega) (by omega)]
    simp; omega
  · simp only [Tr.list, List.length_append, List.length_cons]; omega
  · simp only [Tr.hgt]; omega
theorem turnL {l r : Tr} {k : ByteArray} {v : table_cell} {s d : Int} (hl : l.WF) (hr : r.WF) (hn : r.list ≠ []) (hb : l.list.length + r.list.length < big) :
    ∃ t, tree_turnLeft.f (.node l r k v s d) = some t ∧ t.WF ∧ t.list = l.list ++ (k, v) :: r.list := by
  cases r with
  | nil => exact absurd rfl hn
  | node rl rr rk rv rs rd =>
    obtain ⟨h1, h2, _⟩ := hr
    simp only [Tr.list, List.length_append, List.length_cons] at hb
    obtain ⟨a, ea, wa, la, _⟩ := node_eq (k := k) (v := v) hl h1 (by omega)
    obtain ⟨b, eb, wb, lb, _⟩ := node_eq (k := rk) (v := rv) wa h2 (by rw [la]; simp only [List.length_append, List.length_cons]; omega)
    refine ⟨b, ?_, wb, ?_⟩
    · simp only [tree_turnLeft.f, Tr.cs, ea, eb, Option.bind_some]
    · rw [lb, la]; simp [Tr.list]
theorem turnR {l r : Tr} {k : ByteArray} {v : table_cell} {s d : Int} (hl : l.WF) (hr : r.WF) (hn : l.list ≠ []) (hb : l.list.length + r.list.length < big) :
    ∃ t, tree_turnRight.f (.node l r k v s d) = some t ∧ t.WF ∧ t.list = l.list ++ (k, v) :: r.list := by
  cases l with
  | nil => exact absurd rfl hn
  | node rl rr rk rv rs rd =>
    obtain ⟨h1, h2, _⟩ := hl
    simp only [Tr.list, List.length_append, List.length_cons] at hb
    obtain ⟨a, ea, wa, la, _⟩ := node_eq (k := k) (v := v) h2 hr (by omega)
    obtain ⟨b, eb, wb, lb, _⟩ := node_eq (k := rk) (v := rv) h1 wa (by rw [la]; simp only [List.length_append, List.length_cons]; omega)
    refine ⟨b, ?_, wb, ?_⟩
    · simp only [tree_turnRight.f, Tr.cs, ea, eb, Option.bind_some]
    · rw [lb, la]; simp [Tr.list]
theorem hgt_pos {t : Tr} (h : 0 < t.hgt) : t.list ≠ [] := by
  cases t with
  | nil => simp [Tr.hgt] at h
  | node l r k v s d => simp [Tr.list]
theorem join_eq : ∀ (n : Nat) (l r : Tr) (k : ByteArray) (v : table_cell), l.hgt + r.hgt < n → l.WF → r.WF → l.list.length + r.list.length + 1 < big →
    ∃ t, tree_join.f n l k v r = some t ∧ t.WF ∧ t.list = l.list ++ (k, v) :: r.list
  | 0, _, _, _, _, h, _, _, _ => absurd h (by omega)
  | n + 1, l, r, k, v, hn, hl, hr, hb => by
    have h1 := l.hgt_le; have h2 := r.hgt_le
    have hb' := hb
    unfold big at hb'
    simp only [tree_join.f, dep_eq hl, dep_eq hr, Option.bind_some]
    rw [wr (n := (r.hgt : Int) + 1) (by omega) (by omega), wr (n := (l.hgt : Int) + 1) (by omega) (by omega)]
    by_cases c1 : (r.hgt : Int) + 1 < l.hgt
    · rw [if_pos c1]
      cases l with
      | nil => simp [Tr.hgt] at c1; omega
      | node ll lr lk lv ls ld =>
        obtain ⟨wl, wr', _, _⟩ := hl
        simp only [Tr.hgt] at hn
        simp only [Tr.list, List.length_append, List.length_cons] at hb
        obtain ⟨u, eu, wu, lu⟩ := join_eq n lr r k v (by omega) wr' hr (by omega)
        simp only [Tr.cs, eu, Option.bind_some]
        have hul : u.list.length = lr.list.length + r.list.length + 1 := by rw [lu]; simp; omega
        cases u with
        | nil => simp [Tr.list] at lu
        | node ul ur uk uv us ud =>
          have wu' := wu
          obtain ⟨wul, wur, hus, hud⟩ := wu
          simp only [dep_eq wl, dep_eq wul, dep_eq wur, Option.bind_some]
          have h3 := ll.hgt_le
          unfold big at hb
          rw [wr (n := (ll.hgt : Int) + 1) (by omega) (by omega)]
          have hull : ul.list.length + ur.list.length + 1 = lr.list.length + r.list.length + 1 := by rw [← hul]; simp [Tr.list]; omega
          split
          · split
            · rename_i c3
              obtain ⟨x, ex, wx, lx⟩ := turnR (k := uk) (v := uv) (s := us) (d := ud) wul wur (hgt_pos (by omega)) (by unfold big; omega)
              obtain ⟨y, ey, wy, ly, s', d', hy⟩ := node_eq (k := lk) (v := lv) wl wx (by rw [lx]; simp only [List.length_append, List.length_cons]; unfold big; omega)
              subst hy
              obtain ⟨z, ez, wz, lz⟩ := turnL (k := lk) (v := lv) (s := s') (d := d') wl wx (by rw [lx]; simp) (by rw [lx]; simp only [List.length_append, List.length_cons]; unfold big; omega)
              refine ⟨z, by simp only [ex, ey, ez, Option.bind_some], wz, ?_⟩
              have e1 : x.list = lr.list ++ (k, v) :: r.list := by rw [lx, ← lu]; simp [Tr.list]
              rw [lz, e1]; simp [Tr.list]
            · obtain ⟨y, ey, wy, ly, s', d', hy⟩ := node_eq (k := lk) (v := lv) wl wu' (by rw [hul]; unfold big; omega)
              subst hy
              obtain ⟨z, ez, wz, lz⟩ := turnL (k := lk) (v := lv) (s := s') (d := d') wl wu' (by simp [Tr.list]) (by rw [hul]; unfold big; omega)
              refine ⟨z, by simp only [ey, ez, Option.bind_some], wz, ?_⟩
              rw [lz, lu]; simp [Tr.list]
          · obtain ⟨y, ey, wy, ly, _⟩ := node_eq (k := lk) (v := lv) wl wu' (by rw [hul]; unfold big; omega)
            refine ⟨y, by simp only [ey, Option.bind_some], wy, ?_⟩
            rw [ly, lu]; simp [Tr.list]
    · rw [if_neg c1]
      by_cases c2 : (l.hgt : Int) + 1 < r.hgt
      · rw [if_pos c2]
        cases r with
        | nil => simp [Tr.hgt] at c2; omega
        | node rl rr rk rv rs rd =>
          obtain ⟨wl, wr', _, _⟩ := hr
          simp only [Tr.hgt] at hn
          simp only [Tr.list, List.length_append, List.length_cons] at hb
          obtain ⟨u, eu, wu, lu⟩ := join_eq n l rl k v (by omega) hl wl (by omega)
          simp only [Tr.cs, eu, Option.bind_some]
          have hul : u.list.length = l.list.length + rl.list.length + 1 := by rw [lu]; simp; omega
          cases u with
          | nil => simp [Tr.list] at lu
          | node ul ur uk uv us ud =>
            have wu' := wu
            obtain ⟨wul, wur, hus, hud⟩ := wu
            simp only [dep_eq wr', dep_eq wul, dep_eq wur, Option.bind_some]
            have h3 := rr.hgt_le
            unfold big at hb
            rw [wr (n := (rr.hgt : Int) + 1) (by omega) (by omega)]
            have hull : ul.list.length + ur.list.length + 1 = l.list.length + rl.list.length + 1 := by rw [← hul]; simp [Tr.list]; omega
            split
            · split
              · rename_i c3
                obtain ⟨x, ex, wx, lx⟩ := turnL (k := uk) (v := uv) (s := us) (d := ud) wul wur (hgt_pos (by omega)) (by unfold big; omega)
                obtain ⟨y, ey, wy, ly, s', d', hy⟩ := node_eq (k := rk) (v := rv) wx wr' (by rw [lx]; simp only [List.length_append, List.length_cons]; unfold big; omega)
                subst hy
                obtain ⟨z, ez, wz, lz⟩ := turnR (k := rk) (v := rv) (s := s') (d := d') wx wr' (by rw [lx]; simp) (by rw [lx]; simp only [List.length_append, List.length_cons]; unfold big; omega)
                refine ⟨z, by simp only [ex, ey, ez, Option.bind_some], wz, ?_⟩
                have e1 : x.list = l.list ++ (k, v) :: rl.list := by rw [lx, ← lu]; simp [Tr.list]
                rw [lz, e1]; simp [Tr.list]
              · obtain ⟨y, ey, wy, ly, s', d', hy⟩ := node_eq (k := rk) (v := rv) wu' wr' (by rw [hul]; unfold big; omega)
                subst hy
                obtain ⟨z, ez, wz, lz⟩ := turnR (k := rk) (v := rv) (s := s') (d := d') wu' wr' (by simp [Tr.list]) (by rw [hul]; unfold big; omega)
                refine ⟨z, by simp only [ey, ez, Option.bind_some], wz, ?_⟩
                rw [lz, lu]; simp [Tr.list]
            · obtain ⟨y, ey, wy, ly, _⟩ := node_eq (k := rk) (v := rv) wu' wr' (by rw [hul]; unfold big; omega)
              refine ⟨y, by simp only [ey, Option.bind_some], wy, ?_⟩
              rw [ly, lu]; simp [Tr.list]
      · rw [if_neg c2]
        obtain ⟨y, ey, wy, ly, _⟩ := node_eq (k := k) (v := v) hl hr (by omega)
        exact ⟨y, by simp only [ey, Option.bind_some], wy, ly⟩
theorem last_eq : ∀ (n : Nat) (t : Tr), 2 * t.list.length < n → t.WF → t.list ≠ [] → t.list.length < big →
    ∃ u k v, tree_last.f n t = some (u, k, v) ∧ u.WF ∧ t.list = u.list ++ [(k, v)]
  | 0, _, h, _, _, _ => absurd h (by omega)
  | n + 1, t, hn, ht, hne, hb => by
    cases t with
    | nil => exact absurd rfl hne
    | node l r k v s d =>
      obtain ⟨wl, wr', _, _⟩ := ht
      simp only [Tr.list, List.length_append, List.length_cons] at hn hb
      cases r with
      | nil => exact ⟨l, k, v, rfl, wl, by simp [Tr.list]⟩
      | node rl rr rk rv rs rd =>
        obtain ⟨u, k', v', e, wu, lu⟩ := last_eq n (.node rl rr rk rv rs rd) (by omega) wr' (by simp [Tr.list]) (by omega)
        have h1 := l.hgt_le; have h2 := u.hgt_le
        have hlen : (Tr.node rl rr rk rv rs rd).list.length = u.list.length + 1 := by rw [lu]; simp
        obtain ⟨x, ex, wx, lx⟩ := join_eq n l u k v (by omega) wl wu (by omega)
        refine ⟨x, k', v', ?_, wx, ?_⟩
        · simp only [tree_last.f, Tr.cs]
          rw [if_neg (by simp [Tr.isNil])]
          simp only [e, ex, Option.bind_some]
        · rw [lx]; show l.list ++ (k, v) :: (Tr.node rl rr rk rv rs rd).list = _; rw [lu]; simp
theorem both_eq (n : Nat) (l r : Tr) (hn : 2 * l.list.length + r.list.length + 1 < n) (hl : l.WF) (hr : r.WF) (hb : l.list.length + r.list.length < big) :
    ∃ t, tree_both.f n l r = some t ∧ t.WF ∧ t.list = l.list ++ r.list := by
  cases l with
  | nil => exact ⟨r, rfl, hr, rfl⟩
  | node ll lr lk lv ls ld =>
    obtain ⟨u, k, v, e, wu, lu⟩ := last_eq n (.node ll lr lk lv ls ld) (by omega) hl (by simp [Tr.list]) (by omega)
    have hlen : (Tr.node ll lr lk lv ls ld).list.length = u.list.length + 1 := by rw [lu]; simp
    have h1 := u.hgt_le; have h2 := r.hgt_le
    obtain ⟨x, ex, wx, lx⟩ := join_eq n u r k v (by omega) wu hr (by omega)
    refine ⟨x, ?_, wx, ?_⟩
    · unfold tree_both.f
      rw [if_neg (by simp [Tr.isNil])]
      simp only [e, ex, Option.bind_some]
    · rw [lx, lu]; simp
def lt (a b : ByteArray) : Bool := Op.bytesLess a.toList b.toList
theorem nan_eq (a : ByteArray) : cmp_isNaN.f a = some false := by simp [cmp_isNaN.f]
theorem less_eq (a b : ByteArray) : cmp_Less.f a b = some (lt a b) := by
  simp only [cmp_Less.f, nan_eq, Option.bind_some]
  rw [if_neg (by simp)]; rfl
theorem compare_eq (a b : ByteArray) : cmp_Compare.f a b = some (if lt a b = true then -1 else if (a.toList == b.toList) = true then 0 else 1) := by
  simp only [cmp_Compare.f, nan_eq, Option.bind_some]
  rw [if_neg (by simp), if_neg (by simp)]
  unfold lt
  split
  · rfl
  · rename_i h
    simp [h]
    split <;> rfl
theorem bl_irr : ∀ x : List UInt8, Op.bytesLess x x = false
  | [] => rfl
  | a :: x => by simp [Op.bytesLess, bl_irr x]
theorem bl_tri : ∀ x y : List UInt8, Op.bytesLess x y = false → Op.bytesLess y x = false → x = y
  | [], [], _, _ => rfl
  | [], _ :: _, h, _ => by simp [Op.bytesLess] at h
  | _ :: _, [], _, h => by simp [Op.bytesLess] at h
  | a :: x, b :: y, h1, h2 => by
    simp only [Op.bytesLess, Bool.or_eq_false_iff, Bool.and_eq_false_iff, decide_eq_false_iff_not, beq_eq_false_iff_ne] at h1 h2
    have hab : a = b := by
      have g1 := h1.1; have g2 := h2.1
      simp only [UInt8.lt_iff_toNat_lt] at g1 g2
      exact UInt8.toNat_inj.1 (by omega)
    subst hab
    have e1 := h1.2.resolve_left (fun q => q rfl)
    have e2 := h2.2.resolve_left (fun q => q rfl)
    rw [bl_tri x y e1 e2]
theorem bl_tr : ∀ x y z : List UInt8, Op.bytesLess x y = true → Op.bytesLess y z = true → Op.bytesLess x z = true
  | x, [], [], _, h => by simp [Op.bytesLess] at h
  | x, b :: y, [], _, h => by simp [Op.bytesLess] at h
  | [], [], c :: z, h, _ => by simp [Op.bytesLess] at h
  | a :: x, [], c :: z, h, _ => by simp [Op.bytesLess] at h
  | [], b :: y, c :: z, _, _ => rfl
  | a :: x, b :: y, c :: z, h1, h2 => by
    simp only [Op.bytesLess, Bool.or_eq_true, Bool.and_eq_true, decide_eq_true_eq, beq_iff_eq] at h1 h2 ⊢
    simp only [UInt8.lt_iff_toNat_lt] at h1 h2 ⊢
    rcases h1 with h1 | ⟨rfl, h1⟩
    · rcases h2 with h2 | ⟨rfl, h2⟩
      · left; omega
      · left; exact h1
    · rcases h2 with h2 | ⟨rfl, h2⟩
      · left; exact h2
      · right; exact ⟨rfl, bl_tr x y z h1 h2⟩
end Go.Proofs.Ythankpjbfpcldaa.G
namespace Go.Proofs.Ythankpjbfpcldaa.G
open Go
set_option linter.unusedVariables false
set_option linter.unusedSimpArgs false
theorem toList_inj {a b : ByteArray} (h : a.toList = b.toList) : a = b := by
  rw [ByteArray.toList_eq, ByteArray.toList_eq] at h
  cases a; cases b
  simp only [ByteArray.mk.injEq]
  exact Array.toList_inj.1 h
theorem lt_irr (a : ByteArray) : lt a a = false := bl_irr _
theorem lt_tr {a b c : ByteArray} (h1 : lt a b = true) (h2 : lt b c = true) : lt a c = true := bl_tr _ _ _ h1 h2
theorem lt_tri {a b : ByteArray} (h1 : lt a b = false) (h2 : lt b a = false) : a = b := toList_inj (bl_tri _ _ h1 h2)
def Ord (L : List Ent) : Prop := L.Pairwise fun x y => lt x.1 y.1 = true
def ins (k : ByteArray) (v : table_cell) : List Ent → List Ent
  | [] => [(k, v)]
  | (a, x) :: L => if lt k a = true then (k, v) :: (a, x) :: L else if lt a k = true then (a, x) :: ins k v L else (k, v) :: L
def del (k : ByteArray) : List Ent → List Ent
  | [] => []
  | (a, x) :: L => if lt k a = true then (a, x) :: L else if lt a k = true then (a, x) :: del k L else L
def look (k : ByteArray) : List Ent → Option table_cell
  | [] => none
  | (a, x) :: L => if lt k a = true then none else if lt a k = true then look k L else some x
theorem Ord.split {A B : List Ent} {x : Ent} (h : Ord (A ++ x :: B)) : Ord A ∧ Ord B ∧ (∀ y ∈ A, lt y.1 x.1 = true) ∧ (∀ y ∈ B, lt x.1 y.1 = true) := by
  unfold Ord at h ⊢
  rw [List.pairwise_append] at h
  obtain ⟨h1, h2, h3⟩ := h
  rw [List.pairwise_cons] at h2
  exact ⟨h1, h2.2, fun y hy => h3 y hy x (by simp), h2.1⟩
theorem lt_asym {a b : ByteArray} (h : lt a b = true) : lt b a = false := by
  cases hb : lt b a with
  | false => rfl
  | true => have := lt_tr h hb; rw [lt_irr] at this; cases this
theorem ins_left {k : ByteArray} {v : table_cell} {x : Ent} {B : List Ent} (hk : lt k x.1 = true) : ∀ A : List Ent, ins k v (A ++ x :: B) = ins k v A ++ x :: B
  | [] => by simp [ins, hk]
  | (a, y) :: A => by
    simp only [List.cons_append, ins]
    split
    · rfl
    · split
      · rw [ins_left hk A]; rfl
      · rfl
theorem ins_right {k : ByteArray} {v : table_cell} {x : Ent} {B : List Ent} (hk : lt x.1 k = true) : ∀ A : List Ent, (∀ y ∈ A, lt y.1 x.1 = true) → ins k v (A ++ x :: B) = A ++ x :: ins k v B
  | [], _ => by simp [ins, hk, lt_asym hk]
  | (a, y) :: A, h => by
    have h1 : lt a k = true := lt_tr (h (a, y) (by simp)) hk
    simp only [List.cons_append, ins, h1, lt_asym h1]
    rw [ins_right hk A (fun y hy => h y (by simp [hy]))]
    simp
theorem ins_here {k : ByteArray} {v y : table_cell} {B : List Ent} : ∀ A : List Ent, (∀ y ∈ A, lt y.1 k = true) → ins k v (A ++ (k, y) :: B) = A ++ (k, v) :: B
  | [], _ => by simp [ins, lt_irr]
  | (a, y) :: A, h => by
    have h1 : lt a k = true := h (a, y) (by simp)
    simp only [List.cons_append, ins, h1, lt_asym h1]
    rw [ins_here A (fun y hy => h y (by simp [hy]))]
    simp
theorem ins_len (k : ByteArray) (v : table_cell) : ∀ L : List Ent, (ins k v L).length ≤ L.length + 1
  | [] => by simp [ins]
  | (a, x) :: L => by
    have := ins_len k v L
    simp only [ins]
    split
    · simp
    · split <;> simp <;> omega
theorem put_eq : ∀ (n : Nat) (t : Tr) (k : ByteArray) (v : table_cell), 2 * t.list.length + 3 < n → t.WF → Ord t.list → t.list.length + 1 < big →
    ∃ u, tree_Tree_Put.f n t k v = some u ∧ u.WF ∧ u.list = ins k v t.list
  | 0, _, _, _, h, _, _, _ => absurd h (by omega)
  | n + 1, t, k, v, hn, ht, ho, hb => by
    cases t with
    | nil =>
      obtain ⟨u, eu, wu, lu, _⟩ := node_eq (l := .nil) (r := .nil) (k := k) (v := v) trivial trivial (by simp [Tr.list, big])
      refine ⟨u, ?_, wu, by rw [lu]; rfl⟩
      simp only [tree_Tree_Put.f, eu, Option.bind_some]
      rw [if_pos (by rfl)]
    | node l r a x s d =>
      obtain ⟨wl, wr', _, _⟩ := ht
      obtain ⟨ol, or', hA, hB⟩ := Ord.split (show Ord (l.list ++ (a, x) :: r.list) from ho)
      simp only [Tr.list, List.length_append, List.length_cons] at hn hb
      simp only [tree_Tree_Put.f, Tr.cs, compare_eq, Option.bind_some]
      rw [if_neg (by simp [Tr.isNil])]
      cases h1 : lt k a with
      | true =>
        obtain ⟨u, eu, wu, lu⟩ := put_eq n l k v (by omega) wl ol (by omega)
        have hu := ins_len k v l.list; rw [← lu] at hu
        have g1 := u.hgt_le; have g2 := r.hgt_le
        obtain ⟨z, ez, wz, lz⟩ := join_eq n u r a x (by omega) wu wr' (by omega)
        refine ⟨z, ?_, wz, ?_⟩
        · simp [eu, ez]
        · rw [lz, lu]; exact (ins_left (x := (a, x)) h1 l.list).symm
      | false =>
        cases h2 : lt a k with
        | true =>
          have hne : (k.toList == a.toList) = false := by
            cases q : (k.toList == a.toList) with
            | false => rfl
            | true => have := toList_inj (eq_of_beq q); subst this; rw [lt_irr] at h2; cases h2
          obtain ⟨u, eu, wu, lu⟩ := put_eq n r k v (by omega) wr' or' (by omega)
          have hu := ins_len k v r.list; rw [← lu] at hu
          have g1 := u.hgt_le; have g2 := l.hgt_le
          obtain ⟨z, ez, wz, lz⟩ := join_eq n l u a x (by omega) wl wu (by omega)
          refine ⟨z, ?_, wz, ?_⟩
          · simp [hne, eu, ez]
          · rw [lz, lu]; exact (ins_right (x := (a, x)) h2 l.list hA).symm
        | false =>
          have he := lt_tri h1 h2
          subst he
          obtain ⟨z, ez, wz, lz, _⟩ := node_eq (k := k) (v := v) wl wr' (by omega)
          refine ⟨z, ?_, wz, ?_⟩
          · simp [ez]
          · rw [lz]; exact (ins_here l.list hA).symm
theorem mem_ins {k : ByteArray} {v : table_cell} {y : Ent} : ∀ L : List Ent, y ∈ ins k v L → y = (k, v) ∨ y ∈ L
  | [], h => by simp only [ins, List.mem_singleton] at h; exact Or.inl h
  | (a, x) :: L, h => by
    simp only [ins] at h
    split at h
    · simp only [List.mem_cons] at h ⊢; exact h
    · split at h
      · simp only [List.mem_cons] at h ⊢
        rcases h with h | h
        · exact Or.inr (Or.inl h)
        · rcases mem_ins L h with h | h
          · exact Or.inl h
          · exact Or.inr (Or.inr h)
      · simp only [List.mem_cons] at h ⊢
        rcases h with h | h
        · exact Or.inl h
        · exact Or.inr (Or.inr h)
theorem mem_del {k : ByteArray} {y : Ent} : ∀ L : List Ent, y ∈ del k L → y ∈ L
  | [], h => by simp [del] at h
  | (a, x) :: L, h => by
    simp only [del] at h
    split at h
    · exact h
    · split at h
      · simp only [List.mem_cons] at h ⊢
        rcases h with h | h
        · exact Or.inl h
        · exact Or.inr (mem_del L h)
      · exact List.mem_cons_of_mem _ h
theorem ins_ord {k : ByteArray} {v : table_cell} : ∀ L : List Ent, Ord L → Ord (ins k v L)
  | [], _ => by simp [ins, Ord]
  | (a, x) :: L, h => by
    have h' := h
    unfold Ord at h'
    rw [List.pairwise_cons] at h'
    simp only [ins]
    split
    · rename_i c
      unfold Ord
      rw [List.pairwise_cons]
      refine ⟨?_, h⟩
      intro y hy
      rcases List.mem_cons.1 hy with rfl | hy
      · exact c
      · exact lt_tr c (h'.1 y hy)
    · split
      · rename_i c1 c
        unfold Ord
        rw [List.pairwise_cons]
        refine ⟨?_, ins_ord L h'.2⟩
        intro y hy
        rcases mem_ins L hy with rfl | hy
        · exact c
        · exact h'.1 y hy
      · rename_i c1 c2
        have he : k = a := lt_tri (by simpa using c1) (by simpa using c2)
        subst he
        unfold Ord
        rw [List.pairwise_cons]
        exact ⟨h'.1, h'.2⟩
theorem del_ord {k : ByteArray} : ∀ L : List Ent, Ord L → Ord (del k L)
  | [], _ => by simp [del, Ord]
  | (a, x) :: L, h => by
    have h' := h
    unfold Ord at h'
    rw [List.pairwise_cons] at h'
    simp only [del]
    split
    · exact h
    · split
      · unfold Ord
        rw [List.pairwise_cons]
        exact ⟨fun y hy => h'.1 y (mem_del L hy), del_ord L h'.2⟩
      · exact h'.2
theorem del_left {k : ByteArray} {x : Ent} {B : List Ent} (hk : lt k x.1 = true) : ∀ A : List Ent, del k (A ++ x :: B) = del k A ++ x :: B
  | [] => by simp [del, hk]
  | (a, y) :: A => by
    simp only [List.cons_append, del]
    split
    · rfl
    · split
      · rw [del_left hk A]; rfl
      · rfl
theorem del_right {k : ByteArray} {x : Ent} {B : List Ent} (hk : lt x.1 k = true) : ∀ A : List Ent, (∀ y ∈ A, lt y.1 x.1 = true) → del k (A ++ x :: B) = A ++ x :: del k B
  | [], _ => by simp [del, hk, lt_asym hk]
  | (a, y) :: A, h => by
    have h1 : lt a k = true := lt_tr (h (a, y) (by simp)) hk
    simp only [List.cons_append, del, h1, lt_asym h1]
    rw [del_right hk A (fun y hy => h y (by simp [hy]))]
    simp
theorem del_here {k : ByteArray} {y : table_cell} {B : List Ent} : ∀ A : List Ent, (∀ y ∈ A, lt y.1 k = true) → del k (A ++ (k, y) :: B) = A ++ B
  | [], _ => by simp [del, lt_irr]
  | (a, y) :: A, h => by
    have h1 : lt a k = true := h (a, y) (by simp)
    simp only [List.cons_append, del, h1, lt_asym h1]
    rw [del_here A (fun y hy => h y (by simp [hy]))]
    simp
theorem del_len (k : ByteArray) : ∀ L : List Ent, (del k L).length ≤ L.length
  | [] => by simp [del]
  | (a, x) :: L => by
    have := del_len k L
    simp only [del]
    split
    · simp
    · split <;> simp <;> omega
theorem look_left {k : ByteArray} {x : Ent} {B : List Ent} (hk : lt k x.1 = true) : ∀ A : List Ent, look k (A ++ x :: B) = look k A
  | [] => by simp [look, hk]
  | (a, y) :: A => by
    simp only [List.cons_append, look]
    rw [look_left hk A]
theorem look_right {k : ByteArray} {x : Ent} {B : List Ent} (hk : lt x.1 k = true) : ∀ A : List Ent, (∀ y ∈ A, lt y.1 x.1 = true) → look k (A ++ x :: B) = look k B
  | [], _ => by simp [look, hk, lt_asym hk]
  | (a, y) :: A, h => by
    have h1 : lt a k = true := lt_tr (h (a, y) (by simp)) hk
    simp only [List.cons_append, look, h1, lt_asym h1]
    rw [look_right hk A (fun y hy => h y (by simp [hy]))]
    simp
theorem look_here {k : ByteArray} {y : table_cell} {B : List Ent} : ∀ A : List Ent, (∀ y ∈ A, lt y.1 k = true) → look k (A ++ (k, y) :: B) = some y
  | [], _ => by simp [look, lt_irr]
  | (a, y) :: A, h => by
    have h1 : lt a k = true := h (a, y) (by simp)
    simp only [List.cons_append, look, h1, lt_asym h1]
    rw [look_here A (fun y hy => h y (by simp [hy]))]
    simp
theorem del_none {k : ByteArray} : ∀ L : List Ent, look k L = none → del k L = L
  | [], _ => rfl
  | (a, x) :: L, h => by
    simp only [look] at h
    simp only [del]
    split
    · rfl
    · rename_i c1
      rw [if_neg c1] at h
      split
      · rename_i c2; rw [if_pos c2] at h; rw [del_none L h]
      · rename_i c2; rw [if_neg c2] at h; cases h
theorem look_mem {k : ByteArray} {x : table_cell} : ∀ L : List Ent, look k L = some x → (k, x) ∈ L
  | [], h => by simp [look] at h
  | (a, y) :: L, h => by
    simp only [look] at h
    split at h
    · cases h
    · split at h
      · exact List.mem_cons_of_mem _ (look_mem L h)
      · rename_i c1 c2
        have he : k = a := lt_tri (by simpa using c1) (by simpa using c2)
        subst he
        cases h
        simp
end Go.Proofs.Ythankpjbfpcldaa.G
namespace Go.Proofs.Ythankpjbfpcldaa.G
open Go
set_option linter.unusedVariables false
set_option linter.unusedSimpArgs false
theorem keqb {k a : ByteArray} (h : lt a k = true) : (k.toList == a.toList) = false := by
  cases q : (k.toList == a.toList) with
  | false => rfl
  | true => have := toList_inj (eq_of_beq q); subst this; rw [lt_irr] at h; cases h
theorem delete_eq : ∀ (n : Nat) (t : Tr) (k : ByteArray), 4 * t.list.length + 3 < n → t.WF → Ord t.list → t.list.length + 1 < big →
    ∃ u, tree_Tree_Delete.f n t k = some (u, (look k t.list).isSome) ∧ u.WF ∧ u.list = del k t.list
  | 0, _, _, h, _, _, _ => absurd h (by omega)
  | n + 1, t, k, hn, ht, ho, hb => by
    cases t with
    | nil => exact ⟨.nil, rfl, trivial, rfl⟩
    | node l r a x s d =>
      have ht' := ht
      obtain ⟨wl, wr', _, _⟩ := ht
      obtain ⟨ol, or', hA, hB⟩ := Ord.split (show Ord (l.list ++ (a, x) :: r.list) from ho)
      simp only [Tr.list, List.length_append, List.length_cons] at hn hb
      simp only [tree_Tree_Delete.f, Tr.cs, compare_eq, Option.bind_some]
      rw [if_neg (by simp [Tr.isNil])]
      cases h1 : lt k a with
      | true =>
        obtain ⟨u, eu, wu, lu⟩ := delete_eq n l k (by omega) wl ol (by omega)
        have hl : look k (l.list ++ (a, x) :: r.list) = look k l.list := look_left (x := (a, x)) h1 l.list
        have hd : del k (l.list ++ (a, x) :: r.list) = del k l.list ++ (a, x) :: r.list := del_left (x := (a, x)) h1 l.list
        show ∃ u : Tr, _ = some (u, (look k (l.list ++ (a, x) :: r.list)).isSome) ∧ u.WF ∧ u.list = del k (l.list ++ (a, x) :: r.list)
        rw [hl, hd]
        cases hs : (look k l.list).isSome with
        | false =>
          rw [hs] at eu
          refine ⟨_, ?_, ht', ?_⟩
          · simp [eu]
          · rw [del_none l.list (by simpa using hs)]; rfl
        | true =>
          rw [hs] at eu
          have hu := del_len k l.list; rw [← lu] at hu
          have g1 := u.hgt_le; have g2 := r.hgt_le
          obtain ⟨z, ez, wz, lz⟩ := join_eq n u r a x (by omega) wu wr' (by omega)
          refine ⟨z, ?_, wz, ?_⟩
          · simp [eu, ez]
          · rw [lz, lu]
      | false =>
        cases h2 : lt a k with
        | true =>
          obtain ⟨u, eu, wu, lu⟩ := delete_eq n r k (by omega) wr' or' (by omega)
          have hl : look k (l.list ++ (a, x) :: r.list) = look k r.list := look_right (x := (a, x)) h2 l.list hA
          have hd : del k (l.list ++ (a, x) :: r.list) = l.list ++ (a, x) :: del k r.list := del_right (x := (a, x)) h2 l.list hA
          show ∃ u : Tr, _ = some (u, (look k (l.list ++ (a, x) :: r.list)).isSome) ∧ u.WF ∧ u.list = del k (l.list ++ (a, x) :: r.list)
          rw [hl, hd]
          cases hs : (look k r.list).isSome with
          | false =>
            rw [hs] at eu
            refine ⟨_, ?_, ht', ?_⟩
            · simp [keqb h2, eu]
            · rw [del_none r.list (by simpa using hs)]; rfl
          | true =>
            rw [hs] at eu
            have hu := del_len k r.list; rw [← lu] at hu
            have g1 := u.hgt_le; have g2 := l.hgt_le
            obtain ⟨z, ez, wz, lz⟩ := join_eq n l u a x (by omega) wl wu (by omega)
            refine ⟨z, ?_, wz, ?_⟩
            · simp [keqb h2, eu, ez]
            · rw [lz, lu]
        | false =>
          have he := lt_tri h1 h2
          subst he
          obtain ⟨z, ez, wz, lz⟩ := both_eq n l r (by omega) wl wr' (by omega)
          refine ⟨z, ?_, wz, ?_⟩
          · show _ = some (z, (look k (l.list ++ (k, x) :: r.list)).isSome)
            rw [look_here l.list hA]; simp [ez]
          · rw [lz]; exact (del_here l.list hA).symm
theorem loop_next {S X : Type} {f : S → Option (Ctl S X)} {n : Nat} {s s' : S} (h : f s = some (.next s')) : loop f (n + 1) s = loop f n s' := by
  show (f s).bind _ = _; rw [h]; rfl
theorem loop_done {S X : Type} {f : S → Option (Ctl S X)} {n : Nat} {s : S} {x : X} (h : f s = some (.done x)) : loop f (n + 1) s = some x := by
  show (f s).bind _ = _; rw [h]; rfl
def gotQ (o : Option table_cell) : table_cell × Bool := match o with
  | some x => (x, true)
  | none => (table_cell.mk [] 0, false)
theorem get_eq : ∀ (n : Nat) (t : Tr) (k : ByteArray), t.hgt < n → Ord t.list →
    tree_Tree_Get.f n t k = some (gotQ (look k t.list)) := by
  have key : ∀ (n : Nat) (t : Tr) (k : ByteArray), t.hgt < n → Ord t.list →
    loop (tree_Tree_Get.b1 k) n t = some ((look k t.list).elim (Sum.inl ()) fun x => Sum.inr (x, true)) := by
    intro n
    induction n with
    | zero => intro t k h; omega
    | succ n ih =>
      intro t k hn ho
      cases t with
      | nil => rfl
      | node l r a x s d =>
        obtain ⟨ol, or', hA, hB⟩ := Ord.split (show Ord (l.list ++ (a, x) :: r.list) from ho)
        simp only [Tr.hgt] at hn
        simp only [Tr.list]
        cases h1 : lt k a with
        | true =>
          rw [look_left (x := (a, x)) h1 l.list, loop_next (s' := l)]
          · exact ih l k (by omega) ol
          · unfold tree_Tree_Get.b1
            rw [if_neg (by simp [Tr.isNil])]
            simp [Tr.cs, compare_eq, h1]
        | false =>
          cases h2 : lt a k with
          | true =>
            rw [look_right (x := (a, x)) h2 l.list hA, loop_next (s' := r)]
            · exact ih r k (by omega) or'
            · unfold tree_Tree_Get.b1
              rw [if_neg (by simp [Tr.isNil])]
              simp [Tr.cs, compare_eq, h1, keqb h2]
          | false =>
            have he := lt_tri h1 h2
            subst he
            rw [look_here l.list hA, loop_done (x := Sum.inr (x, true))]
            · rfl
            · unfold tree_Tree_Get.b1
              rw [if_neg (by simp [Tr.isNil])]
              simp [Tr.cs, compare_eq, h1]
  intro n t k hn ho
  unfold tree_Tree_Get.f
  show (loop (tree_Tree_Get.b1 k) n t).bind _ = _
  rw [key n t k hn ho]
  cases look k t.list <;> rfl
section
variable {σ X : Type} (g : σ → ByteArray → table_cell → Option (Ctl σ X))
def foldC : List Ent → σ → Option (Ctl σ X)
  | [], s => some (.next s)
  | (k, v) :: L, s => thenC (g s k v) fun s => foldC L s
theorem thenC_assoc (y : Option (Ctl σ X)) (f h : σ → Option (Ctl σ X)) : thenC (thenC y f) h = thenC y fun s => thenC (f s) h := by
  cases y with
  | none => rfl
  | some c => cases c <;> rfl
theorem foldC_app : ∀ (A B : List Ent) (s : σ), foldC g (A ++ B) s = thenC (foldC g A s) fun s => foldC g B s
  | [], B, s => rfl
  | (k, v) :: A, B, s => by
    show thenC (g s k v) (fun s => foldC g (A ++ B) s) = thenC (thenC (g s k v) fun s => foldC g A s) fun s => foldC g B s
    rw [thenC_assoc]
    congr 1; funext s; exact foldC_app A B s
theorem up_eq : ∀ (t : Tr) (s : σ), Tr.up g t s = foldC g t.list s
  | .nil, s => rfl
  | .node l r k v _ _, s => by
    show thenC (Tr.up g l s) _ = foldC g (l.list ++ (k, v) :: r.list) s
    rw [foldC_app, up_eq l s]
    congr 1; funext s'
    show thenC _ _ = thenC _ _
    congr 1; funext s''; exact up_eq r s''
def above (key : ByteArray) (L : List Ent) : List Ent := L.filter fun e => !lt e.1 key
theorem from_eq (key : ByteArray) : ∀ (t : Tr) (s : σ), Ord t.list → Tr.from key g t s = foldC g (above key t.list) s
  | .nil, s, _ => rfl
  | .node l r k v _ _, s, ho => by
    obtain ⟨ol, or', hA, hB⟩ := Ord.split (show Ord (l.list ++ (k, v) :: r.list) from ho)
    show (cmp_Less.f k key).bind _ = foldC g (above key (l.list ++ (k, v) :: r.list)) s
    rw [less_eq, Option.bind_some]
    unfold above
    rw [List.filter_append]
    cases h : lt k key with
    | true =>
      rw [if_pos rfl, from_eq key r s or']
      have e1 : l.list.filter (fun e => !lt e.1 key) = [] := by
        rw [List.filter_eq_nil_iff]
        intro a ha
        simp [lt_tr (hA a ha) h]
      rw [e1, List.filter_cons, if_neg (by simp [h])]
      rfl
    | false =>
      rw [if_neg (by simp), List.filter_cons, if_pos (by simp [h])]
      have e2 : r.list.filter (fun e => !lt e.1 key) = r.list := by
        rw [List.filter_eq_self]
        intro a ha
        have := hB a ha
        simp only [Bool.not_eq_true']
        cases q : lt a.1 key with
        | false => rfl
        | true => rw [lt_tr this q] at h; cases h
      rw [e2, foldC_app, from_eq key l s ol]
      congr 1; funext s'
      show thenC _ _ = thenC _ _
      congr 1; funext s''; exact up_eq g r s''
end
def seekQ (L : List Ent) : ByteArray × table_cell × Bool := match L with
  | [] => (.empty, table_cell.mk [] 0, false)
  | (k, v) :: _ => (k, v, true)
theorem seek_eq (t : Tr) (key : ByteArray) (ho : Ord t.list) :
    tree_Tree_Seek.f t key = some (seekQ (above key t.list)) := by
  unfold tree_Tree_Seek.f
  show (some (It.from t key)).bind _ = _
  rw [Option.bind_some]
  show (Tr.from key _ t ()).bind _ = _
  rw [from_eq _ key t () ho]
  cases above key t.list with
  | nil => rfl
  | cons e L => rfl
end Go.Proofs.Ythankpjbfpcldaa.G