/- Words, contracts and plain laws on which the row of 'ShardOnce' hangs (its '..UptoSaid': inputs of bulk at most 1048576). -/
import Derived.Test.YthankpjbfpcldaaHShardOnceB
import Derived.Test.YthankpjbfpcldaaHShardOnceD
import Derived.Test.YthankpjbfpcldaaHShardOnceC
namespace Go.Proofs.Ythankpjbfpcldaa.G
open Go Go.RowKit
set_option linter.unusedVariables false
set_option linter.unusedSimpArgs false
set_option maxRecDepth 100000
set_option maxHeartbeats 40000000
theorem merkle_New.calls (k : Nat) {m : Nat} {c0 : Nat → Nat} {w0 : World} {A2 : Option Addr} {C3 : Nat} {a1 : List api_Row} {a5 : Int} (hm0 : 0 < m) (B0 : CB m c0 w0) (h4 : SL false K_api_Row 0 0 c0 w0 A2 C3 a1) (jr945 : Nat) (bjr945 : 0 < jr945 ∧ jr945 < m) (jr946 : Nat) (bjr946 : 0 < jr946 ∧ jr946 < m) (r : (Option Mer) × Int) (H : merkle_New.f k a1 a5 = some r) : Calls Try.prog 51 #[.slice A2 a1.length C3, .int .i64 a5] w0 (fun e w_ => ∃ (c_ : Nat → Nat) (P0_ : Option Addr), e = .returned (.tuple #[.pointer P0_, .int .i64 r.2]) ∧ Ev (fun x => False) c0 w0 c_ w_ ∧ CB m c_ w_ ∧ ME jr945 jr946 c_ w_ P0_ r.1) := by
 unfold merkle_New.f at H
 have B := B0.mono (show m ≤ m + 5 by omega)
 have E : Ev (fun x => False ∨ m ≤ x) c0 w0 c0 w0 := Ev.refl
 refine enter (N := 98) (l := [.slice A2 a1.length C3, .int .i64 a5]) Try.func51 rfl rfl (nb rfl) fun a F => ?_
 refine wp_seq_k fun K6 hK6 => reg ?_
 refine qa F fun a F => ?_
 refine qa F fun a F => ?_
 refine nil (hK6 _ _ ?_)
 refine wp_seq_k fun K7 hK7 => ?_
 refine wp_block ?_
 refine wp_seq_k fun K8 hK8 => ?_
 have J11 : ∀ (c12 : Nat → Nat) (w13 : World) (a : Act) (b10 : Bool), Fr a 98 [(0, .slice A2 a1.length C3), (1, .int .i64 a5), (12, .bool b10)] → Ev (fun x => False ∨ m ≤ x) c0 w0 c12 w13 → CB (m + 5) c12 w13 → SL false K_api_Row 0 0 c12 w13 A2 C3 a1 → merkle_New.j1 k a1 a5 b10 = some r → K8 a w13 := by
  intro c12 w13 a b10 F E B h4 H
  unfold merkle_New.j1 at H
  refine hK8 _ _ ?_
  by_cases hb14 : b10 = true
  ·replace H := ip hb14 H
   refine wp_cond_true (fb F hb14) ?_
   refine wp_seq_k fun K15 hK15 => reg ?_
   refine qa F fun a F => ?_
   refine qa F fun a F => ?_
   refine nil (hK15 _ _ ?_)
   as_aux_lemma =>
   refine wp_ret ?_
   refine inbR ?_
   refine thenR ?_
   replace H := si H
   subst H
   refine out2 F rfl rfl rfl ?_
   exact ⟨cf (fun x_ => if x_ = m + 2 then jr945 else if x_ = m + 1 then jr946 else if x_ < m then x_ else 0) c12, none, rfl, E.lv B0, cfb, ME.nil⟩
  replace H := im hb14 H
  refine wp_cond_false (fb F (bfalse hb14)) ?_
  refine wp_seq_k fun K16 hK16 => reg ?_
  refine qm F fun a F => ?_
  obtain ⟨t17, q18, H⟩ := bind_some H
  refine qc F Try.func72 (merkle_rising.calls k (m := m + 5) (pl hm0) B h4 _ q18) ?_
  rintro e w20 ⟨c19, rfl, E21, B22⟩
  refine ⟨_, rfl, fun a F => ?_⟩
  have B := B22
  replace h4 := h4.ev E21 nq nq
  replace E := E.trans E21 nx
  refine qv F (r_not F rfl) fun a F => ?_
  refine qa F fun a F => ?_
  refine nil (hK16 _ _ ?_)
  by_cases hb24 : t17 = true
  ·replace H := ip hb24 H
   as_aux_lemma =>
   refine wp_cond_false (fb F (congrArg not hb24)) (wp_skip (hK7 _ _ ?_))
   refine wp_seq_k fun K26 hK26 => reg ?_
   refine qm F fun a F => ?_
   refine qm F fun a F => ?_
   refine qv F (r_lensl F Try.underlying47 rfl) fun a F => ?_
   have h27 : AR (Kint .u64) 0 c19 w20 ((List.replicate 512 ([.int .u64 0] : List Value)).flatten) 512 (List.replicate 512 (0 : Int)) := AR.zero (by exact rfl) 512
   have h28 : ARO (KOsl K_api_Row) (m + 1) c19 w20 ((List.replicate 256 ([.slice none 0 0] : List Value)).flatten) 256 (List.replicate 256 ([] : List api_Row)) noHole := ARO.zero (e := (KOsl K_api_Row)) (pl hm0) (fun γ c => ⟨none, 0, rfl, SL.nil⟩) 256
   refine qv F (r_build (v := .agg (([.int .i64 a5] : List Value) ++ (((List.replicate 512 ([.int .u64 0] : List Value)).flatten) ++ (([] : List Value) ++ (((List.replicate 256 ([.slice none 0 0] : List Value)).flatten) ++ (([.int .i64 (a1.length : Int)] : List Value)))))).toArray) F [(0, .int .i64 a5), (3, .int .i64 (a1.length : Int))] (by exact ⟨rfl, rfl, rfl, rfl, trivial⟩) (fun w => by kernel_rfl)) fun a F => ?_
   refine q_eff F rfl rfl (by decide) (e_box F (v := .agg (([.int .i64 a5] : List Value) ++ (((List.replicate 512 ([.int .u64 0] : List Value)).flatten) ++ (([] : List Value) ++ (((List.replicate 256 ([.slice none 0 0] : List Value)).flatten) ++ (([.int .i64 (a1.length : Int)] : List Value)))))).toArray) rfl c19 (m + 2)) ?_
   rintro v w30 a ⟨c29, qa31, rfl, E32, h33, B34⟩ F
   replace B := B34 _ B lm
   replace h4 := h4.ev E32 nq nq
   replace h27 := h27.ev E32 nq
   replace h28 := h28.ev E32 nq nq
   replace E := E.trans E32 nx
   replace h33 : AT true (m + 2) c29 w30 qa31 (([.int .i64 a5] : List Value) ++ (((List.replicate 512 ([.int .u64 0] : List Value)).flatten) ++ (([] : List Value) ++ (((List.replicate 256 ([.slice none 0 0] : List Value)).flatten) ++ (([.int .i64 (a1.length : Int)] : List Value)))))) := h33
   refine qa F fun a F => ?_
   refine nil (hK26 _ _ ?_)
   replace F : Fr a 98 [(0, .slice A2 a1.length C3), (1, .int .i64 a5), (6, .pointer (some qa31))] := F.sub ⟨rfl, rfl, rfl, trivial⟩
   refine wp_seq_k fun K36 hK36 => ?_
   refine wp_seq_k fun K37 hK37 => reg ?_
   refine qm F fun a F => ?_
   as_aux_lemma =>
   refine qv F (r_lensl F Try.underlying47 rfl) fun a F => ?_
   refine qm F fun a F => ?_
   refine nil (hK37 _ _ ?_)
   refine wp_block ?_
   obtain ⟨x329, HL, HR328⟩ := bind_some H
   have J596 : ∀ (c597 : Nat → Nat) (w598 : World) (a : Act) (l594 : List (List api_Row)) (cs595 : List Value), Fr a 98 [(1, .int .i64 a5), (6, .pointer (some qa31))] → Ev (fun x => False ∨ m ≤ x) c0 w0 c597 w598 → CB (m + 5) c597 w598 → AT true (m + 2) c597 w598 qa31 (([.int .i64 a5] : List Value) ++ (((List.replicate 512 ([.int .u64 0] : List Value)).flatten) ++ (([] : List Value) ++ (cs595 ++ (([.int .i64 (a1.length : Int)] : List Value)))))) → AR (Kint .u64) 0 c597 w598 ((List.replicate 512 ([.int .u64 0] : List Value)).flatten) 512 (List.replicate 512 (0 : Int)) → ARO (KOsl K_api_Row) (m + 1) c597 w598 cs595 256 l594 noHole → merkle_New.j3 k a1 a5 l594 = some r → K36 a w598 := by
    intro c597 w598 a l594 cs595 F E B h33 h27 h593 H
    unfold merkle_New.j3 at H
    refine hK36 _ _ ?_
    refine wp_seq_k fun K599 hK599 => ?_
    refine wp_seq_k fun K600 hK600 => reg ?_
    refine qm F fun a F => ?_
    refine nil (hK600 _ _ ?_)
    refine wp_block ?_
    obtain ⟨x692, HL, HR691⟩ := bind_some H
    have J765 : ∀ (c766 : Nat → Nat) (w767 : World) (a : Act) (l763 : List Int) (cs764 : List Value), Fr a 98 [(1, .int .i64 a5), (6, .pointer (some qa31))] → Ev (fun x => False ∨ m ≤ x) c0 w0 c766 w767 → CB (m + 5) c766 w767 → AT true (m + 2) c766 w767 qa31 (([.int .i64 a5] : List Value) ++ (cs764 ++ (([] : List Value) ++ (cs595 ++ (([.int .i64 (a1.length : Int)] : List Value)))))) → ARO (KOsl K_api_Row) (m + 1) c766 w767 cs595 256 l594 noHole → AR (Kint .u64) 0 c766 w767 cs764 512 l763 → merkle_New.j5 k a1 a5 l594 l763 = some r → K599 a w767 := by
     intro c766 w767 a l763 cs764 F E B h33 h593 h762 H
     unfold merkle_New.j5 at H
     refine hK599 _ _ ?_
     refine wp_seq_k fun K768 hK768 => ?_
     refine wp_seq_k fun K769 hK769 => reg ?_
     refine qa F fun a F => ?_
     as_aux_lemma =>
     refine nil (hK769 _ _ ?_)
     refine wp_block ?_
     obtain ⟨x864, HL, HR863⟩ := bind_some H
     have J940 : ∀ (c941 : Nat → Nat) (w942 : World) (a : Act) (l938 : List Int) (cs939 : List Value), Fr a 98 [(6, .pointer (some qa31))] → Ev (fun x => False ∨ m ≤ x) c0 w0 c941 w942 → CB (m + 5) c941 w942 → AT true (m + 2) c941 w942 qa31 (([.int .i64 a5] : List Value) ++ (cs939 ++ (([] : List Value) ++ (cs595 ++ (([.int .i64 (a1.length : Int)] : List Value)))))) → ARO (KOsl K_api_Row) (m + 1) c941 w942 cs595 256 l594 noHole → AR (Kint .u64) 0 c941 w942 cs939 512 l938 → merkle_New.j7 a1 a5 l594 l938 = some r → K768 a w942 := by
      intro c941 w942 a l938 cs939 F E B h33 h593 h937 H
      unfold merkle_New.j7 at H
      refine hK768 _ _ ?_
      refine wp_seq_k fun K943 hK943 => reg ?_
      refine qm F fun a F => ?_
      refine qa F fun a F => ?_
      refine qa F fun a F => ?_
      refine nil (hK943 _ _ ?_)
      refine wp_ret ?_
      have h944 : ME (m + 2) (m + 1) c941 w942 (some qa31) (some (Mer.mk a5 l938 l594 (a1.length : Int))) := ME.mk h33 h937 h593
      replace H := si H
      subst H
      refine out2 F rfl rfl rfl ?_
      exact ⟨cf (fun x_ => if x_ = m + 2 then jr945 else if x_ = m + 1 then jr946 else if x_ < m then x_ else 0) c941, (some qa31), rfl, E.lv B0, cfb, ME.rc h944 cfk cfk cfk (by omega)⟩
     refine loop_fuel (I := fun n a w => ∃ (i851 : Int) (l854 : List Int) (cs852 : List Value) (c : Nat → Nat), Fr a 98 [(1, .int .i64 a5), (6, .pointer (some qa31)), (11, .int .i64 i851)] ∧ Ev (fun x => False ∨ m ≤ x) c0 w0 c w ∧ CB (m + 5) c w ∧ AT true (m + 2) c w qa31 (([.int .i64 a5] : List Value) ++ (cs852 ++ (([] : List Value) ++ (cs595 ++ (([.int .i64 (a1.length : Int)] : List Value)))))) ∧ ARO (KOsl K_api_Row) (m + 1) c w cs595 256 l594 noHole ∧ AR (Kint .u64) 0 c w cs852 512 l854 ∧ loop (fun (s_ : Int × (List Int)) => merkle_New.b6 k a5 s_.1 s_.2) n (i851, l854) = some x864) (k := k) ⟨255, l763, cs764, c766, F.sub ⟨rfl, rfl, rfl, trivial⟩, E, B, h33, h593, h762, HL⟩ ?_
     clear HL H E F B
     intro n861 X857 hX857 a w856 ⟨i851, l854, cs852, c855, F, E, B, h33, h593, h853, HL⟩
     obtain ⟨n862, ctl860, rfl, HB, HN858, HD859⟩ := loop_some HL
     have H : merkle_New.b6 k a5 i851 l854 = some ctl860 := HB
     clear HB HL
     unfold merkle_New.b6 at H
     as_aux_lemma =>
     refine wp_seq_k fun K865 hK865 => ?_
     refine wp_seq_k fun K866 hK866 => reg ?_
     refine qm F fun a F => ?_
     refine qv F (r_gtr F rfl rfl) fun a F => ?_
     refine nil (hK866 _ _ ?_)
     by_cases hb867 : 0 < i851
     ·replace H := ip hb867 H
      refine wp_cond_true (fb F (dt hb867)) (wp_skip (hK865 _ _ ?_))
      refine wp_seq_k fun K868 hK868 => ?_
      refine wp_block ?_
      refine regD (SB No c855 w856) 22 (.q 0 (.q 1 (.q 2 (.q 3 (.q 4 (.q 5 (.q 6 (.q 7 (.q 8 (.q 9 (.q 10 (.q 11 (.q 12 (.q 13 (.q 14 (.q 15 (.q 16 (.q 17 (.f 18 (.e 19 (.e 20 (.q 21 (.e 22 .nil)))) 19 (.f 18 (.e 20 (.q 21 (.e 22 .nil))) 20 (.e 18 (.q 21 (.e 22 .nil))))))))))))))))))))))) Try_hm (by decide +kernel) ?_
      intro w869 w1_ w2_ w3_ w4_
      have E870 : Ev No c855 w856 c855 w869 := Ev.same w1_ w2_ w3_ w4_
      replace B := B.same w1_
      have zh33 := h33
      have zh853 := h853
      have ER : Ev No c855 w856 c855 w869 := Ev.same w1_ w2_ w3_ w4_
      replace h33 := h33.ev E870 nq
      replace h593 := h593.ev E870 nq nq
      replace h853 := h853.ev E870 nq
      replace E := E.trans E870 nx
      refine dm F ER.sb fun a F => ?_
      refine dm F ER.sb fun a F => ?_
      as_aux_lemma =>
      refine dm F ER.sb fun a F => ?_
      refine dm F ER.sb fun a F => ?_
      refine dq F (fun wq hS => r_mul F rfl rfl) ER.sb fun a F => ?_
      refine dq F (fun wq hS => r_nil F rfl) ER.sb fun a F => ?_
      refine df F ff_131_1 ER.sb fun a F => ?_
      replace H := ifN H
      obtain ⟨g871, H⟩ := H
      obtain ⟨cs873, h874, r875⟩ := AR.at (off := 1) zh33 rfl zh853 (IntKind.i64.wrap (2 * i851)) g871.1 (by have g_ := g871.2; omega)
      obtain rfl : cs873 = [.int .u64 (rd l854 (IntKind.i64.wrap (2 * i851)))] := r875
      obtain ⟨qa876, qqa876⟩ : ∃ q, q = (qa31.add (1 + (IntKind.i64.wrap (2 * i851)).toNat * 1)) := ⟨_, rfl⟩
      have h874 : AT true (m + 2) c855 w856 qa876 [.int .u64 (rd l854 (IntKind.i64.wrap (2 * i851)))] := by rw [qqa876]; exact h874
      have zh874 := h874
      refine dq F (fun wq hS => r_indexArr3 F ua_128 sz_55 rfl rfl g871.1 (by have g_ := g871.2; omega) h33 qqa876) ER.sb fun a F => ?_
      refine dq F (fun wq hS => r_load F rfl ag_55 (AT.cell0 (AT.sb zh874 hS nq) rfl)) ER.sb fun a F => ?_
      refine dm F ER.sb fun a F => ?_
      refine dm F ER.sb fun a F => ?_
      refine dq F (fun wq hS => r_mul F rfl rfl) ER.sb fun a F => ?_
      refine dq F (fun wq hS => r_add F rfl rfl) ER.sb fun a F => ?_
      refine dq F (fun wq hS => r_nil F rfl) ER.sb fun a F => ?_
      refine df F ff_131_1 ER.sb fun a F => ?_
      replace H := ifN H
      obtain ⟨g878, H⟩ := H
      obtain ⟨cs880, h881, r882⟩ := AR.at (off := 1) zh33 rfl zh853 (IntKind.i64.wrap ((IntKind.i64.wrap (2 * i851)) + 1)) g878.1 (by have g_ := g878.2; omega)
      obtain rfl : cs880 = [.int .u64 (rd l854 (IntKind.i64.wrap ((IntKind.i64.wrap (2 * i851)) + 1)))] := r882
      obtain ⟨qa883, qqa883⟩ : ∃ q, q = (qa31.add (1 + (IntKind.i64.wrap ((IntKind.i64.wrap (2 * i851)) + 1)).toNat * 1)) := ⟨_, rfl⟩
      have h881 : AT true (m + 2) c855 w856 qa883 [.int .u64 (rd l854 (IntKind.i64.wrap ((IntKind.i64.wrap (2 * i851)) + 1)))] := by rw [qqa883]; exact h881
      have zh881 := h881
      as_aux_lemma =>
      refine dq F (fun wq hS => r_indexArr3 F ua_128 sz_55 rfl rfl g878.1 (by have g_ := g878.2; omega) h33 qqa883) ER.sb fun a F => ?_
      refine dq F (fun wq hS => r_load F rfl ag_55 (AT.cell0 (AT.sb zh881 hS nq) rfl)) ER.sb fun a F => ?_
      refine dm F ER.sb fun a F => ?_
      refine d_f ?_ ?_
      ·obtain ⟨t801, q802, H⟩ := bind_some H
       refine oc F Try.func76 (merkle_ofPair.calls k (m := m + 5) (pl hm0) B _ q802) ?_
       rintro e w886 ⟨c885, rfl, E887, B888⟩
       refine ⟨_, rfl, fun a F => ?_⟩
       have B := B888
       replace ER := ER.trans E887 nx
       replace h33 := h33.ev E887 nq
       replace h593 := h593.ev E887 nq nq
       replace h853 := h853.ev E887 nq
       replace E := E.trans E887 nx
       refine ⟨fun _ => ER.sb, ?_⟩
       refine d_e ?_
       refine o_val F rfl rfl rfl (by decide) (r_nil F rfl) fun a F => ?_
       refine ⟨fun _ => ER.sb, ?_⟩
       refine d_e ?_
       refine o_val F rfl rfl rfl (by decide) (r_fieldAddr F rfl ff_131_1) fun a F => ?_
       refine ⟨fun _ => ER.sb, ?_⟩
       replace H := ifN H
       obtain ⟨g890, H⟩ := H
       obtain ⟨cs892, h893, r894⟩ := AR.at (off := 1) zh33 rfl zh853 i851 g890.1 (by have g_ := g890.2; omega)
       obtain rfl : cs892 = [.int .u64 (rd l854 i851)] := r894
       obtain ⟨qa895, qqa895⟩ : ∃ q, q = (qa31.add (1 + i851.toNat * 1)) := ⟨_, rfl⟩
       have h893 : AT true (m + 2) c855 w856 qa895 [.int .u64 (rd l854 i851)] := by rw [qqa895]; exact h893
       as_aux_lemma =>
       replace h893 := h893.ev ER nq
       refine dq F (fun wq hS => r_indexArr3 F ua_128 sz_55 rfl rfl g890.1 (by have g_ := g890.2; omega) h33 qqa895) ER.sb fun a F => ?_
       refine d_e ?_
       refine o_eff0 F rfl rfl rfl (e_storear0 F rfl rfl sz_55 h33 rfl h853 (m := i851.toNat) (by have g_ := g890; omega) qqa895 h893 rfl (nb rfl) rfl t801 rfl ne_zm) ?_
       rintro w897 a ⟨cs900, E898, h33, h853, Z899⟩ F
       replace B := B.size Z899
       replace h593 := h593.ev E898 mm ne_zm
       replace E := E.trans E898 lc1
       replace h33 : AT true (m + 2) c885 w897 qa31 (([.int .i64 a5] : List Value) ++ (cs900 ++ (([] : List Value) ++ (cs595 ++ (([.int .i64 (a1.length : Int)] : List Value)))))) := h33
       refine ⟨fun q => absurd rfl q, ?_⟩
       refine d_nil ?_
       refine hK868 _ _ ?_
       replace F : Fr a 98 [(1, .int .i64 a5), (6, .pointer (some qa31)), (11, .int .i64 i851)] := F.sub ⟨rfl, rfl, rfl, trivial⟩
       refine reg ?_
       refine qm F fun a F => ?_
       refine qv F (r_sub F rfl rfl) fun a F => ?_
       refine qa F fun a F => ?_
       refine nil ?_
       replace H := HN858 _ (si H).symm
       exact hX857 _ _ _ (Nat.lt_succ_self _) ⟨(IntKind.i64.wrap (i851 - 1)), (l854.set i851.toNat t801), cs900, c885, F.sub ⟨rfl, rfl, rfl, trivial⟩, E, B, h33, h593, h853, H⟩
      obtain ⟨t801, q802, H⟩ := bind_some H
      refine o_val F rfl rfl rfl (by decide) (r_nil F rfl) fun a F => ?_
      as_aux_lemma =>
      refine ⟨fun _ => ER.sb, ?_⟩
      refine d_f ?_ ?_
      ·refine oc F Try.func76 (merkle_ofPair.calls k (m := m + 5) (pl hm0) B _ q802) ?_
       rintro e w902 ⟨c901, rfl, E903, B904⟩
       refine ⟨_, rfl, fun a F => ?_⟩
       have B := B904
       replace ER := ER.trans E903 nx
       replace h33 := h33.ev E903 nq
       replace h593 := h593.ev E903 nq nq
       replace h853 := h853.ev E903 nq
       replace E := E.trans E903 nx
       refine ⟨fun _ => ER.sb, ?_⟩
       refine d_e ?_
       refine o_val F rfl rfl rfl (by decide) (r_fieldAddr F rfl ff_131_1) fun a F => ?_
       refine ⟨fun _ => ER.sb, ?_⟩
       replace H := ifN H
       obtain ⟨g906, H⟩ := H
       obtain ⟨cs908, h909, r910⟩ := AR.at (off := 1) zh33 rfl zh853 i851 g906.1 (by have g_ := g906.2; omega)
       obtain rfl : cs908 = [.int .u64 (rd l854 i851)] := r910
       obtain ⟨qa911, qqa911⟩ : ∃ q, q = (qa31.add (1 + i851.toNat * 1)) := ⟨_, rfl⟩
       have h909 : AT true (m + 2) c855 w856 qa911 [.int .u64 (rd l854 i851)] := by rw [qqa911]; exact h909
       replace h909 := h909.ev ER nq
       refine dq F (fun wq hS => r_indexArr3 F ua_128 sz_55 rfl rfl g906.1 (by have g_ := g906.2; omega) h33 qqa911) ER.sb fun a F => ?_
       as_aux_lemma =>
       refine d_e ?_
       refine o_eff0 F rfl rfl rfl (e_storear0 F rfl rfl sz_55 h33 rfl h853 (m := i851.toNat) (by have g_ := g906; omega) qqa911 h909 rfl (nb rfl) rfl t801 rfl ne_zm) ?_
       rintro w913 a ⟨cs916, E914, h33, h853, Z915⟩ F
       replace B := B.size Z915
       replace h593 := h593.ev E914 mm ne_zm
       replace E := E.trans E914 lc1
       replace h33 : AT true (m + 2) c901 w913 qa31 (([.int .i64 a5] : List Value) ++ (cs916 ++ (([] : List Value) ++ (cs595 ++ (([.int .i64 (a1.length : Int)] : List Value)))))) := h33
       refine ⟨fun q => absurd rfl q, ?_⟩
       refine d_nil ?_
       refine hK868 _ _ ?_
       replace F : Fr a 98 [(1, .int .i64 a5), (6, .pointer (some qa31)), (11, .int .i64 i851)] := F.sub ⟨rfl, rfl, rfl, trivial⟩
       refine reg ?_
       refine qm F fun a F => ?_
       refine qv F (r_sub F rfl rfl) fun a F => ?_
       refine qa F fun a F => ?_
       refine nil ?_
       replace H := HN858 _ (si H).symm
       exact hX857 _ _ _ (Nat.lt_succ_self _) ⟨(IntKind.i64.wrap (i851 - 1)), (l854.set i851.toNat t801), cs916, c901, F.sub ⟨rfl, rfl, rfl, trivial⟩, E, B, h33, h593, h853, H⟩
      refine o_val F rfl rfl rfl (by decide) (r_fieldAddr F rfl ff_131_1) fun a F => ?_
      refine ⟨fun _ => ER.sb, ?_⟩
      refine d_e ?_
      refine oc F Try.func76 (merkle_ofPair.calls k (m := m + 5) (pl hm0) B _ q802) ?_
      rintro e w918 ⟨c917, rfl, E919, B920⟩
      as_aux_lemma =>
      refine ⟨_, rfl, fun a F => ?_⟩
      have B := B920
      replace ER := ER.trans E919 nx
      replace h33 := h33.ev E919 nq
      replace h593 := h593.ev E919 nq nq
      replace h853 := h853.ev E919 nq
      replace E := E.trans E919 nx
      refine ⟨fun _ => ER.sb, ?_⟩
      replace H := ifN H
      obtain ⟨g922, H⟩ := H
      obtain ⟨cs924, h925, r926⟩ := AR.at (off := 1) zh33 rfl zh853 i851 g922.1 (by have g_ := g922.2; omega)
      obtain rfl : cs924 = [.int .u64 (rd l854 i851)] := r926
      obtain ⟨qa927, qqa927⟩ : ∃ q, q = (qa31.add (1 + i851.toNat * 1)) := ⟨_, rfl⟩
      have h925 : AT true (m + 2) c855 w856 qa927 [.int .u64 (rd l854 i851)] := by rw [qqa927]; exact h925
      replace h925 := h925.ev ER nq
      refine dq F (fun wq hS => r_indexArr3 F ua_128 sz_55 rfl rfl g922.1 (by have g_ := g922.2; omega) h33 qqa927) ER.sb fun a F => ?_
      refine d_e ?_
      refine o_eff0 F rfl rfl rfl (e_storear0 F rfl rfl sz_55 h33 rfl h853 (m := i851.toNat) (by have g_ := g922; omega) qqa927 h925 rfl (nb rfl) rfl t801 rfl ne_zm) ?_
      rintro w929 a ⟨cs932, E930, h33, h853, Z931⟩ F
      replace B := B.size Z931
      replace h593 := h593.ev E930 mm ne_zm
      replace E := E.trans E930 lc1
      as_aux_lemma =>
      replace h33 : AT true (m + 2) c917 w929 qa31 (([.int .i64 a5] : List Value) ++ (cs932 ++ (([] : List Value) ++ (cs595 ++ (([.int .i64 (a1.length : Int)] : List Value)))))) := h33
      refine ⟨fun q => absurd rfl q, ?_⟩
      refine d_nil ?_
      refine hK868 _ _ ?_
      replace F : Fr a 98 [(1, .int .i64 a5), (6, .pointer (some qa31)), (11, .int .i64 i851)] := F.sub ⟨rfl, rfl, rfl, trivial⟩
      refine reg ?_
      refine qm F fun a F => ?_
      refine qv F (r_sub F rfl rfl) fun a F => ?_
      refine qa F fun a F => ?_
      refine nil ?_
      replace H := HN858 _ (si H).symm
      exact hX857 _ _ _ (Nat.lt_succ_self _) ⟨(IntKind.i64.wrap (i851 - 1)), (l854.set i851.toNat t801), cs932, c917, F.sub ⟨rfl, rfl, rfl, trivial⟩, E, B, h33, h593, h853, H⟩
     replace H := im hb867 H
     refine wp_cond_false (fb F (dz hb867)) ?_
     refine wp_exit ?_
     refine thenE ?_
     refine thenE ?_
     refine inbE ?_
     have hx_ := HD859 _ (si H).symm
     have H := HR863
     rw [← hx_] at H
     exact J940 c855 w856 a l854 cs852 (F.sub ⟨rfl, trivial⟩) E B h33 h593 h853 H
    refine loop_fuel (I := fun n a w => ∃ (i679 : Int) (l682 : List Int) (cs680 : List Value) (c : Nat → Nat), Fr a 98 [(1, .int .i64 a5), (6, .pointer (some qa31)), (53, .int .i64 i679)] ∧ Ev (fun x => False ∨ m ≤ x) c0 w0 c w ∧ CB (m + 5) c w ∧ AT true (m + 2) c w qa31 (([.int .i64 a5] : List Value) ++ (cs680 ++ (([] : List Value) ++ (cs595 ++ (([.int .i64 (a1.length : Int)] : List Value)))))) ∧ ARO (KOsl K_api_Row) (m + 1) c w cs595 256 l594 noHole ∧ AR (Kint .u64) 0 c w cs680 512 l682 ∧ loop (fun (s_ : Int × (List Int)) => merkle_New.b4 k a5 l594 s_.1 s_.2) n (i679, l682) = some x692) (k := k) ⟨0, (List.replicate 512 (0 : Int)), ((List.replicate 512 ([.int .u64 0] : List Value)).flatten), c597, F.sub ⟨rfl, rfl, rfl, trivial⟩, E, B, h33, h593, h27, HL⟩ ?_
    clear HL H E F B
    intro n689 X685 hX685 a w684 ⟨i679, l682, cs680, c683, F, E, B, h33, h593, h681, HL⟩
    obtain ⟨n690, ctl688, rfl, HB, HN686, HD687⟩ := loop_some HL
    have H : merkle_New.b4 k a5 l594 i679 l682 = some ctl688 := HB
    clear HB HL
    unfold merkle_New.b4 at H
    as_aux_lemma =>
    refine wp_seq_k fun K693 hK693 => reg ?_
    refine qv F (r_lss F rfl rfl) fun a F => ?_
    refine nil (hK693 _ _ ?_)
    refine wp_seq_k fun K694 hK694 => ?_
    by_cases hb695 : i679 < 256
    ·replace H := ip hb695 H
     refine wp_cond_true (fb F (dt hb695)) (wp_skip (hK694 _ _ ?_))
     refine wp_seq_k fun K696 hK696 => ?_
     refine wp_block ?_
     refine wp_seq_k fun K697 hK697 => reg ?_
     refine qm F fun a F => ?_
     refine qa F fun a F => ?_
     refine nil (hK697 _ _ ?_)
     refine regD (SB No c683 w684) 14 (.q 0 (.q 1 (.q 2 (.q 3 (.q 4 (.q 5 (.q 6 (.q 7 (.q 8 (.q 9 (.f 10 (.e 11 (.e 12 (.q 13 (.e 14 .nil)))) 11 (.f 10 (.e 12 (.q 13 (.e 14 .nil))) 12 (.e 10 (.q 13 (.e 14 .nil))))))))))))))) Try_hm (by decide +kernel) ?_
     intro w698 w1_ w2_ w3_ w4_
     have E699 : Ev No c683 w684 c683 w698 := Ev.same w1_ w2_ w3_ w4_
     replace B := B.same w1_
     have zh33 := h33
     have zh593 := h593
     have zh681 := h681
     have ER : Ev No c683 w684 c683 w698 := Ev.same w1_ w2_ w3_ w4_
     replace h33 := h33.ev E699 nq
     replace h593 := h593.ev E699 nq nq
     as_aux_lemma =>
     replace h681 := h681.ev E699 nq
     replace E := E.trans E699 nx
     refine dm F ER.sb fun a F => ?_
     refine dm F ER.sb fun a F => ?_
     refine dq F (fun wq hS => r_add F rfl rfl) ER.sb fun a F => ?_
     refine dm F ER.sb fun a F => ?_
     refine dm F ER.sb fun a F => ?_
     refine dq F (fun wq hS => r_nil F rfl) ER.sb fun a F => ?_
     refine df F ff_131_2 ER.sb fun a F => ?_
     replace H := ifN H
     obtain ⟨g700, H⟩ := H
     obtain ⟨cs702, h703, r704⟩ := ARO.at (off := 513) (AT.eqv (ds := (([.int .i64 a5] : List Value) ++ (cs680 ++ (([] : List Value)))) ++ (cs595 ++ (([.int .i64 (a1.length : Int)] : List Value)))) zh33 (by simp only [List.append_assoc])) (by have l0_ : cs680.length = 512 := (h681.1 : cs680.length = 512); simp only [List.length_append, List.length_cons, List.length_nil] <;> omega) zh593 i679 g700.1 (by have g_ := g700.2; omega)
     obtain ⟨A706, C707, rfl, h708⟩ := r704
     obtain ⟨qa705, qqa705⟩ : ∃ q, q = (qa31.add (513 + i679.toNat * 1)) := ⟨_, rfl⟩
     have h703 : AT true (m + 2) c683 w684 qa705 [.slice A706 (rd l594 i679).length C707] := by rw [qqa705]; exact h703
     replace h708 := h708.ev ER nq nq
     have zh703 := h703
     refine dq F (fun wq hS => r_indexArr3 F ua_129 sz_47 rfl rfl g700.1 (by have g_ := g700.2; omega) h33 qqa705) ER.sb fun a F => ?_
     refine dq F (fun wq hS => r_load F rfl ag_47 (AT.cell0 (AT.sb zh703 hS nq) rfl)) ER.sb fun a F => ?_
     refine dm F ER.sb fun a F => ?_
     refine d_f ?_ ?_
     ·obtain ⟨t629, q630, H⟩ := bind_some H
      refine oc F Try.func75 (merkle_ofBucket.calls k (m := m + 5) (pl hm0) B h708.r lm _ q630) ?_
      rintro e w711 ⟨c710, rfl, E712, B713⟩
      as_aux_lemma =>
      refine ⟨_, rfl, fun a F => ?_⟩
      have B := B713
      replace ER := ER.trans E712 nx
      replace h33 := h33.ev E712 nq
      replace h593 := h593.ev E712 nq nq
      replace h681 := h681.ev E712 nq
      replace E := E.trans E712 nx
      refine ⟨fun _ => ER.sb, ?_⟩
      refine d_e ?_
      refine o_val F rfl rfl rfl (by decide) (r_nil F rfl) fun a F => ?_
      refine ⟨fun _ => ER.sb, ?_⟩
      refine d_e ?_
      refine o_val F rfl rfl rfl (by decide) (r_fieldAddr F rfl ff_131_1) fun a F => ?_
      refine ⟨fun _ => ER.sb, ?_⟩
      replace H := ifN H
      obtain ⟨g715, H⟩ := H
      obtain ⟨cs717, h718, r719⟩ := AR.at (off := 1) zh33 rfl zh681 (IntKind.i64.wrap (256 + i679)) g715.1 (by have g_ := g715.2; omega)
      obtain rfl : cs717 = [.int .u64 (rd l682 (IntKind.i64.wrap (256 + i679)))] := r719
      obtain ⟨qa720, qqa720⟩ : ∃ q, q = (qa31.add (1 + (IntKind.i64.wrap (256 + i679)).toNat * 1)) := ⟨_, rfl⟩
      have h718 : AT true (m + 2) c683 w684 qa720 [.int .u64 (rd l682 (IntKind.i64.wrap (256 + i679)))] := by rw [qqa720]; exact h718
      replace h718 := h718.ev ER nq
      refine dq F (fun wq hS => r_indexArr3 F ua_128 sz_55 rfl rfl g715.1 (by have g_ := g715.2; omega) h33 qqa720) ER.sb fun a F => ?_
      as_aux_lemma =>
      refine d_e ?_
      refine o_eff0 F rfl rfl rfl (e_storear0 F rfl rfl sz_55 h33 rfl h681 (m := (IntKind.i64.wrap (256 + i679)).toNat) (by have g_ := g715; omega) qqa720 h718 rfl (nb rfl) rfl t629 rfl ne_zm) ?_
      rintro w722 a ⟨cs725, E723, h33, h681, Z724⟩ F
      replace B := B.size Z724
      replace h593 := h593.ev E723 mm ne_zm
      replace E := E.trans E723 lc1
      replace h33 : AT true (m + 2) c710 w722 qa31 (([.int .i64 a5] : List Value) ++ (cs725 ++ (([] : List Value) ++ (cs595 ++ (([.int .i64 (a1.length : Int)] : List Value)))))) := h33
      refine ⟨fun q => absurd rfl q, ?_⟩
      refine d_nil ?_
      refine hK696 _ _ ?_
      replace F : Fr a 98 [(1, .int .i64 a5), (6, .pointer (some qa31)), (53, .int .i64 i679)] := F.sub ⟨rfl, rfl, rfl, trivial⟩
      refine reg ?_
      refine qv F (r_add F rfl rfl) fun a F => ?_
      refine qm F fun a F => ?_
      refine nil ?_
      replace H := HN686 _ (si H).symm
      exact hX685 _ _ _ (Nat.lt_succ_self _) ⟨(IntKind.i64.wrap (i679 + 1)), (l682.set (IntKind.i64.wrap (256 + i679)).toNat t629), cs725, c710, F.sub ⟨rfl, rfl, rfl, trivial⟩, E, B, h33, h593, h681, H⟩
     obtain ⟨t629, q630, H⟩ := bind_some H
     refine o_val F rfl rfl rfl (by decide) (r_nil F rfl) fun a F => ?_
     refine ⟨fun _ => ER.sb, ?_⟩
     refine d_f ?_ ?_
     ·refine oc F Try.func75 (merkle_ofBucket.calls k (m := m + 5) (pl hm0) B h708.r lm _ q630) ?_
      rintro e w727 ⟨c726, rfl, E728, B729⟩
      as_aux_lemma =>
      refine ⟨_, rfl, fun a F => ?_⟩
      have B := B729
      replace ER := ER.trans E728 nx
      replace h33 := h33.ev E728 nq
      replace h593 := h593.ev E728 nq nq
      replace h681 := h681.ev E728 nq
      replace E := E.trans E728 nx
      refine ⟨fun _ => ER.sb, ?_⟩
      refine d_e ?_
      refine o_val F rfl rfl rfl (by decide) (r_fieldAddr F rfl ff_131_1) fun a F => ?_
      refine ⟨fun _ => ER.sb, ?_⟩
      replace H := ifN H
      obtain ⟨g731, H⟩ := H
      obtain ⟨cs733, h734, r735⟩ := AR.at (off := 1) zh33 rfl zh681 (IntKind.i64.wrap (256 + i679)) g731.1 (by have g_ := g731.2; omega)
      obtain rfl : cs733 = [.int .u64 (rd l682 (IntKind.i64.wrap (256 + i679)))] := r735
      obtain ⟨qa736, qqa736⟩ : ∃ q, q = (qa31.add (1 + (IntKind.i64.wrap (256 + i679)).toNat * 1)) := ⟨_, rfl⟩
      have h734 : AT true (m + 2) c683 w684 qa736 [.int .u64 (rd l682 (IntKind.i64.wrap (256 + i679)))] := by rw [qqa736]; exact h734
      replace h734 := h734.ev ER nq
      refine dq F (fun wq hS => r_indexArr3 F ua_128 sz_55 rfl rfl g731.1 (by have g_ := g731.2; omega) h33 qqa736) ER.sb fun a F => ?_
      refine d_e ?_
      refine o_eff0 F rfl rfl rfl (e_storear0 F rfl rfl sz_55 h33 rfl h681 (m := (IntKind.i64.wrap (256 + i679)).toNat) (by have g_ := g731; omega) qqa736 h734 rfl (nb rfl) rfl t629 rfl ne_zm) ?_
      rintro w738 a ⟨cs741, E739, h33, h681, Z740⟩ F
      as_aux_lemma =>
      replace B := B.size Z740
      replace h593 := h593.ev E739 mm ne_zm
      replace E := E.trans E739 lc1
      replace h33 : AT true (m + 2) c726 w738 qa31 (([.int .i64 a5] : List Value) ++ (cs741 ++ (([] : List Value) ++ (cs595 ++ (([.int .i64 (a1.length : Int)] : List Value)))))) := h33
      refine ⟨fun q => absurd rfl q, ?_⟩
      refine d_nil ?_
      refine hK696 _ _ ?_
      replace F : Fr a 98 [(1, .int .i64 a5), (6, .pointer (some qa31)), (53, .int .i64 i679)] := F.sub ⟨rfl, rfl, rfl, trivial⟩
      refine reg ?_
      refine qv F (r_add F rfl rfl) fun a F => ?_
      refine qm F fun a F => ?_
      refine nil ?_
      replace H := HN686 _ (si H).symm
      exact hX685 _ _ _ (Nat.lt_succ_self _) ⟨(IntKind.i64.wrap (i679 + 1)), (l682.set (IntKind.i64.wrap (256 + i679)).toNat t629), cs741, c726, F.sub ⟨rfl, rfl, rfl, trivial⟩, E, B, h33, h593, h681, H⟩
     refine o_val F rfl rfl rfl (by decide) (r_fieldAddr F rfl ff_131_1) fun a F => ?_
     refine ⟨fun _ => ER.sb, ?_⟩
     refine d_e ?_
     refine oc F Try.func75 (merkle_ofBucket.calls k (m := m + 5) (pl hm0) B h708.r lm _ q630) ?_
     rintro e w743 ⟨c742, rfl, E744, B745⟩
     refine ⟨_, rfl, fun a F => ?_⟩
     have B := B745
     replace ER := ER.trans E744 nx
     as_aux_lemma =>
     replace h33 := h33.ev E744 nq
     replace h593 := h593.ev E744 nq nq
     replace h681 := h681.ev E744 nq
     replace E := E.trans E744 nx
     refine ⟨fun _ => ER.sb, ?_⟩
     replace H := ifN H
     obtain ⟨g747, H⟩ := H
     obtain ⟨cs749, h750, r751⟩ := AR.at (off := 1) zh33 rfl zh681 (IntKind.i64.wrap (256 + i679)) g747.1 (by have g_ := g747.2; omega)
     obtain rfl : cs749 = [.int .u64 (rd l682 (IntKind.i64.wrap (256 + i679)))] := r751
     obtain ⟨qa752, qqa752⟩ : ∃ q, q = (qa31.add (1 + (IntKind.i64.wrap (256 + i679)).toNat * 1)) := ⟨_, rfl⟩
     have h750 : AT true (m + 2) c683 w684 qa752 [.int .u64 (rd l682 (IntKind.i64.wrap (256 + i679)))] := by rw [qqa752]; exact h750
     replace h750 := h750.ev ER nq
     refine dq F (fun wq hS => r_indexArr3 F ua_128 sz_55 rfl rfl g747.1 (by have g_ := g747.2; omega) h33 qqa752) ER.sb fun a F => ?_
     refine d_e ?_
     refine o_eff0 F rfl rfl rfl (e_storear0 F rfl rfl sz_55 h33 rfl h681 (m := (IntKind.i64.wrap (256 + i679)).toNat) (by have g_ := g747; omega) qqa752 h750 rfl (nb rfl) rfl t629 rfl ne_zm) ?_
     rintro w754 a ⟨cs757, E755, h33, h681, Z756⟩ F
     replace B := B.size Z756
     replace h593 := h593.ev E755 mm ne_zm
     replace E := E.trans E755 lc1
     replace h33 : AT true (m + 2) c742 w754 qa31 (([.int .i64 a5] : List Value) ++ (cs757 ++ (([] : List Value) ++ (cs595 ++ (([.int .i64 (a1.length : Int)] : List Value)))))) := h33
     refine ⟨fun q => absurd rfl q, ?_⟩
     refine d_nil ?_
     as_aux_lemma =>
     refine hK696 _ _ ?_
     replace F : Fr a 98 [(1, .int .i64 a5), (6, .pointer (some qa31)), (53, .int .i64 i679)] := F.sub ⟨rfl, rfl, rfl, trivial⟩
     refine reg ?_
     refine qv F (r_add F rfl rfl) fun a F => ?_
     refine qm F fun a F => ?_
     refine nil ?_
     replace H := HN686 _ (si H).symm
     exact hX685 _ _ _ (Nat.lt_succ_self _) ⟨(IntKind.i64.wrap (i679 + 1)), (l682.set (IntKind.i64.wrap (256 + i679)).toNat t629), cs757, c742, F.sub ⟨rfl, rfl, rfl, trivial⟩, E, B, h33, h593, h681, H⟩
    replace H := im hb695 H
    refine wp_cond_false (fb F (dz hb695)) ?_
    refine wp_exit ?_
    refine thenE ?_
    refine thenE ?_
    refine inbE ?_
    have hx_ := HD687 _ (si H).symm
    have H := HR691
    rw [← hx_] at H
    exact J765 c683 w684 a l682 cs680 (F.sub ⟨rfl, rfl, trivial⟩) E B h33 h593 h681 H
   refine loop_fuel (I := fun n a w => ∃ (i316 : Int) (l319 : List (List api_Row)) (cs317 : List Value) (c : Nat → Nat), Fr a 98 [(1, .int .i64 a5), (6, .pointer (some qa31)), (28, .slice A2 a1.length C3), (29, .int .i64 (a1.length : Int)), (30, .int .i64 i316)] ∧ Ev (fun x => False ∨ m ≤ x) c0 w0 c w ∧ CB (m + 5) c w ∧ AT true (m + 2) c w qa31 (([.int .i64 a5] : List Value) ++ (((List.replicate 512 ([.int .u64 0] : List Value)).flatten) ++ (([] : List Value) ++ (cs317 ++ (([.int .i64 (a1.length : Int)] : List Value)))))) ∧ AR (Kint .u64) 0 c w ((List.replicate 512 ([.int .u64 0] : List Value)).flatten) 512 (List.replicate 512 (0 : Int)) ∧ SL false K_api_Row 0 0 c w A2 C3 a1 ∧ ARO (KOsl K_api_Row) (m + 1) c w cs317 256 l319 noHole ∧ loop (fun (s_ : Int × (List (List api_Row))) => merkle_New.b2 k a1 s_.1 s_.2) n (i316, l319) = some x329) (k := k) ⟨0, (List.replicate 256 ([] : List api_Row)), ((List.replicate 256 ([.slice none 0 0] : List Value)).flatten), c29, F.sub ⟨rfl, rfl, rfl, rfl, rfl, trivial⟩, E, B, h33, h27, h4, h28, HL⟩ ?_
   clear HL H E F B
   intro n326 X322 hX322 a w321 ⟨i316, l319, cs317, c320, F, E, B, h33, h27, h4, h318, HL⟩
   obtain ⟨n327, ctl325, rfl, HB, HN323, HD324⟩ := loop_some HL
   have H : merkle_New.b2 k a1 i316 l319 = some ctl325 := HB
   clear HB HL
   unfold merkle_New.b2 at H
   as_aux_lemma =>
   refine wp_seq_k fun K330 hK330 => reg ?_
   refine qv F (r_lss F rfl rfl) fun a F => ?_
   refine nil (hK330 _ _ ?_)
   refine wp_seq_k fun K331 hK331 => ?_
   by_cases hb332 : i316 < (a1.length : Int)
   ·replace H := ip hb332 H
    refine wp_cond_true (fb F (dt hb332)) (wp_skip (hK331 _ _ ?_))
    refine wp_seq_k fun K333 hK333 => ?_
    refine wp_block ?_
    refine wp_seq_k fun K334 hK334 => reg ?_
    replace H := ifN H
    obtain ⟨g335, H⟩ := H
    obtain ⟨ad336, cs337, e338, h339, r340⟩ := SL.at h4 i316 g335.1 g335.2
    obtain ⟨A341, C342, A344, C345, rfl, h343, h346⟩ := r340
    replace h343 := SL.fl (i' := 0) h343 (fun q => q)
    replace h346 := SL.fl (i' := 0) h346 (fun q => q)
    obtain ⟨qa347, qqa347⟩ : ∃ q, q = (ad336.add (i316.toNat * 3)) := ⟨_, rfl⟩
    have h339 : AT false 0 c320 w321 qa347 [.slice A341 ((rd a1 i316).Key).length C342, .slice A344 ((rd a1 i316).Value).length C345, .int .i64 ((rd a1 i316).Rev)] := by rw [qqa347]; exact h339
    refine qv F (r_indexAddr' F Try.underlying47 sz_93 rfl rfl g335.1 g335.2 e338 qqa347) fun a F => ?_
    refine qv F (r_loads (cs := [.slice A341 ((rd a1 i316).Key).length C342, .slice A344 ((rd a1 i316).Value).length C345, .int .i64 ((rd a1 i316).Rev)]) F rfl ag_93 sz_93 h339) fun a F => ?_
    refine q_eff F rfl rfl (by decide) (e_alloc F zv_93 c320 (m + 3)) ?_
    rintro v w350 a ⟨c349, qa70, rfl, E351, h72, B352⟩ F
    replace B := B352 _ B lm
    as_aux_lemma =>
    replace h33 := h33.ev E351 nq
    replace h27 := h27.ev E351 nq
    replace h4 := h4.ev E351 nq nq
    replace h318 := h318.ev E351 nq nq
    replace h343 := h343.ev E351 nq nq
    replace h346 := h346.ev E351 nq nq
    replace E := E.trans E351 nx
    replace h72 : AT true (m + 3) c349 w350 qa70 [.slice none 0 0, .slice none 0 0, .int .i64 0] := h72
    refine q_eff0 F rfl rfl (e_storeN0 (us := [.slice A341 ((rd a1 i316).Key).length C342, .slice A344 ((rd a1 i316).Value).length C345, .int .i64 ((rd a1 i316).Rev)]) F rfl rfl sz_93 h72 (nb rfl) (one_all rfl)) ?_
    rintro w353 a ⟨E354, h72, Z355⟩ F
    replace B := B.size Z355
    replace h33 := h33.ev E354 mm
    replace h27 := h27.ev E354 ne_zm
    replace h4 := h4.ev E354 ne_zm ne_zm
    replace h318 := h318.ev E354 mm ne_zm
    replace h343 := h343.ev E354 ne_zm ne_zm
    replace h346 := h346.ev E354 ne_zm ne_zm
    replace E := E.trans E354 lc1
    replace h72 : AT true (m + 3) c349 w353 qa70 [.slice A341 ((rd a1 i316).Key).length C342, .slice A344 ((rd a1 i316).Value).length C345, .int .i64 ((rd a1 i316).Rev)] := h72
    refine nil (hK334 _ _ ?_)
    refine wp_seq_k fun K356 hK356 => reg ?_
    refine qf F ff_93_0 fun a F => ?_
    as_aux_lemma =>
    refine qv F (r_load F rfl ag_28 (AT.cell h72 rfl)) fun a F => ?_
    obtain ⟨t79, q80, H⟩ := bind_some H
    refine qc F Try.func73 (merkle_bucket.calls k (m := m + 5) (pl hm0) B h343 _ q80) ?_
    rintro e w358 ⟨c357, rfl, E359, B360⟩
    refine ⟨_, rfl, fun a F => ?_⟩
    have B := B360
    replace h33 := h33.ev E359 nq
    replace h27 := h27.ev E359 nq
    replace h4 := h4.ev E359 nq nq
    replace h318 := h318.ev E359 nq nq
    replace h343 := h343.ev E359 nq nq
    replace h346 := h346.ev E359 nq nq
    replace h72 := h72.ev E359 nq
    replace E := E.trans E359 nx
    refine qa F fun a F => ?_
    refine nil (hK356 _ _ ?_)
    replace H := ifN H
    obtain ⟨g362, H⟩ := H
    obtain ⟨c363, e364, e365, A366, C367, h368, h369, h318⟩ := ARO.lend (off := 513) (z := m + 4) (AT.eqv (ds := (([.int .i64 a5] : List Value) ++ (((List.replicate 512 ([.int .u64 0] : List Value)).flatten) ++ (([] : List Value)))) ++ (cs317 ++ (([.int .i64 (a1.length : Int)] : List Value)))) h33 (by simp only [List.append_assoc])) (by have l0_ : ((List.replicate 512 ([.int .u64 0] : List Value)).flatten).length = 512 := (h27.1 : ((List.replicate 512 ([.int .u64 0] : List Value)).flatten).length = 512); simp only [List.length_append, List.length_cons, List.length_nil] <;> omega) h318 t79 g362.1 (by have g_ := g362.2; omega) ⟨mm, (pl hm0)⟩
    obtain ⟨qa370, qqa370⟩ : ∃ q, q = (qa31.add (513 + t79.toNat * 1)) := ⟨_, rfl⟩
    have h368 : AT true (m + 2) c357 w358 qa370 [.slice A366 (rd l319 t79).length C367] := by rw [qqa370]; exact h368
    replace h33 := AT.rc (c' := c363) (j' := m + 2) h33 (fun k_ hk_ => (e364 k_ (by rw [hk_]; exact mm)).trans hk_)
    as_aux_lemma =>
    replace h27 := AR.rc (c' := c363) (i' := 0) h27 (fun k_ hk_ => (e364 k_ (by rw [hk_]; exact ne_zm)).trans hk_)
    replace h4 := SL.rc (c' := c363) (j' := 0) (i' := 0) h4 (fun k_ hk_ => (e364 k_ (by rw [hk_]; exact ne_zm)).trans hk_) (fun k_ hk_ => (e364 k_ (by rw [hk_]; exact ne_zm)).trans hk_)
    replace h343 := SL.rc (c' := c363) (j' := 0) (i' := 0) h343 (fun k_ hk_ => (e364 k_ (by rw [hk_]; exact ne_zm)).trans hk_) (fun k_ hk_ => (e364 k_ (by rw [hk_]; exact ne_zm)).trans hk_)
    replace h346 := SL.rc (c' := c363) (j' := 0) (i' := 0) h346 (fun k_ hk_ => (e364 k_ (by rw [hk_]; exact ne_zm)).trans hk_) (fun k_ hk_ => (e364 k_ (by rw [hk_]; exact ne_zm)).trans hk_)
    replace h72 := AT.rc (c' := c363) (j' := m + 3) h72 (fun k_ hk_ => (e364 k_ (by rw [hk_]; exact mm)).trans hk_)
    replace h368 := AT.rc (c' := c363) (j' := m + 2) h368 (fun k_ hk_ => (e364 k_ (by rw [hk_]; exact mm)).trans hk_)
    replace E : Ev (fun x => False ∨ m ≤ x) c0 w0 c363 w358 := E.recol B0 (fun b_ hb_ => e364 b_ (by omega))
    replace B : CB (m + 5) c363 w358 := B.recol (fun b_ => (e365 b_).imp id (fun q_ => by rw [q_]; exact lm))
    refine regD (SB (fun x => x = m + 4) c363 w358) 15 (.q 0 (.q 1 (.q 2 (.q 3 (.q 4 (.q 5 (.q 6 (.q 7 (.q 8 (.f 9 (.f 10 (.f 11 (.e 12 (.e 13 (.q 14 (.e 15 .nil)))) 12 (.f 11 (.e 13 (.q 14 (.e 15 .nil))) 13 (.e 11 (.q 14 (.e 15 .nil))))) 12 (.f 10 (.f 11 (.e 13 (.q 14 (.e 15 .nil))) 13 (.e 11 (.q 14 (.e 15 .nil)))) 13 (.e 10 (.e 11 (.q 14 (.e 15 .nil)))))) 12 (.f 9 (.f 10 (.f 11 (.e 13 (.q 14 (.e 15 .nil))) 13 (.e 11 (.q 14 (.e 15 .nil)))) 13 (.e 10 (.e 11 (.q 14 (.e 15 .nil))))) 13 (.e 9 (.e 10 (.e 11 (.q 14 (.e 15 .nil)))))))))))))))) Try_hm (by decide +kernel) ?_
    intro w372 w1_ w2_ w3_ w4_
    have E373 : Ev No c363 w358 c363 w372 := Ev.same w1_ w2_ w3_ w4_
    replace B := B.same w1_
    have zh72 := h72
    have zh368 := h368
    have ER : Ev (fun x => x = m + 4) c363 w358 c363 w372 := Ev.same w1_ w2_ w3_ w4_
    replace h33 := h33.ev E373 nq
    replace h27 := h27.ev E373 nq
    replace h4 := h4.ev E373 nq nq
    replace h318 := h318.ev E373 nq nq
    replace h343 := h343.ev E373 nq nq
    replace h346 := h346.ev E373 nq nq
    replace h368 := h368.ev E373 nq
    as_aux_lemma =>
    replace h369 := h369.ev E373 nq nq
    replace E := E.trans E373 nx
    refine dm F ER.sb fun a F => ?_
    refine dm F ER.sb fun a F => ?_
    refine dm F ER.sb fun a F => ?_
    refine dm F ER.sb fun a F => ?_
    refine dq F (fun wq hS => r_nil F rfl) ER.sb fun a F => ?_
    refine df F ff_131_2 ER.sb fun a F => ?_
    refine dq F (fun wq hS => r_indexArr3 F ua_129 sz_47 rfl rfl g362.1 (by have g_ := g362.2; omega) h33 qqa370) ER.sb fun a F => ?_
    refine dq F (fun wq hS => r_load F rfl ag_47 (AT.cell0 (AT.sb zh368 hS mm) rfl)) ER.sb fun a F => ?_
    refine dq F (fun wq hS => r_loads (cs := [.slice A341 ((rd a1 i316).Key).length C342, .slice A344 ((rd a1 i316).Value).length C345, .int .i64 ((rd a1 i316).Rev)]) F rfl ag_93 sz_93 (AT.sb zh72 hS mm)) ER.sb fun a F => ?_
    refine d_f ?_ ?_
    ·obtain ⟨t98, q99, H⟩ := bind_some H
     refine oc F Try.func74 (merkle_own.calls (m := m + 5) (pl hm0) B h343 h346 _ q99) ?_
     rintro e w375 ⟨c374, A378, C379, A381, C382, rfl, E376, B377, h380, h383⟩
     refine ⟨_, rfl, fun a F => ?_⟩
     have B := B377
     replace ER := ER.trans E376 nx
     replace h33 := h33.ev E376 nq
     replace h27 := h27.ev E376 nq
     replace h4 := h4.ev E376 nq nq
     replace h318 := h318.ev E376 nq nq
     replace h368 := h368.ev E376 nq
     as_aux_lemma =>
     replace h369 := h369.ev E376 nq nq
     replace E := E.trans E376 nx
     refine ⟨fun _ => ER.sb, ?_⟩
     refine d_f ?_ ?_
     ·refine o_eff F rfl rfl rfl (by decide) (e_buildSlice (n := 1) (e := 93) (c := c374) (k := K_api_Row) (i := 0) F [(0, .agg #[.slice A378 t98.Key.length C379, .slice A381 t98.Value.length C382, .int .i64 t98.Rev])] [.slice A378 t98.Key.length C379, .slice A381 t98.Value.length C382, .int .i64 t98.Rev] ([t98] : List api_Row) (by exact ⟨rfl, rfl, trivial⟩) (fun w => by kernel_rfl) rfl (by decide) rfl ⟨⟨A378, C379, A381, C382, rfl, (SL.fl h380 (fun q => q)), (SL.fl h383 (fun q => q))⟩, trivial⟩ (fun q => q) 0) ?_
      rintro v w386 a ⟨c385, A387, C388, rfl, E389, h390, B391⟩ F
      replace B := B391 _ B (pl hm0)
      replace ER := ER.trans E389 nx
      replace h33 := h33.ev E389 nq
      replace h27 := h27.ev E389 nq
      replace h4 := h4.ev E389 nq nq
      replace h318 := h318.ev E389 nq nq
      replace h368 := h368.ev E389 nq
      replace h369 := h369.ev E389 nq nq
      replace E := E.trans E389 nx
      refine ⟨fun _ => ER.sb, ?_⟩
      refine d_f ?_ ?_
      ·replace H := ifN H
       obtain ⟨g118, H⟩ := H
       refine o_eff F rfl rfl rfl (by decide) (e_append (k := K_api_Row) (xs := (rd l319 t79)) (ys := [t98]) (c := c385) (j := (m + 4)) (i := 0) F et_47 rfl rfl h369 h390 g118 (len_ok g118) ne_zm) ?_
       rintro v w393 a ⟨c392, A394, C395, rfl, E396, h397, B398⟩ F
       replace B := B398 _ B lm
       replace ER := ER.trans E396 (fun x q => by replace q : x = m + 4 := q; show x = m + 4; omega)
       replace h33 := h33.ev E396 mm
       as_aux_lemma =>
       replace h27 := h27.ev E396 ne_zm
       replace h4 := h4.ev E396 ne_zm ne_zm
       replace h318 := h318.ev E396 mm ne_zm
       replace h368 := h368.ev E396 mm
       replace E := E.trans E396 lc1
       refine ⟨fun _ => ER.sb, ?_⟩
       refine d_e ?_
       refine o_val F rfl rfl rfl (by decide) (r_nil F rfl) fun a F => ?_
       refine ⟨fun _ => ER.sb, ?_⟩
       refine d_e ?_
       refine o_val F rfl rfl rfl (by decide) (r_fieldAddr F rfl ff_131_2) fun a F => ?_
       refine ⟨fun _ => ER.sb, ?_⟩
       refine dq F (fun wq hS => r_indexArr3 F ua_129 sz_47 rfl rfl g362.1 (by have g_ := g362.2; omega) h33 qqa370) ER.sb fun a F => ?_
       refine d_e ?_
       refine o_eff0 F rfl rfl rfl (e_storearH F rfl rfl sz_47 (AT.eqv (ds := (([.int .i64 a5] : List Value) ++ (((List.replicate 512 ([.int .u64 0] : List Value)).flatten) ++ (([] : List Value)))) ++ (cs317 ++ (([.int .i64 (a1.length : Int)] : List Value)))) h33 (by simp only [List.append_assoc])) (by have l0_ : ((List.replicate 512 ([.int .u64 0] : List Value)).flatten).length = 512 := (h27.1 : ((List.replicate 512 ([.int .u64 0] : List Value)).flatten).length = 512); simp only [List.length_append, List.length_cons, List.length_nil] <;> omega) h318 (m := t79.toNat) (by have g_ := g362; omega) qqa370 rfl mm (pl hm0)) ?_
       rintro w399 a ⟨cs402, E400, h33, h318, h368, Z401⟩ F
       replace B := B.size Z401
       replace h27 := h27.ev E400 ne_zm
       replace h4 := h4.ev E400 ne_zm ne_zm
       replace h397 := h397.ev E400 mm ne_zm
       replace E := E.trans E400 lc1
       replace h33 : AT true (m + 2) c392 w399 qa31 (([.int .i64 a5] : List Value) ++ (((List.replicate 512 ([.int .u64 0] : List Value)).flatten) ++ (([] : List Value) ++ (cs402 ++ (([.int .i64 (a1.length : Int)] : List Value)))))) := AT.eqv h33 (by simp only [List.append_assoc])
       as_aux_lemma =>
       refine ⟨fun q => absurd rfl q, ?_⟩
       refine d_nil ?_
       obtain ⟨c403, e404, e405, h318⟩ := ARO.back (off := 513) (z := m + 4) (k := t79) (AT.eqv (ds := (([.int .i64 a5] : List Value) ++ (((List.replicate 512 ([.int .u64 0] : List Value)).flatten) ++ (([] : List Value)))) ++ (cs402 ++ (([.int .i64 (a1.length : Int)] : List Value)))) h33 (by simp only [List.append_assoc])) (by have l0_ : ((List.replicate 512 ([.int .u64 0] : List Value)).flatten).length = 512 := (h27.1 : ((List.replicate 512 ([.int .u64 0] : List Value)).flatten).length = 512); simp only [List.length_append, List.length_cons, List.length_nil] <;> omega) h318 g362.1 (by have g_ := g362.2; omega) (by rw [← qqa370]; exact h368) h397 ⟨mm, (pl hm0)⟩
       replace h33 := AT.rc (c' := c403) (j' := m + 2) h33 (fun k_ hk_ => (e404 k_ (by rw [hk_]; exact mm)).trans hk_)
       replace h27 := AR.rc (c' := c403) (i' := 0) h27 (fun k_ hk_ => (e404 k_ (by rw [hk_]; exact ne_zm)).trans hk_)
       replace h4 := SL.rc (c' := c403) (j' := 0) (i' := 0) h4 (fun k_ hk_ => (e404 k_ (by rw [hk_]; exact ne_zm)).trans hk_) (fun k_ hk_ => (e404 k_ (by rw [hk_]; exact ne_zm)).trans hk_)
       replace E : Ev (fun x => False ∨ m ≤ x) c0 w0 c403 w399 := E.recol B0 (fun b_ hb_ => e404 b_ (by omega))
       replace B : CB (m + 5) c403 w399 := B.recol (fun b_ => (e405 b_).imp id (fun q_ => by rw [q_]; exact lm))
       refine hK333 _ _ ?_
       replace F : Fr a 98 [(1, .int .i64 a5), (6, .pointer (some qa31)), (28, .slice A2 a1.length C3), (29, .int .i64 (a1.length : Int)), (30, .int .i64 i316)] := F.sub ⟨rfl, rfl, rfl, rfl, rfl, trivial⟩
       refine reg ?_
       refine qv F (r_add F rfl rfl) fun a F => ?_
       refine qm F fun a F => ?_
       refine nil ?_
       replace H := HN323 _ (si H).symm
       exact hX322 _ _ _ (Nat.lt_succ_self _) ⟨(IntKind.i64.wrap (i316 + 1)), (l319.set t79.toNat ((rd l319 t79) ++ [t98])), cs402, c403, F.sub ⟨rfl, rfl, rfl, rfl, rfl, trivial⟩, E, B, h33, h27, h4, h318, H⟩
      replace H := ifN H
      obtain ⟨g118, H⟩ := H
      refine o_val F rfl rfl rfl (by decide) (r_nil F rfl) fun a F => ?_
      refine ⟨fun _ => ER.sb, ?_⟩
      refine d_f ?_ ?_
      ·refine o_eff F rfl rfl rfl (by decide) (e_append (k := K_api_Row) (xs := (rd l319 t79)) (ys := [t98]) (c := c385) (j := (m + 4)) (i := 0) F et_47 rfl rfl h369 h390 g118 (len_ok g118) ne_zm) ?_
       rintro v w407 a ⟨c406, A408, C409, rfl, E410, h411, B412⟩ F
       as_aux_lemma =>
       replace B := B412 _ B lm
       replace ER := ER.trans E410 (fun x q => by replace q : x = m + 4 := q; show x = m + 4; omega)
       replace h33 := h33.ev E410 mm
       replace h27 := h27.ev E410 ne_zm
       replace h4 := h4.ev E410 ne_zm ne_zm
       replace h318 := h318.ev E410 mm ne_zm
       replace h368 := h368.ev E410 mm
       replace E := E.trans E410 lc1
       refine ⟨fun _ => ER.sb, ?_⟩
       refine d_e ?_
       refine o_val F rfl rfl rfl (by decide) (r_fieldAddr F rfl ff_131_2) fun a F => ?_
       refine ⟨fun _ => ER.sb, ?_⟩
       refine dq F (fun wq hS => r_indexArr3 F ua_129 sz_47 rfl rfl g362.1 (by have g_ := g362.2; omega) h33 qqa370) ER.sb fun a F => ?_
       refine d_e ?_
       refine o_eff0 F rfl rfl rfl (e_storearH F rfl rfl sz_47 (AT.eqv (ds := (([.int .i64 a5] : List Value) ++ (((List.replicate 512 ([.int .u64 0] : List Value)).flatten) ++ (([] : List Value)))) ++ (cs317 ++ (([.int .i64 (a1.length : Int)] : List Value)))) h33 (by simp only [List.append_assoc])) (by have l0_ : ((List.replicate 512 ([.int .u64 0] : List Value)).flatten).length = 512 := (h27.1 : ((List.replicate 512 ([.int .u64 0] : List Value)).flatten).length = 512); simp only [List.length_append, List.length_cons, List.length_nil] <;> omega) h318 (m := t79.toNat) (by have g_ := g362; omega) qqa370 rfl mm (pl hm0)) ?_
       rintro w413 a ⟨cs416, E414, h33, h318, h368, Z415⟩ F
       replace B := B.size Z415
       replace h27 := h27.ev E414 ne_zm
       replace h4 := h4.ev E414 ne_zm ne_zm
       replace h411 := h411.ev E414 mm ne_zm
       replace E := E.trans E414 lc1
       replace h33 : AT true (m + 2) c406 w413 qa31 (([.int .i64 a5] : List Value) ++ (((List.replicate 512 ([.int .u64 0] : List Value)).flatten) ++ (([] : List Value) ++ (cs416 ++ (([.int .i64 (a1.length : Int)] : List Value)))))) := AT.eqv h33 (by simp only [List.append_assoc])
       as_aux_lemma =>
       refine ⟨fun q => absurd rfl q, ?_⟩
       refine d_nil ?_
       obtain ⟨c417, e418, e419, h318⟩ := ARO.back (off := 513) (z := m + 4) (k := t79) (AT.eqv (ds := (([.int .i64 a5] : List Value) ++ (((List.replicate 512 ([.int .u64 0] : List Value)).flatten) ++ (([] : List Value)))) ++ (cs416 ++ (([.int .i64 (a1.length : Int)] : List Value)))) h33 (by simp only [List.append_assoc])) (by have l0_ : ((List.replicate 512 ([.int .u64 0] : List Value)).flatten).length = 512 := (h27.1 : ((List.replicate 512 ([.int .u64 0] : List Value)).flatten).length = 512); simp only [List.length_append, List.length_cons, List.length_nil] <;> omega) h318 g362.1 (by have g_ := g362.2; omega) (by rw [← qqa370]; exact h368) h411 ⟨mm, (pl hm0)⟩
       replace h33 := AT.rc (c' := c417) (j' := m + 2) h33 (fun k_ hk_ => (e418 k_ (by rw [hk_]; exact mm)).trans hk_)
       replace h27 := AR.rc (c' := c417) (i' := 0) h27 (fun k_ hk_ => (e418 k_ (by rw [hk_]; exact ne_zm)).trans hk_)
       replace h4 := SL.rc (c' := c417) (j' := 0) (i' := 0) h4 (fun k_ hk_ => (e418 k_ (by rw [hk_]; exact ne_zm)).trans hk_) (fun k_ hk_ => (e418 k_ (by rw [hk_]; exact ne_zm)).trans hk_)
       replace E : Ev (fun x => False ∨ m ≤ x) c0 w0 c417 w413 := E.recol B0 (fun b_ hb_ => e418 b_ (by omega))
       replace B : CB (m + 5) c417 w413 := B.recol (fun b_ => (e419 b_).imp id (fun q_ => by rw [q_]; exact lm))
       refine hK333 _ _ ?_
       replace F : Fr a 98 [(1, .int .i64 a5), (6, .pointer (some qa31)), (28, .slice A2 a1.length C3), (29, .int .i64 (a1.length : Int)), (30, .int .i64 i316)] := F.sub ⟨rfl, rfl, rfl, rfl, rfl, trivial⟩
       refine reg ?_
       refine qv F (r_add F rfl rfl) fun a F => ?_
       refine qm F fun a F => ?_
       refine nil ?_
       replace H := HN323 _ (si H).symm
       exact hX322 _ _ _ (Nat.lt_succ_self _) ⟨(IntKind.i64.wrap (i316 + 1)), (l319.set t79.toNat ((rd l319 t79) ++ [t98])), cs416, c417, F.sub ⟨rfl, rfl, rfl, rfl, rfl, trivial⟩, E, B, h33, h27, h4, h318, H⟩
      refine o_val F rfl rfl rfl (by decide) (r_fieldAddr F rfl ff_131_2) fun a F => ?_
      refine ⟨fun _ => ER.sb, ?_⟩
      refine d_e ?_
      refine o_eff F rfl rfl rfl (by decide) (e_append (k := K_api_Row) (xs := (rd l319 t79)) (ys := [t98]) (c := c385) (j := (m + 4)) (i := 0) F et_47 rfl rfl h369 h390 g118 (len_ok g118) ne_zm) ?_
      rintro v w421 a ⟨c420, A422, C423, rfl, E424, h425, B426⟩ F
      replace B := B426 _ B lm
      as_aux_lemma =>
      replace ER := ER.trans E424 (fun x q => by replace q : x = m + 4 := q; show x = m + 4; omega)
      replace h33 := h33.ev E424 mm
      replace h27 := h27.ev E424 ne_zm
      replace h4 := h4.ev E424 ne_zm ne_zm
      replace h318 := h318.ev E424 mm ne_zm
      replace h368 := h368.ev E424 mm
      replace E := E.trans E424 lc1
      refine ⟨fun _ => ER.sb, ?_⟩
      refine dq F (fun wq hS => r_indexArr3 F ua_129 sz_47 rfl rfl g362.1 (by have g_ := g362.2; omega) h33 qqa370) ER.sb fun a F => ?_
      refine d_e ?_
      refine o_eff0 F rfl rfl rfl (e_storearH F rfl rfl sz_47 (AT.eqv (ds := (([.int .i64 a5] : List Value) ++ (((List.replicate 512 ([.int .u64 0] : List Value)).flatten) ++ (([] : List Value)))) ++ (cs317 ++ (([.int .i64 (a1.length : Int)] : List Value)))) h33 (by simp only [List.append_assoc])) (by have l0_ : ((List.replicate 512 ([.int .u64 0] : List Value)).flatten).length = 512 := (h27.1 : ((List.replicate 512 ([.int .u64 0] : List Value)).flatten).length = 512); simp only [List.length_append, List.length_cons, List.length_nil] <;> omega) h318 (m := t79.toNat) (by have g_ := g362; omega) qqa370 rfl mm (pl hm0)) ?_
      rintro w427 a ⟨cs430, E428, h33, h318, h368, Z429⟩ F
      replace B := B.size Z429
      replace h27 := h27.ev E428 ne_zm
      replace h4 := h4.ev E428 ne_zm ne_zm
      replace h425 := h425.ev E428 mm ne_zm
      replace E := E.trans E428 lc1
      replace h33 : AT true (m + 2) c420 w427 qa31 (([.int .i64 a5] : List Value) ++ (((List.replicate 512 ([.int .u64 0] : List Value)).flatten) ++ (([] : List Value) ++ (cs430 ++ (([.int .i64 (a1.length : Int)] : List Value)))))) := AT.eqv h33 (by simp only [List.append_assoc])
      refine ⟨fun q => absurd rfl q, ?_⟩
      refine d_nil ?_
      obtain ⟨c431, e432, e433, h318⟩ := ARO.back (off := 513) (z := m + 4) (k := t79) (AT.eqv (ds := (([.int .i64 a5] : List Value) ++ (((List.replicate 512 ([.int .u64 0] : List Value)).flatten) ++ (([] : List Value)))) ++ (cs430 ++ (([.int .i64 (a1.length : Int)] : List Value)))) h33 (by simp only [List.append_assoc])) (by have l0_ : ((List.replicate 512 ([.int .u64 0] : List Value)).flatten).length = 512 := (h27.1 : ((List.replicate 512 ([.int .u64 0] : List Value)).flatten).length = 512); simp only [List.length_append, List.length_cons, List.length_nil] <;> omega) h318 g362.1 (by have g_ := g362.2; omega) (by rw [← qqa370]; exact h368) h425 ⟨mm, (pl hm0)⟩
      replace h33 := AT.rc (c' := c431) (j' := m + 2) h33 (fun k_ hk_ => (e432 k_ (by rw [hk_]; exact mm)).trans hk_)
      as_aux_lemma =>
      replace h27 := AR.rc (c' := c431) (i' := 0) h27 (fun k_ hk_ => (e432 k_ (by rw [hk_]; exact ne_zm)).trans hk_)
      replace h4 := SL.rc (c' := c431) (j' := 0) (i' := 0) h4 (fun k_ hk_ => (e432 k_ (by rw [hk_]; exact ne_zm)).trans hk_) (fun k_ hk_ => (e432 k_ (by rw [hk_]; exact ne_zm)).trans hk_)
      replace E : Ev (fun x => False ∨ m ≤ x) c0 w0 c431 w427 := E.recol B0 (fun b_ hb_ => e432 b_ (by omega))
      replace B : CB (m + 5) c431 w427 := B.recol (fun b_ => (e433 b_).imp id (fun q_ => by rw [q_]; exact lm))
      refine hK333 _ _ ?_
      replace F : Fr a 98 [(1, .int .i64 a5), (6, .pointer (some qa31)), (28, .slice A2 a1.length C3), (29, .int .i64 (a1.length : Int)), (30, .int .i64 i316)] := F.sub ⟨rfl, rfl, rfl, rfl, rfl, trivial⟩
      refine reg ?_
      refine qv F (r_add F rfl rfl) fun a F => ?_
      refine qm F fun a F => ?_
      refine nil ?_
      replace H := HN323 _ (si H).symm
      exact hX322 _ _ _ (Nat.lt_succ_self _) ⟨(IntKind.i64.wrap (i316 + 1)), (l319.set t79.toNat ((rd l319 t79) ++ [t98])), cs430, c431, F.sub ⟨rfl, rfl, rfl, rfl, rfl, trivial⟩, E, B, h33, h27, h4, h318, H⟩
     refine o_val F rfl rfl rfl (by decide) (r_nil F rfl) fun a F => ?_
     refine ⟨fun _ => ER.sb, ?_⟩
     refine d_f ?_ ?_
     ·refine o_eff F rfl rfl rfl (by decide) (e_buildSlice (n := 1) (e := 93) (c := c374) (k := K_api_Row) (i := 0) F [(0, .agg #[.slice A378 t98.Key.length C379, .slice A381 t98.Value.length C382, .int .i64 t98.Rev])] [.slice A378 t98.Key.length C379, .slice A381 t98.Value.length C382, .int .i64 t98.Rev] ([t98] : List api_Row) (by exact ⟨rfl, rfl, trivial⟩) (fun w => by kernel_rfl) rfl (by decide) rfl ⟨⟨A378, C379, A381, C382, rfl, (SL.fl h380 (fun q => q)), (SL.fl h383 (fun q => q))⟩, trivial⟩ (fun q => q) 0) ?_
      rintro v w435 a ⟨c434, A436, C437, rfl, E438, h439, B440⟩ F
      replace B := B440 _ B (pl hm0)
      replace ER := ER.trans E438 nx
      replace h33 := h33.ev E438 nq
      replace h27 := h27.ev E438 nq
      replace h4 := h4.ev E438 nq nq
      replace h318 := h318.ev E438 nq nq
      as_aux_lemma =>
      replace h368 := h368.ev E438 nq
      replace h369 := h369.ev E438 nq nq
      replace E := E.trans E438 nx
      refine ⟨fun _ => ER.sb, ?_⟩
      refine d_f ?_ ?_
      ·replace H := ifN H
       obtain ⟨g118, H⟩ := H
       refine o_eff F rfl rfl rfl (by decide) (e_append (k := K_api_Row) (xs := (rd l319 t79)) (ys := [t98]) (c := c434) (j := (m + 4)) (i := 0) F et_47 rfl rfl h369 h439 g118 (len_ok g118) ne_zm) ?_
       rintro v w442 a ⟨c441, A443, C444, rfl, E445, h446, B447⟩ F
       replace B := B447 _ B lm
       replace ER := ER.trans E445 (fun x q => by replace q : x = m + 4 := q; show x = m + 4; omega)
       replace h33 := h33.ev E445 mm
       replace h27 := h27.ev E445 ne_zm
       replace h4 := h4.ev E445 ne_zm ne_zm
       replace h318 := h318.ev E445 mm ne_zm
       replace h368 := h368.ev E445 mm
       replace E := E.trans E445 lc1
       refine ⟨fun _ => ER.sb, ?_⟩
       refine d_e ?_
       refine o_val F rfl rfl rfl (by decide) (r_fieldAddr F rfl ff_131_2) fun a F => ?_
       refine ⟨fun _ => ER.sb, ?_⟩
       refine dq F (fun wq hS => r_indexArr3 F ua_129 sz_47 rfl rfl g362.1 (by have g_ := g362.2; omega) h33 qqa370) ER.sb fun a F => ?_
       refine d_e ?_
       as_aux_lemma =>
       refine o_eff0 F rfl rfl rfl (e_storearH F rfl rfl sz_47 (AT.eqv (ds := (([.int .i64 a5] : List Value) ++ (((List.replicate 512 ([.int .u64 0] : List Value)).flatten) ++ (([] : List Value)))) ++ (cs317 ++ (([.int .i64 (a1.length : Int)] : List Value)))) h33 (by simp only [List.append_assoc])) (by have l0_ : ((List.replicate 512 ([.int .u64 0] : List Value)).flatten).length = 512 := (h27.1 : ((List.replicate 512 ([.int .u64 0] : List Value)).flatten).length = 512); simp only [List.length_append, List.length_cons, List.length_nil] <;> omega) h318 (m := t79.toNat) (by have g_ := g362; omega) qqa370 rfl mm (pl hm0)) ?_
       rintro w448 a ⟨cs451, E449, h33, h318, h368, Z450⟩ F
       replace B := B.size Z450
       replace h27 := h27.ev E449 ne_zm
       replace h4 := h4.ev E449 ne_zm ne_zm
       replace h446 := h446.ev E449 mm ne_zm
       replace E := E.trans E449 lc1
       replace h33 : AT true (m + 2) c441 w448 qa31 (([.int .i64 a5] : List Value) ++ (((List.replicate 512 ([.int .u64 0] : List Value)).flatten) ++ (([] : List Value) ++ (cs451 ++ (([.int .i64 (a1.length : Int)] : List Value)))))) := AT.eqv h33 (by simp only [List.append_assoc])
       refine ⟨fun q => absurd rfl q, ?_⟩
       refine d_nil ?_
       obtain ⟨c452, e453, e454, h318⟩ := ARO.back (off := 513) (z := m + 4) (k := t79) (AT.eqv (ds := (([.int .i64 a5] : List Value) ++ (((List.replicate 512 ([.int .u64 0] : List Value)).flatten) ++ (([] : List Value)))) ++ (cs451 ++ (([.int .i64 (a1.length : Int)] : List Value)))) h33 (by simp only [List.append_assoc])) (by have l0_ : ((List.replicate 512 ([.int .u64 0] : List Value)).flatten).length = 512 := (h27.1 : ((List.replicate 512 ([.int .u64 0] : List Value)).flatten).length = 512); simp only [List.length_append, List.length_cons, List.length_nil] <;> omega) h318 g362.1 (by have g_ := g362.2; omega) (by rw [← qqa370]; exact h368) h446 ⟨mm, (pl hm0)⟩
       replace h33 := AT.rc (c' := c452) (j' := m + 2) h33 (fun k_ hk_ => (e453 k_ (by rw [hk_]; exact mm)).trans hk_)
       replace h27 := AR.rc (c' := c452) (i' := 0) h27 (fun k_ hk_ => (e453 k_ (by rw [hk_]; exact ne_zm)).trans hk_)
       replace h4 := SL.rc (c' := c452) (j' := 0) (i' := 0) h4 (fun k_ hk_ => (e453 k_ (by rw [hk_]; exact ne_zm)).trans hk_) (fun k_ hk_ => (e453 k_ (by rw [hk_]; exact ne_zm)).trans hk_)
       replace E : Ev (fun x => False ∨ m ≤ x) c0 w0 c452 w448 := E.recol B0 (fun b_ hb_ => e453 b_ (by omega))
       replace B : CB (m + 5) c452 w448 := B.recol (fun b_ => (e454 b_).imp id (fun q_ => by rw [q_]; exact lm))
       refine hK333 _ _ ?_
       replace F : Fr a 98 [(1, .int .i64 a5), (6, .pointer (some qa31)), (28, .slice A2 a1.length C3), (29, .int .i64 (a1.length : Int)), (30, .int .i64 i316)] := F.sub ⟨rfl, rfl, rfl, rfl, rfl, trivial⟩
       refine reg ?_
       refine qv F (r_add F rfl rfl) fun a F => ?_
       refine qm F fun a F => ?_
       refine nil ?_
       as_aux_lemma =>
       replace H := HN323 _ (si H).symm
       exact hX322 _ _ _ (Nat.lt_succ_self _) ⟨(IntKind.i64.wrap (i316 + 1)), (l319.set t79.toNat ((rd l319 t79) ++ [t98])), cs451, c452, F.sub ⟨rfl, rfl, rfl, rfl, rfl, trivial⟩, E, B, h33, h27, h4, h318, H⟩
      replace H := ifN H
      obtain ⟨g118, H⟩ := H
      refine o_val F rfl rfl rfl (by decide) (r_fieldAddr F rfl ff_131_2) fun a F => ?_
      refine ⟨fun _ => ER.sb, ?_⟩
      refine d_e ?_
      refine o_eff F rfl rfl rfl (by decide) (e_append (k := K_api_Row) (xs := (rd l319 t79)) (ys := [t98]) (c := c434) (j := (m + 4)) (i := 0) F et_47 rfl rfl h369 h439 g118 (len_ok g118) ne_zm) ?_
      rintro v w456 a ⟨c455, A457, C458, rfl, E459, h460, B461⟩ F
      replace B := B461 _ B lm
      replace ER := ER.trans E459 (fun x q => by replace q : x = m + 4 := q; show x = m + 4; omega)
      replace h33 := h33.ev E459 mm
      replace h27 := h27.ev E459 ne_zm
      replace h4 := h4.ev E459 ne_zm ne_zm
      replace h318 := h318.ev E459 mm ne_zm
      replace h368 := h368.ev E459 mm
      replace E := E.trans E459 lc1
      refine ⟨fun _ => ER.sb, ?_⟩
      refine dq F (fun wq hS => r_indexArr3 F ua_129 sz_47 rfl rfl g362.1 (by have g_ := g362.2; omega) h33 qqa370) ER.sb fun a F => ?_
      refine d_e ?_
      refine o_eff0 F rfl rfl rfl (e_storearH F rfl rfl sz_47 (AT.eqv (ds := (([.int .i64 a5] : List Value) ++ (((List.replicate 512 ([.int .u64 0] : List Value)).flatten) ++ (([] : List Value)))) ++ (cs317 ++ (([.int .i64 (a1.length : Int)] : List Value)))) h33 (by simp only [List.append_assoc])) (by have l0_ : ((List.replicate 512 ([.int .u64 0] : List Value)).flatten).length = 512 := (h27.1 : ((List.replicate 512 ([.int .u64 0] : List Value)).flatten).length = 512); simp only [List.length_append, List.length_cons, List.length_nil] <;> omega) h318 (m := t79.toNat) (by have g_ := g362; omega) qqa370 rfl mm (pl hm0)) ?_
      rintro w462 a ⟨cs465, E463, h33, h318, h368, Z464⟩ F
      as_aux_lemma =>
      replace B := B.size Z464
      replace h27 := h27.ev E463 ne_zm
      replace h4 := h4.ev E463 ne_zm ne_zm
      replace h460 := h460.ev E463 mm ne_zm
      replace E := E.trans E463 lc1
      replace h33 : AT true (m + 2) c455 w462 qa31 (([.int .i64 a5] : List Value) ++ (((List.replicate 512 ([.int .u64 0] : List Value)).flatten) ++ (([] : List Value) ++ (cs465 ++ (([.int .i64 (a1.length : Int)] : List Value)))))) := AT.eqv h33 (by simp only [List.append_assoc])
      refine ⟨fun q => absurd rfl q, ?_⟩
      refine d_nil ?_
      obtain ⟨c466, e467, e468, h318⟩ := ARO.back (off := 513) (z := m + 4) (k := t79) (AT.eqv (ds := (([.int .i64 a5] : List Value) ++ (((List.replicate 512 ([.int .u64 0] : List Value)).flatten) ++ (([] : List Value)))) ++ (cs465 ++ (([.int .i64 (a1.length : Int)] : List Value)))) h33 (by simp only [List.append_assoc])) (by have l0_ : ((List.replicate 512 ([.int .u64 0] : List Value)).flatten).length = 512 := (h27.1 : ((List.replicate 512 ([.int .u64 0] : List Value)).flatten).length = 512); simp only [List.length_append, List.length_cons, List.length_nil] <;> omega) h318 g362.1 (by have g_ := g362.2; omega) (by rw [← qqa370]; exact h368) h460 ⟨mm, (pl hm0)⟩
      replace h33 := AT.rc (c' := c466) (j' := m + 2) h33 (fun k_ hk_ => (e467 k_ (by rw [hk_]; exact mm)).trans hk_)
      replace h27 := AR.rc (c' := c466) (i' := 0) h27 (fun k_ hk_ => (e467 k_ (by rw [hk_]; exact ne_zm)).trans hk_)
      replace h4 := SL.rc (c' := c466) (j' := 0) (i' := 0) h4 (fun k_ hk_ => (e467 k_ (by rw [hk_]; exact ne_zm)).trans hk_) (fun k_ hk_ => (e467 k_ (by rw [hk_]; exact ne_zm)).trans hk_)
      replace E : Ev (fun x => False ∨ m ≤ x) c0 w0 c466 w462 := E.recol B0 (fun b_ hb_ => e467 b_ (by omega))
      replace B : CB (m + 5) c466 w462 := B.recol (fun b_ => (e468 b_).imp id (fun q_ => by rw [q_]; exact lm))
      refine hK333 _ _ ?_
      replace F : Fr a 98 [(1, .int .i64 a5), (6, .pointer (some qa31)), (28, .slice A2 a1.length C3), (29, .int .i64 (a1.length : Int)), (30, .int .i64 i316)] := F.sub ⟨rfl, rfl, rfl, rfl, rfl, trivial⟩
      refine reg ?_
      refine qv F (r_add F rfl rfl) fun a F => ?_
      refine qm F fun a F => ?_
      refine nil ?_
      replace H := HN323 _ (si H).symm
      exact hX322 _ _ _ (Nat.lt_succ_self _) ⟨(IntKind.i64.wrap (i316 + 1)), (l319.set t79.toNat ((rd l319 t79) ++ [t98])), cs465, c466, F.sub ⟨rfl, rfl, rfl, rfl, rfl, trivial⟩, E, B, h33, h27, h4, h318, H⟩
     as_aux_lemma =>
     refine o_val F rfl rfl rfl (by decide) (r_fieldAddr F rfl ff_131_2) fun a F => ?_
     refine ⟨fun _ => ER.sb, ?_⟩
     refine d_e ?_
     refine o_eff F rfl rfl rfl (by decide) (e_buildSlice (n := 1) (e := 93) (c := c374) (k := K_api_Row) (i := 0) F [(0, .agg #[.slice A378 t98.Key.length C379, .slice A381 t98.Value.length C382, .int .i64 t98.Rev])] [.slice A378 t98.Key.length C379, .slice A381 t98.Value.length C382, .int .i64 t98.Rev] ([t98] : List api_Row) (by exact ⟨rfl, rfl, trivial⟩) (fun w => by kernel_rfl) rfl (by decide) rfl ⟨⟨A378, C379, A381, C382, rfl, (SL.fl h380 (fun q => q)), (SL.fl h383 (fun q => q))⟩, trivial⟩ (fun q => q) 0) ?_
     rintro v w470 a ⟨c469, A471, C472, rfl, E473, h474, B475⟩ F
     replace B := B475 _ B (pl hm0)
     replace ER := ER.trans E473 nx
     replace h33 := h33.ev E473 nq
     replace h27 := h27.ev E473 nq
     replace h4 := h4.ev E473 nq nq
     replace h318 := h318.ev E473 nq nq
     replace h368 := h368.ev E473 nq
     replace h369 := h369.ev E473 nq nq
     replace E := E.trans E473 nx
     refine ⟨fun _ => ER.sb, ?_⟩
     refine d_e ?_
     replace H := ifN H
     obtain ⟨g118, H⟩ := H
     refine o_eff F rfl rfl rfl (by decide) (e_append (k := K_api_Row) (xs := (rd l319 t79)) (ys := [t98]) (c := c469) (j := (m + 4)) (i := 0) F et_47 rfl rfl h369 h474 g118 (len_ok g118) ne_zm) ?_
     rintro v w477 a ⟨c476, A478, C479, rfl, E480, h481, B482⟩ F
     replace B := B482 _ B lm
     replace ER := ER.trans E480 (fun x q => by replace q : x = m + 4 := q; show x = m + 4; omega)
     as_aux_lemma =>
     replace h33 := h33.ev E480 mm
     replace h27 := h27.ev E480 ne_zm
     replace h4 := h4.ev E480 ne_zm ne_zm
     replace h318 := h318.ev E480 mm ne_zm
     replace h368 := h368.ev E480 mm
     replace E := E.trans E480 lc1
     refine ⟨fun _ => ER.sb, ?_⟩
     refine dq F (fun wq hS => r_indexArr3 F ua_129 sz_47 rfl rfl g362.1 (by have g_ := g362.2; omega) h33 qqa370) ER.sb fun a F => ?_
     refine d_e ?_
     refine o_eff0 F rfl rfl rfl (e_storearH F rfl rfl sz_47 (AT.eqv (ds := (([.int .i64 a5] : List Value) ++ (((List.replicate 512 ([.int .u64 0] : List Value)).flatten) ++ (([] : List Value)))) ++ (cs317 ++ (([.int .i64 (a1.length : Int)] : List Value)))) h33 (by simp only [List.append_assoc])) (by have l0_ : ((List.replicate 512 ([.int .u64 0] : List Value)).flatten).length = 512 := (h27.1 : ((List.replicate 512 ([.int .u64 0] : List Value)).flatten).length = 512); simp only [List.length_append, List.length_cons, List.length_nil] <;> omega) h318 (m := t79.toNat) (by have g_ := g362; omega) qqa370 rfl mm (pl hm0)) ?_
     rintro w483 a ⟨cs486, E484, h33, h318, h368, Z485⟩ F
     replace B := B.size Z485
     replace h27 := h27.ev E484 ne_zm
     replace h4 := h4.ev E484 ne_zm ne_zm
     replace h481 := h481.ev E484 mm ne_zm
     replace E := E.trans E484 lc1
     replace h33 : AT true (m + 2) c476 w483 qa31 (([.int .i64 a5] : List Value) ++ (((List.replicate 512 ([.int .u64 0] : List Value)).flatten) ++ (([] : List Value) ++ (cs486 ++ (([.int .i64 (a1.length : Int)] : List Value)))))) := AT.eqv h33 (by simp only [List.append_assoc])
     refine ⟨fun q => absurd rfl q, ?_⟩
     refine d_nil ?_
     obtain ⟨c487, e488, e489, h318⟩ := ARO.back (off := 513) (z := m + 4) (k := t79) (AT.eqv (ds := (([.int .i64 a5] : List Value) ++ (((List.replicate 512 ([.int .u64 0] : List Value)).flatten) ++ (([] : List Value)))) ++ (cs486 ++ (([.int .i64 (a1.length : Int)] : List Value)))) h33 (by simp only [List.append_assoc])) (by have l0_ : ((List.replicate 512 ([.int .u64 0] : List Value)).flatten).length = 512 := (h27.1 : ((List.replicate 512 ([.int .u64 0] : List Value)).flatten).length = 512); simp only [List.length_append, List.length_cons, List.length_nil] <;> omega) h318 g362.1 (by have g_ := g362.2; omega) (by rw [← qqa370]; exact h368) h481 ⟨mm, (pl hm0)⟩
     replace h33 := AT.rc (c' := c487) (j' := m + 2) h33 (fun k_ hk_ => (e488 k_ (by rw [hk_]; exact mm)).trans hk_)
     replace h27 := AR.rc (c' := c487) (i' := 0) h27 (fun k_ hk_ => (e488 k_ (by rw [hk_]; exact ne_zm)).trans hk_)
     as_aux_lemma =>
     replace h4 := SL.rc (c' := c487) (j' := 0) (i' := 0) h4 (fun k_ hk_ => (e488 k_ (by rw [hk_]; exact ne_zm)).trans hk_) (fun k_ hk_ => (e488 k_ (by rw [hk_]; exact ne_zm)).trans hk_)
     replace E : Ev (fun x => False ∨ m ≤ x) c0 w0 c487 w483 := E.recol B0 (fun b_ hb_ => e488 b_ (by omega))
     replace B : CB (m + 5) c487 w483 := B.recol (fun b_ => (e489 b_).imp id (fun q_ => by rw [q_]; exact lm))
     refine hK333 _ _ ?_
     replace F : Fr a 98 [(1, .int .i64 a5), (6, .pointer (some qa31)), (28, .slice A2 a1.length C3), (29, .int .i64 (a1.length : Int)), (30, .int .i64 i316)] := F.sub ⟨rfl, rfl, rfl, rfl, rfl, trivial⟩
     refine reg ?_
     refine qv F (r_add F rfl rfl) fun a F => ?_
     refine qm F fun a F => ?_
     refine nil ?_
     replace H := HN323 _ (si H).symm
     exact hX322 _ _ _ (Nat.lt_succ_self _) ⟨(IntKind.i64.wrap (i316 + 1)), (l319.set t79.toNat ((rd l319 t79) ++ [t98])), cs486, c487, F.sub ⟨rfl, rfl, rfl, rfl, rfl, trivial⟩, E, B, h33, h27, h4, h318, H⟩
    refine o_val F rfl rfl rfl (by decide) (r_nil F rfl) fun a F => ?_
    refine ⟨fun _ => ER.sb, ?_⟩
    refine d_f ?_ ?_
    ·obtain ⟨t98, q99, H⟩ := bind_some H
     refine oc F Try.func74 (merkle_own.calls (m := m + 5) (pl hm0) B h343 h346 _ q99) ?_
     rintro e w491 ⟨c490, A494, C495, A497, C498, rfl, E492, B493, h496, h499⟩
     refine ⟨_, rfl, fun a F => ?_⟩
     have B := B493
     replace ER := ER.trans E492 nx
     replace h33 := h33.ev E492 nq
     replace h27 := h27.ev E492 nq
     replace h4 := h4.ev E492 nq nq
     as_aux_lemma =>
     replace h318 := h318.ev E492 nq nq
     replace h368 := h368.ev E492 nq
     replace h369 := h369.ev E492 nq nq
     replace E := E.trans E492 nx
     refine ⟨fun _ => ER.sb, ?_⟩
     refine d_f ?_ ?_
     ·refine o_eff F rfl rfl rfl (by decide) (e_buildSlice (n := 1) (e := 93) (c := c490) (k := K_api_Row) (i := 0) F [(0, .agg #[.slice A494 t98.Key.length C495, .slice A497 t98.Value.length C498, .int .i64 t98.Rev])] [.slice A494 t98.Key.length C495, .slice A497 t98.Value.length C498, .int .i64 t98.Rev] ([t98] : List api_Row) (by exact ⟨rfl, rfl, trivial⟩) (fun w => by kernel_rfl) rfl (by decide) rfl ⟨⟨A494, C495, A497, C498, rfl, (SL.fl h496 (fun q => q)), (SL.fl h499 (fun q => q))⟩, trivial⟩ (fun q => q) 0) ?_
      rintro v w502 a ⟨c501, A503, C504, rfl, E505, h506, B507⟩ F
      replace B := B507 _ B (pl hm0)
      replace ER := ER.trans E505 nx
      replace h33 := h33.ev E505 nq
      replace h27 := h27.ev E505 nq
      replace h4 := h4.ev E505 nq nq
      replace h318 := h318.ev E505 nq nq
      replace h368 := h368.ev E505 nq
      replace h369 := h369.ev E505 nq nq
      replace E := E.trans E505 nx
      refine ⟨fun _ => ER.sb, ?_⟩
      refine d_f ?_ ?_
      ·replace H := ifN H
       obtain ⟨g118, H⟩ := H
       refine o_eff F rfl rfl rfl (by decide) (e_append (k := K_api_Row) (xs := (rd l319 t79)) (ys := [t98]) (c := c501) (j := (m + 4)) (i := 0) F et_47 rfl rfl h369 h506 g118 (len_ok g118) ne_zm) ?_
       rintro v w509 a ⟨c508, A510, C511, rfl, E512, h513, B514⟩ F
       replace B := B514 _ B lm
       as_aux_lemma =>
       replace ER := ER.trans E512 (fun x q => by replace q : x = m + 4 := q; show x = m + 4; omega)
       replace h33 := h33.ev E512 mm
       replace h27 := h27.ev E512 ne_zm
       replace h4 := h4.ev E512 ne_zm ne_zm
       replace h318 := h318.ev E512 mm ne_zm
       replace h368 := h368.ev E512 mm
       replace E := E.trans E512 lc1
       refine ⟨fun _ => ER.sb, ?_⟩
       refine d_e ?_
       refine o_val F rfl rfl rfl (by decide) (r_fieldAddr F rfl ff_131_2) fun a F => ?_
       refine ⟨fun _ => ER.sb, ?_⟩
       refine dq F (fun wq hS => r_indexArr3 F ua_129 sz_47 rfl rfl g362.1 (by have g_ := g362.2; omega) h33 qqa370) ER.sb fun a F => ?_
       refine d_e ?_
       refine o_eff0 F rfl rfl rfl (e_storearH F rfl rfl sz_47 (AT.eqv (ds := (([.int .i64 a5] : List Value) ++ (((List.replicate 512 ([.int .u64 0] : List Value)).flatten) ++ (([] : List Value)))) ++ (cs317 ++ (([.int .i64 (a1.length : Int)] : List Value)))) h33 (by simp only [List.append_assoc])) (by have l0_ : ((List.replicate 512 ([.int .u64 0] : List Value)).flatten).length = 512 := (h27.1 : ((List.replicate 512 ([.int .u64 0] : List Value)).flatten).length = 512); simp only [List.length_append, List.length_cons, List.length_nil] <;> omega) h318 (m := t79.toNat) (by have g_ := g362; omega) qqa370 rfl mm (pl hm0)) ?_
       rintro w515 a ⟨cs518, E516, h33, h318, h368, Z517⟩ F
       replace B := B.size Z517
       replace h27 := h27.ev E516 ne_zm
       replace h4 := h4.ev E516 ne_zm ne_zm
       replace h513 := h513.ev E516 mm ne_zm
       replace E := E.trans E516 lc1
       replace h33 : AT true (m + 2) c508 w515 qa31 (([.int .i64 a5] : List Value) ++ (((List.replicate 512 ([.int .u64 0] : List Value)).flatten) ++ (([] : List Value) ++ (cs518 ++ (([.int .i64 (a1.length : Int)] : List Value)))))) := AT.eqv h33 (by simp only [List.append_assoc])
       refine ⟨fun q => absurd rfl q, ?_⟩
       as_aux_lemma =>
       refine d_nil ?_
       obtain ⟨c519, e520, e521, h318⟩ := ARO.back (off := 513) (z := m + 4) (k := t79) (AT.eqv (ds := (([.int .i64 a5] : List Value) ++ (((List.replicate 512 ([.int .u64 0] : List Value)).flatten) ++ (([] : List Value)))) ++ (cs518 ++ (([.int .i64 (a1.length : Int)] : List Value)))) h33 (by simp only [List.append_assoc])) (by have l0_ : ((List.replicate 512 ([.int .u64 0] : List Value)).flatten).length = 512 := (h27.1 : ((List.replicate 512 ([.int .u64 0] : List Value)).flatten).length = 512); simp only [List.length_append, List.length_cons, List.length_nil] <;> omega) h318 g362.1 (by have g_ := g362.2; omega) (by rw [← qqa370]; exact h368) h513 ⟨mm, (pl hm0)⟩
       replace h33 := AT.rc (c' := c519) (j' := m + 2) h33 (fun k_ hk_ => (e520 k_ (by rw [hk_]; exact mm)).trans hk_)
       replace h27 := AR.rc (c' := c519) (i' := 0) h27 (fun k_ hk_ => (e520 k_ (by rw [hk_]; exact ne_zm)).trans hk_)
       replace h4 := SL.rc (c' := c519) (j' := 0) (i' := 0) h4 (fun k_ hk_ => (e520 k_ (by rw [hk_]; exact ne_zm)).trans hk_) (fun k_ hk_ => (e520 k_ (by rw [hk_]; exact ne_zm)).trans hk_)
       replace E : Ev (fun x => False ∨ m ≤ x) c0 w0 c519 w515 := E.recol B0 (fun b_ hb_ => e520 b_ (by omega))
       replace B : CB (m + 5) c519 w515 := B.recol (fun b_ => (e521 b_).imp id (fun q_ => by rw [q_]; exact lm))
       refine hK333 _ _ ?_
       replace F : Fr a 98 [(1, .int .i64 a5), (6, .pointer (some qa31)), (28, .slice A2 a1.length C3), (29, .int .i64 (a1.length : Int)), (30, .int .i64 i316)] := F.sub ⟨rfl, rfl, rfl, rfl, rfl, trivial⟩
       refine reg ?_
       refine qv F (r_add F rfl rfl) fun a F => ?_
       refine qm F fun a F => ?_
       refine nil ?_
       replace H := HN323 _ (si H).symm
       exact hX322 _ _ _ (Nat.lt_succ_self _) ⟨(IntKind.i64.wrap (i316 + 1)), (l319.set t79.toNat ((rd l319 t79) ++ [t98])), cs518, c519, F.sub ⟨rfl, rfl, rfl, rfl, rfl, trivial⟩, E, B, h33, h27, h4, h318, H⟩
      replace H := ifN H
      obtain ⟨g118, H⟩ := H
      refine o_val F rfl rfl rfl (by decide) (r_fieldAddr F rfl ff_131_2) fun a F => ?_
      refine ⟨fun _ => ER.sb, ?_⟩
      refine d_e ?_
      refine o_eff F rfl rfl rfl (by decide) (e_append (k := K_api_Row) (xs := (rd l319 t79)) (ys := [t98]) (c := c501) (j := (m + 4)) (i := 0) F et_47 rfl rfl h369 h506 g118 (len_ok g118) ne_zm) ?_
      rintro v w523 a ⟨c522, A524, C525, rfl, E526, h527, B528⟩ F
      as_aux_lemma =>
      replace B := B528 _ B lm
      replace ER := ER.trans E526 (fun x q => by replace q : x = m + 4 := q; show x = m + 4; omega)
      replace h33 := h33.ev E526 mm
      replace h27 := h27.ev E526 ne_zm
      replace h4 := h4.ev E526 ne_zm ne_zm
      replace h318 := h318.ev E526 mm ne_zm
      replace h368 := h368.ev E526 mm
      replace E := E.trans E526 lc1
      refine ⟨fun _ => ER.sb, ?_⟩
      refine dq F (fun wq hS => r_indexArr3 F ua_129 sz_47 rfl rfl g362.1 (by have g_ := g362.2; omega) h33 qqa370) ER.sb fun a F => ?_
      refine d_e ?_
      refine o_eff0 F rfl rfl rfl (e_storearH F rfl rfl sz_47 (AT.eqv (ds := (([.int .i64 a5] : List Value) ++ (((List.replicate 512 ([.int .u64 0] : List Value)).flatten) ++ (([] : List Value)))) ++ (cs317 ++ (([.int .i64 (a1.length : Int)] : List Value)))) h33 (by simp only [List.append_assoc])) (by have l0_ : ((List.replicate 512 ([.int .u64 0] : List Value)).flatten).length = 512 := (h27.1 : ((List.replicate 512 ([.int .u64 0] : List Value)).flatten).length = 512); simp only [List.length_append, List.length_cons, List.length_nil] <;> omega) h318 (m := t79.toNat) (by have g_ := g362; omega) qqa370 rfl mm (pl hm0)) ?_
      rintro w529 a ⟨cs532, E530, h33, h318, h368, Z531⟩ F
      replace B := B.size Z531
      replace h27 := h27.ev E530 ne_zm
      replace h4 := h4.ev E530 ne_zm ne_zm
      replace h527 := h527.ev E530 mm ne_zm
      replace E := E.trans E530 lc1
      replace h33 : AT true (m + 2) c522 w529 qa31 (([.int .i64 a5] : List Value) ++ (((List.replicate 512 ([.int .u64 0] : List Value)).flatten) ++ (([] : List Value) ++ (cs532 ++ (([.int .i64 (a1.length : Int)] : List Value)))))) := AT.eqv h33 (by simp only [List.append_assoc])
      refine ⟨fun q => absurd rfl q, ?_⟩
      refine d_nil ?_
      obtain ⟨c533, e534, e535, h318⟩ := ARO.back (off := 513) (z := m + 4) (k := t79) (AT.eqv (ds := (([.int .i64 a5] : List Value) ++ (((List.replicate 512 ([.int .u64 0] : List Value)).flatten) ++ (([] : List Value)))) ++ (cs532 ++ (([.int .i64 (a1.length : Int)] : List Value)))) h33 (by simp only [List.append_assoc])) (by have l0_ : ((List.replicate 512 ([.int .u64 0] : List Value)).flatten).length = 512 := (h27.1 : ((List.replicate 512 ([.int .u64 0] : List Value)).flatten).length = 512); simp only [List.length_append, List.length_cons, List.length_nil] <;> omega) h318 g362.1 (by have g_ := g362.2; omega) (by rw [← qqa370]; exact h368) h527 ⟨mm, (pl hm0)⟩
      as_aux_lemma =>
      replace h33 := AT.rc (c' := c533) (j' := m + 2) h33 (fun k_ hk_ => (e534 k_ (by rw [hk_]; exact mm)).trans hk_)
      replace h27 := AR.rc (c' := c533) (i' := 0) h27 (fun k_ hk_ => (e534 k_ (by rw [hk_]; exact ne_zm)).trans hk_)
      replace h4 := SL.rc (c' := c533) (j' := 0) (i' := 0) h4 (fun k_ hk_ => (e534 k_ (by rw [hk_]; exact ne_zm)).trans hk_) (fun k_ hk_ => (e534 k_ (by rw [hk_]; exact ne_zm)).trans hk_)
      replace E : Ev (fun x => False ∨ m ≤ x) c0 w0 c533 w529 := E.recol B0 (fun b_ hb_ => e534 b_ (by omega))
      replace B : CB (m + 5) c533 w529 := B.recol (fun b_ => (e535 b_).imp id (fun q_ => by rw [q_]; exact lm))
      refine hK333 _ _ ?_
      replace F : Fr a 98 [(1, .int .i64 a5), (6, .pointer (some qa31)), (28, .slice A2 a1.length C3), (29, .int .i64 (a1.length : Int)), (30, .int .i64 i316)] := F.sub ⟨rfl, rfl, rfl, rfl, rfl, trivial⟩
      refine reg ?_
      refine qv F (r_add F rfl rfl) fun a F => ?_
      refine qm F fun a F => ?_
      refine nil ?_
      replace H := HN323 _ (si H).symm
      exact hX322 _ _ _ (Nat.lt_succ_self _) ⟨(IntKind.i64.wrap (i316 + 1)), (l319.set t79.toNat ((rd l319 t79) ++ [t98])), cs532, c533, F.sub ⟨rfl, rfl, rfl, rfl, rfl, trivial⟩, E, B, h33, h27, h4, h318, H⟩
     refine o_val F rfl rfl rfl (by decide) (r_fieldAddr F rfl ff_131_2) fun a F => ?_
     refine ⟨fun _ => ER.sb, ?_⟩
     refine d_e ?_
     refine o_eff F rfl rfl rfl (by decide) (e_buildSlice (n := 1) (e := 93) (c := c490) (k := K_api_Row) (i := 0) F [(0, .agg #[.slice A494 t98.Key.length C495, .slice A497 t98.Value.length C498, .int .i64 t98.Rev])] [.slice A494 t98.Key.length C495, .slice A497 t98.Value.length C498, .int .i64 t98.Rev] ([t98] : List api_Row) (by exact ⟨rfl, rfl, trivial⟩) (fun w => by kernel_rfl) rfl (by decide) rfl ⟨⟨A494, C495, A497, C498, rfl, (SL.fl h496 (fun q => q)), (SL.fl h499 (fun q => q))⟩, trivial⟩ (fun q => q) 0) ?_
     rintro v w537 a ⟨c536, A538, C539, rfl, E540, h541, B542⟩ F
     replace B := B542 _ B (pl hm0)
     replace ER := ER.trans E540 nx
     replace h33 := h33.ev E540 nq
     replace h27 := h27.ev E540 nq
     as_aux_lemma =>
     replace h4 := h4.ev E540 nq nq
     replace h318 := h318.ev E540 nq nq
     replace h368 := h368.ev E540 nq
     replace h369 := h369.ev E540 nq nq
     replace E := E.trans E540 nx
     refine ⟨fun _ => ER.sb, ?_⟩
     refine d_e ?_
     replace H := ifN H
     obtain ⟨g118, H⟩ := H
     refine o_eff F rfl rfl rfl (by decide) (e_append (k := K_api_Row) (xs := (rd l319 t79)) (ys := [t98]) (c := c536) (j := (m + 4)) (i := 0) F et_47 rfl rfl h369 h541 g118 (len_ok g118) ne_zm) ?_
     rintro v w544 a ⟨c543, A545, C546, rfl, E547, h548, B549⟩ F
     replace B := B549 _ B lm
     replace ER := ER.trans E547 (fun x q => by replace q : x = m + 4 := q; show x = m + 4; omega)
     replace h33 := h33.ev E547 mm
     replace h27 := h27.ev E547 ne_zm
     replace h4 := h4.ev E547 ne_zm ne_zm
     replace h318 := h318.ev E547 mm ne_zm
     replace h368 := h368.ev E547 mm
     replace E := E.trans E547 lc1
     refine ⟨fun _ => ER.sb, ?_⟩
     refine dq F (fun wq hS => r_indexArr3 F ua_129 sz_47 rfl rfl g362.1 (by have g_ := g362.2; omega) h33 qqa370) ER.sb fun a F => ?_
     refine d_e ?_
     as_aux_lemma =>
     refine o_eff0 F rfl rfl rfl (e_storearH F rfl rfl sz_47 (AT.eqv (ds := (([.int .i64 a5] : List Value) ++ (((List.replicate 512 ([.int .u64 0] : List Value)).flatten) ++ (([] : List Value)))) ++ (cs317 ++ (([.int .i64 (a1.length : Int)] : List Value)))) h33 (by simp only [List.append_assoc])) (by have l0_ : ((List.replicate 512 ([.int .u64 0] : List Value)).flatten).length = 512 := (h27.1 : ((List.replicate 512 ([.int .u64 0] : List Value)).flatten).length = 512); simp only [List.length_append, List.length_cons, List.length_nil] <;> omega) h318 (m := t79.toNat) (by have g_ := g362; omega) qqa370 rfl mm (pl hm0)) ?_
     rintro w550 a ⟨cs553, E551, h33, h318, h368, Z552⟩ F
     replace B := B.size Z552
     replace h27 := h27.ev E551 ne_zm
     replace h4 := h4.ev E551 ne_zm ne_zm
     replace h548 := h548.ev E551 mm ne_zm
     replace E := E.trans E551 lc1
     replace h33 : AT true (m + 2) c543 w550 qa31 (([.int .i64 a5] : List Value) ++ (((List.replicate 512 ([.int .u64 0] : List Value)).flatten) ++ (([] : List Value) ++ (cs553 ++ (([.int .i64 (a1.length : Int)] : List Value)))))) := AT.eqv h33 (by simp only [List.append_assoc])
     refine ⟨fun q => absurd rfl q, ?_⟩
     refine d_nil ?_
     obtain ⟨c554, e555, e556, h318⟩ := ARO.back (off := 513) (z := m + 4) (k := t79) (AT.eqv (ds := (([.int .i64 a5] : List Value) ++ (((List.replicate 512 ([.int .u64 0] : List Value)).flatten) ++ (([] : List Value)))) ++ (cs553 ++ (([.int .i64 (a1.length : Int)] : List Value)))) h33 (by simp only [List.append_assoc])) (by have l0_ : ((List.replicate 512 ([.int .u64 0] : List Value)).flatten).length = 512 := (h27.1 : ((List.replicate 512 ([.int .u64 0] : List Value)).flatten).length = 512); simp only [List.length_append, List.length_cons, List.length_nil] <;> omega) h318 g362.1 (by have g_ := g362.2; omega) (by rw [← qqa370]; exact h368) h548 ⟨mm, (pl hm0)⟩
     replace h33 := AT.rc (c' := c554) (j' := m + 2) h33 (fun k_ hk_ => (e555 k_ (by rw [hk_]; exact mm)).trans hk_)
     replace h27 := AR.rc (c' := c554) (i' := 0) h27 (fun k_ hk_ => (e555 k_ (by rw [hk_]; exact ne_zm)).trans hk_)
     replace h4 := SL.rc (c' := c554) (j' := 0) (i' := 0) h4 (fun k_ hk_ => (e555 k_ (by rw [hk_]; exact ne_zm)).trans hk_) (fun k_ hk_ => (e555 k_ (by rw [hk_]; exact ne_zm)).trans hk_)
     replace E : Ev (fun x => False ∨ m ≤ x) c0 w0 c554 w550 := E.recol B0 (fun b_ hb_ => e555 b_ (by omega))
     replace B : CB (m + 5) c554 w550 := B.recol (fun b_ => (e556 b_).imp id (fun q_ => by rw [q_]; exact lm))
     refine hK333 _ _ ?_
     replace F : Fr a 98 [(1, .int .i64 a5), (6, .pointer (some qa31)), (28, .slice A2 a1.length C3), (29, .int .i64 (a1.length : Int)), (30, .int .i64 i316)] := F.sub ⟨rfl, rfl, rfl, rfl, rfl, trivial⟩
     refine reg ?_
     refine qv F (r_add F rfl rfl) fun a F => ?_
     refine qm F fun a F => ?_
     refine nil ?_
     as_aux_lemma =>
     replace H := HN323 _ (si H).symm
     exact hX322 _ _ _ (Nat.lt_succ_self _) ⟨(IntKind.i64.wrap (i316 + 1)), (l319.set t79.toNat ((rd l319 t79) ++ [t98])), cs553, c554, F.sub ⟨rfl, rfl, rfl, rfl, rfl, trivial⟩, E, B, h33, h27, h4, h318, H⟩
    refine o_val F rfl rfl rfl (by decide) (r_fieldAddr F rfl ff_131_2) fun a F => ?_
    refine ⟨fun _ => ER.sb, ?_⟩
    refine d_e ?_
    obtain ⟨t98, q99, H⟩ := bind_some H
    refine oc F Try.func74 (merkle_own.calls (m := m + 5) (pl hm0) B h343 h346 _ q99) ?_
    rintro e w558 ⟨c557, A561, C562, A564, C565, rfl, E559, B560, h563, h566⟩
    refine ⟨_, rfl, fun a F => ?_⟩
    have B := B560
    replace ER := ER.trans E559 nx
    replace h33 := h33.ev E559 nq
    replace h27 := h27.ev E559 nq
    replace h4 := h4.ev E559 nq nq
    replace h318 := h318.ev E559 nq nq
    replace h368 := h368.ev E559 nq
    replace h369 := h369.ev E559 nq nq
    replace E := E.trans E559 nx
    refine ⟨fun _ => ER.sb, ?_⟩
    refine d_e ?_
    refine o_eff F rfl rfl rfl (by decide) (e_buildSlice (n := 1) (e := 93) (c := c557) (k := K_api_Row) (i := 0) F [(0, .agg #[.slice A561 t98.Key.length C562, .slice A564 t98.Value.length C565, .int .i64 t98.Rev])] [.slice A561 t98.Key.length C562, .slice A564 t98.Value.length C565, .int .i64 t98.Rev] ([t98] : List api_Row) (by exact ⟨rfl, rfl, trivial⟩) (fun w => by kernel_rfl) rfl (by decide) rfl ⟨⟨A561, C562, A564, C565, rfl, (SL.fl h563 (fun q => q)), (SL.fl h566 (fun q => q))⟩, trivial⟩ (fun q => q) 0) ?_
    rintro v w569 a ⟨c568, A570, C571, rfl, E572, h573, B574⟩ F
    as_aux_lemma =>
    replace B := B574 _ B (pl hm0)
    replace ER := ER.trans E572 nx
    replace h33 := h33.ev E572 nq
    replace h27 := h27.ev E572 nq
    replace h4 := h4.ev E572 nq nq
    replace h318 := h318.ev E572 nq nq
    replace h368 := h368.ev E572 nq
    replace h369 := h369.ev E572 nq nq
    replace E := E.trans E572 nx
    refine ⟨fun _ => ER.sb, ?_⟩
    refine d_e ?_
    replace H := ifN H
    obtain ⟨g118, H⟩ := H
    refine o_eff F rfl rfl rfl (by decide) (e_append (k := K_api_Row) (xs := (rd l319 t79)) (ys := [t98]) (c := c568) (j := (m + 4)) (i := 0) F et_47 rfl rfl h369 h573 g118 (len_ok g118) ne_zm) ?_
    rintro v w576 a ⟨c575, A577, C578, rfl, E579, h580, B581⟩ F
    replace B := B581 _ B lm
    replace ER := ER.trans E579 (fun x q => by replace q : x = m + 4 := q; show x = m + 4; omega)
    replace h33 := h33.ev E579 mm
    replace h27 := h27.ev E579 ne_zm
    replace h4 := h4.ev E579 ne_zm ne_zm
    replace h318 := h318.ev E579 mm ne_zm
    replace h368 := h368.ev E579 mm
    as_aux_lemma =>
    replace E := E.trans E579 lc1
    refine ⟨fun _ => ER.sb, ?_⟩
    refine dq F (fun wq hS => r_indexArr3 F ua_129 sz_47 rfl rfl g362.1 (by have g_ := g362.2; omega) h33 qqa370) ER.sb fun a F => ?_
    refine d_e ?_
    refine o_eff0 F rfl rfl rfl (e_storearH F rfl rfl sz_47 (AT.eqv (ds := (([.int .i64 a5] : List Value) ++ (((List.replicate 512 ([.int .u64 0] : List Value)).flatten) ++ (([] : List Value)))) ++ (cs317 ++ (([.int .i64 (a1.length : Int)] : List Value)))) h33 (by simp only [List.append_assoc])) (by have l0_ : ((List.replicate 512 ([.int .u64 0] : List Value)).flatten).length = 512 := (h27.1 : ((List.replicate 512 ([.int .u64 0] : List Value)).flatten).length = 512); simp only [List.length_append, List.length_cons, List.length_nil] <;> omega) h318 (m := t79.toNat) (by have g_ := g362; omega) qqa370 rfl mm (pl hm0)) ?_
    rintro w582 a ⟨cs585, E583, h33, h318, h368, Z584⟩ F
    replace B := B.size Z584
    replace h27 := h27.ev E583 ne_zm
    replace h4 := h4.ev E583 ne_zm ne_zm
    replace h580 := h580.ev E583 mm ne_zm
    replace E := E.trans E583 lc1
    replace h33 : AT true (m + 2) c575 w582 qa31 (([.int .i64 a5] : List Value) ++ (((List.replicate 512 ([.int .u64 0] : List Value)).flatten) ++ (([] : List Value) ++ (cs585 ++ (([.int .i64 (a1.length : Int)] : List Value)))))) := AT.eqv h33 (by simp only [List.append_assoc])
    refine ⟨fun q => absurd rfl q, ?_⟩
    refine d_nil ?_
    obtain ⟨c586, e587, e588, h318⟩ := ARO.back (off := 513) (z := m + 4) (k := t79) (AT.eqv (ds := (([.int .i64 a5] : List Value) ++ (((List.replicate 512 ([.int .u64 0] : List Value)).flatten) ++ (([] : List Value)))) ++ (cs585 ++ (([.int .i64 (a1.length : Int)] : List Value)))) h33 (by simp only [List.append_assoc])) (by have l0_ : ((List.replicate 512 ([.int .u64 0] : List Value)).flatten).length = 512 := (h27.1 : ((List.replicate 512 ([.int .u64 0] : List Value)).flatten).length = 512); simp only [List.length_append, List.length_cons, List.length_nil] <;> omega) h318 g362.1 (by have g_ := g362.2; omega) (by rw [← qqa370]; exact h368) h580 ⟨mm, (pl hm0)⟩
    replace h33 := AT.rc (c' := c586) (j' := m + 2) h33 (fun k_ hk_ => (e587 k_ (by rw [hk_]; exact mm)).trans hk_)
    replace h27 := AR.rc (c' := c586) (i' := 0) h27 (fun k_ hk_ => (e587 k_ (by rw [hk_]; exact ne_zm)).trans hk_)
    replace h4 := SL.rc (c' := c586) (j' := 0) (i' := 0) h4 (fun k_ hk_ => (e587 k_ (by rw [hk_]; exact ne_zm)).trans hk_) (fun k_ hk_ => (e587 k_ (by rw [hk_]; exact ne_zm)).trans hk_)
    replace E : Ev (fun x => False ∨ m ≤ x) c0 w0 c586 w582 := E.recol B0 (fun b_ hb_ => e587 b_ (by omega))
    replace B : CB (m + 5) c586 w582 := B.recol (fun b_ => (e588 b_).imp id (fun q_ => by rw [q_]; exact lm))
    refine hK333 _ _ ?_
    replace F : Fr a 98 [(1, .int .i64 a5), (6, .pointer (some qa31)), (28, .slice A2 a1.length C3), (29, .int .i64 (a1.length : Int)), (30, .int .i64 i316)] := F.sub ⟨rfl, rfl, rfl, rfl, rfl, trivial⟩
    as_aux_lemma =>
    refine reg ?_
    refine qv F (r_add F rfl rfl) fun a F => ?_
    refine qm F fun a F => ?_
    refine nil ?_
    replace H := HN323 _ (si H).symm
    exact hX322 _ _ _ (Nat.lt_succ_self _) ⟨(IntKind.i64.wrap (i316 + 1)), (l319.set t79.toNat ((rd l319 t79) ++ [t98])), cs585, c586, F.sub ⟨rfl, rfl, rfl, rfl, rfl, trivial⟩, E, B, h33, h27, h4, h318, H⟩
   replace H := im hb332 H
   refine wp_cond_false (fb F (dz hb332)) ?_
   refine wp_exit ?_
   refine thenE ?_
   refine thenE ?_
   refine inbE ?_
   have hx_ := HD324 _ (si H).symm
   have H := HR328
   rw [← hx_] at H
   exact J596 c320 w321 a l319 cs317 (F.sub ⟨rfl, rfl, trivial⟩) E B h33 h27 h318 H
  replace H := im hb24 H
  refine wp_cond_true (fb F (congrArg not (bfalse hb24))) ?_
  refine wp_seq_k fun K25 hK25 => reg ?_
  refine qa F fun a F => ?_
  refine qa F fun a F => ?_
  refine nil (hK25 _ _ ?_)
  as_aux_lemma =>
  refine wp_ret ?_
  refine inbR ?_
  refine thenR ?_
  replace H := si H
  subst H
  refine out2 F rfl rfl rfl ?_
  exact ⟨cf (fun x_ => if x_ = m + 2 then jr945 else if x_ = m + 1 then jr946 else if x_ < m then x_ else 0) c19, none, rfl, E.lv B0, cfb, ME.nil⟩
 refine reg ?_
 refine qm F fun a F => ?_
 refine qv F (r_lss F rfl rfl) fun a F => ?_
 refine qm F fun a F => ?_
 by_cases hb9 : a5 < 1
 ·replace H := ip hb9 H
  refine qn F (dt hb9) fun a F => ?_
  refine qn F (dt hb9) fun a F => ?_
  refine qv F (r_pick_t F rfl (dt hb9) rfl) fun a F => ?_
  refine qa F fun a F => ?_
  refine nil ?_
  exact J11 c0 w0 a true (F.sub ⟨rfl, rfl, rfl, trivial⟩) E B h4 H
 replace H := im hb9 H
 refine qy F (dz hb9) ?_
 refine qm F fun a F => ?_
 refine qy F (dz hb9) ?_
 as_aux_lemma =>
 refine qv F (r_gtr F rfl rfl) fun a F => ?_
 refine qv F (r_pick_f F rfl (dz hb9) rfl) fun a F => ?_
 refine qa F fun a F => ?_
 refine nil ?_
 exact J11 c0 w0 a (decide (64 < a5)) (F.sub ⟨rfl, rfl, rfl, trivial⟩) E B h4 H
theorem merkle_Tree_Digest.calls {m : Nat} {c0 : Nat → Nat} {w0 : World} {j4 : Nat} {j5 : Nat} {p2 : Option Addr} {a1 : Option Mer} {a6 : Int} (hm0 : 0 < m) (B0 : CB m c0 w0) (h3 : ME j4 j5 c0 w0 p2 a1) (bj4 : j4 < m) (bj5 : j5 < m ∧ j5 ≠ j4) (r : Int) (H : merkle_Tree_Digest.f a1 a6 = some r) : Calls Try.prog 82 #[.pointer p2, .int .i64 a6] w0 (fun e w_ => ∃ (c_ : Nat → Nat), e = .returned (.int .u64 r) ∧ Ev (fun x => False) c0 w0 c_ w_ ∧ CB m c_ w_) := by
 unfold merkle_Tree_Digest.f at H
 have B := B0.mono (show m ≤ m + 1 by omega)
 have E : Ev (fun x => False ∨ m ≤ x) c0 w0 c0 w0 := Ev.refl
 refine enter (N := 21) (l := [.pointer p2, .int .i64 a6]) Try.func82 rfl rfl (nb rfl) fun a F => ?_
 refine wp_seq_k fun K7 hK7 => reg ?_
 refine qa F fun a F => ?_
 refine nil (hK7 _ _ ?_)
 refine wp_seq_k fun K8 hK8 => ?_
 refine wp_seq_k fun K9 hK9 => ?_
 have J13 : ∀ (c14 : Nat → Nat) (w15 : World) (a : Act) (b12 : Bool), Fr a 21 [(0, .pointer p2), (1, .int .i64 a6), (14, .bool b12)] → Ev (fun x => False ∨ m ≤ x) c0 w0 c14 w15 → CB (m + 1) c14 w15 → ME j4 j5 c14 w15 p2 a1 → merkle_Tree_Digest.j1 a1 a6 b12 = some r → K9 a w15 := by
  intro c14 w15 a b12 F E B h3 H
  unfold merkle_Tree_Digest.j1 at H
  refine hK9 _ _ ?_
  by_cases hb16 : b12 = true
  ·replace H := ip hb16 H
   refine wp_cond_true (fb F hb16) ?_
   refine wp_seq_k fun K17 hK17 => reg ?_
   refine qa F fun a F => ?_
   refine nil (hK17 _ _ ?_)
   refine wp_ret ?_
   refine thenR ?_
   replace H := si H
   subst H
   refine out1 F rfl rfl ?_
   exact ⟨cf (fun x_ => if x_ < m then x_ else 0) c14, rfl, E.lv B0, cfb⟩
  replace H := im hb16 H
  refine wp_cond_false (fb F (bfalse hb16)) (wp_skip (hK8 _ _ ?_))
  refine wp_seq_k fun K18 hK18 => reg ?_
  refine qm F fun a F => ?_
  refine qm F fun a F => ?_
  obtain ⟨ob19, e20, H⟩ := bind_some H
  have z21 := h3
  rw [e20] at z21
  obtain ⟨ad22, cs24, cs26, rfl, hat23, h25, h27⟩ := ME.some z21
  refine qv F (r_nil F rfl) fun a F => ?_
  refine qf F ff_131_1 fun a F => ?_
  replace H := ifN H
  obtain ⟨g29, H⟩ := H
  obtain ⟨cs31, h32, r33⟩ := AR.at (off := 1) hat23 rfl h25 a6 g29.1 (by have g_ := g29.2; omega)
  obtain rfl : cs31 = [.int .u64 (rd ob19.digests a6)] := r33
  obtain ⟨qa34, qqa34⟩ : ∃ q, q = (ad22.add (1 + a6.toNat * 1)) := ⟨_, rfl⟩
  have h32 : AT true j4 c14 w15 qa34 [.int .u64 (rd ob19.digests a6)] := by rw [qqa34]; exact h32
  refine qv F (r_indexArr3 F ua_128 sz_55 rfl rfl g29.1 (by have g_ := g29.2; omega) hat23 qqa34) fun a F => ?_
  refine qv F (r_load F rfl ag_55 (AT.cell0 h32 rfl)) fun a F => ?_
  refine qa F fun a F => ?_
  refine nil (hK18 _ _ ?_)
  replace F : Fr a 21 [(4, .int .u64 (rd ob19.digests a6))] := F.sub ⟨rfl, trivial⟩
  refine wp_ret ?_
  replace H := si H
  subst H
  refine out1 F rfl rfl ?_
  exact ⟨cf (fun x_ => if x_ < m then x_ else 0) c14, rfl, E.lv B0, cfb⟩
 refine reg ?_
 refine qm F fun a F => ?_
 refine qv F (r_peqlA F Try.underlying102 rfl rfl (ME.isNone h3)) fun a F => ?_
 refine qm F fun a F => ?_
 by_cases hb10 : (Option.isNone a1) = true
 ·replace H := ip hb10 H
  refine qn F hb10 fun a F => ?_
  refine qn F hb10 fun a F => ?_
  refine qv F (r_pick_t F rfl hb10 rfl) fun a F => ?_
  refine qm F fun a F => ?_
  refine qn F rfl fun a F => ?_
  refine qn F rfl fun a F => ?_
  refine qv F (r_pick_t F rfl rfl rfl) fun a F => ?_
  refine nil ?_
  exact J13 c0 w0 a true (F.sub ⟨rfl, rfl, rfl, trivial⟩) E B h3 H
 replace H := im hb10 H
 refine qy F (bfalse hb10) ?_
 refine qm F fun a F => ?_
 refine qy F (bfalse hb10) ?_
 refine qv F (r_lss F rfl rfl) fun a F => ?_
 refine qv F (r_pick_f F rfl (bfalse hb10) rfl) fun a F => ?_
 refine qm F fun a F => ?_
 by_cases hb11 : a6 < 1
 ·replace H := ip hb11 H
  refine qn F (dt hb11) fun a F => ?_
  refine qn F (dt hb11) fun a F => ?_
  refine qv F (r_pick_t F rfl (dt hb11) rfl) fun a F => ?_
  refine nil ?_
  exact J13 c0 w0 a true (F.sub ⟨rfl, rfl, rfl, trivial⟩) E B h3 H
 replace H := im hb11 H
 refine qy F (dz hb11) ?_
 refine qm F fun a F => ?_
 refine qy F (dz hb11) ?_
 refine qv F (r_geq F rfl rfl) fun a F => ?_
 refine qv F (r_pick_f F rfl (dz hb11) rfl) fun a F => ?_
 refine nil ?_
 exact J13 c0 w0 a (decide (512 ≤ a6)) (F.sub ⟨rfl, rfl, rfl, trivial⟩) E B h3 H
theorem merkle_Tree_Root.calls {m : Nat} {c0 : Nat → Nat} {w0 : World} {j4 : Nat} {j5 : Nat} {p2 : Option Addr} {a1 : Option Mer} (hm0 : 0 < m) (B0 : CB m c0 w0) (h3 : ME j4 j5 c0 w0 p2 a1) (bj4 : j4 < m) (bj5 : j5 < m ∧ j5 ≠ j4) (r : Int) (H : merkle_Tree_Root.f a1 = some r) : Calls Try.prog 53 #[.pointer p2] w0 (fun e w_ => ∃ (c_ : Nat → Nat), e = .returned (.int .u64 r) ∧ Ev (fun x => False) c0 w0 c_ w_ ∧ CB m c_ w_) := by
 unfold merkle_Tree_Root.f at H
 have B := B0.mono (show m ≤ m + 1 by omega)
 have E : Ev (fun x => False ∨ m ≤ x) c0 w0 c0 w0 := Ev.refl
 refine enter (N := 5) (l := [.pointer p2]) Try.func53 rfl rfl (nb rfl) fun a F => ?_
 refine wp_seq_k fun K6 hK6 => reg ?_
 refine qa F fun a F => ?_
 refine nil (hK6 _ _ ?_)
 refine wp_seq_k fun K7 hK7 => reg ?_
 refine qm F fun a F => ?_
 obtain ⟨t8, q9, H⟩ := bind_some H
 refine qc F Try.func82 (merkle_Tree_Digest.calls (m := m + 1) (pl hm0) B h3 (Nat.lt_add_right _ bj4) ⟨(Nat.lt_add_right _ bj5.1), bj5.2⟩ _ q9) ?_
 rintro e w11 ⟨c10, rfl, E12, B13⟩
 refine ⟨_, rfl, fun a F => ?_⟩
 have B := B13
 replace E := E.trans E12 nx
 refine qa F fun a F => ?_
 refine nil (hK7 _ _ ?_)
 refine wp_ret ?_
 replace H := si H
 subst H
 refine out1 F rfl rfl ?_
 exact ⟨cf (fun x_ => if x_ < m then x_ else 0) c10, rfl, E.lv B0, cfb⟩
theorem table_Table_Rows.calls {m : Nat} {c0 : Nat → Nat} {w0 : World} {j4 : Nat} {p2 : Option Addr} {a1 : Option Tab} (hm0 : 0 < m) (B0 : CB m c0 w0) (h3 : TB j4 c0 w0 p2 a1) (bj4 : j4 < m) (jr246 : Nat) (bjr246 : jr246 < m) (r : (List api_Row)) (H : table_Table_Rows.f a1 = some r) : Calls Try.prog 16 #[.pointer p2] w0 (fun e w_ => ∃ (c_ : Nat → Nat) (A0_ : Option Addr) (C0_ : Nat), e = .returned (.slice A0_ r.length C0_) ∧ Ev (fun x => False) c0 w0 c_ w_ ∧ CB m c_ w_ ∧ SL true K_api_Row jr246 0 c_ w_ A0_ C0_ r) := by
 unfold table_Table_Rows.f at H
 have B := B0.mono (show m ≤ m + 7 by omega)
 have E : Ev (fun x => False ∨ m ≤ x) c0 w0 c0 w0 := Ev.refl
 refine enterM (N := 27) (l := [.pointer p2]) Try.func16 rfl rfl (nb rfl) fun a F => ?_
 refine wp_seq_k fun K5 hK5 => reg ?_
 refine qa F fun a F => ?_
 refine nil (hK5 _ _ ?_)
 refine wp_seq_k fun K6 hK6 => ?_
 refine wp_seq_k fun K7 hK7 => reg ?_
 refine qm F fun a F => ?_
 refine qv F (r_peqlA F Try.underlying26 rfl rfl (TB.isNone h3)) fun a F => ?_
 refine nil (hK7 _ _ ?_)
 by_cases hb8 : (Option.isNone a1) = true
 ·replace H := ip hb8 H
  refine wp_cond_true (fb F hb8) ?_
  refine wp_seq_k fun K9 hK9 => reg ?_
  refine qa F fun a F => ?_
  refine nil (hK9 _ _ ?_)
  refine wp_ret ?_
  refine thenR ?_
  refine outM ?_
  refine endM0 F ?_
  replace H := si H
  subst H
  refine out1 F rfl rfl ?_
  exact ⟨cf (fun x_ => if x_ = m + 6 then jr246 else if x_ < m then x_ else 0) c0, none, 0, rfl, E.lv B0, cfb, SL.nil⟩
 replace H := im hb8 H
 refine wp_cond_false (fb F (bfalse hb8)) (wp_skip (hK6 _ _ ?_))
 refine wp_seq_k fun K10 hK10 => reg ?_
 refine q_eff F rfl rfl (by decide) (e_alloc F zv_47 c0 (m + 1)) ?_
 rintro v w12 a ⟨c11, qa13, rfl, E14, h15, B16⟩ F
 replace B := B16 _ B lm
 replace h3 := h3.ev E14 nq nq
 replace E := E.trans E14 nx
 replace h15 : AT true (m + 1) c11 w12 qa13 [.slice none 0 0] := h15
 refine nil (hK10 _ _ ?_)
 refine wp_seq_k fun K18 hK18 => ?_
 refine wp_seq_k fun K19 hK19 => reg ?_
 refine qm F fun a F => ?_
 obtain ⟨ob20, e21, H⟩ := bind_some H
 have z22 := h3
 rw [e21] at z22
 obtain ⟨ad23, p25, rfl, hat24, h26⟩ := TB.some z22
 refine qv F (r_nil F rfl) fun a F => ?_
 refine qf F ff_82_0 fun a F => ?_
 refine qv F (r_load F rfl ag_77 (AT.cell hat24 rfl)) fun a F => ?_
 obtain ⟨t28, q29, H⟩ := bind_some H
 refine qc F Try.func44 (tree_Tree_All.calls (m := m + 7) (pl hm0) B h26 (m + 2) lm _ q29) ?_
 rintro e w31 ⟨c30, vi34, rfl, E32, B33, h35⟩
 refine ⟨_, rfl, fun a F => ?_⟩
 have B := B33
 replace h15 := h15.ev E32 nq
 replace E := E.trans E32 nx
 refine nil (hK19 _ _ ?_)
 replace F : Fr a 27 [(3, .pointer (some qa13)), (12, vi34)] := F.sub ⟨rfl, rfl, trivial⟩
 refine wp_block ?_
 obtain ⟨x147, HL, HR148⟩ := bind_some H
 refine ITR.range h35 (m := m + 7) (y := m + 3) (z := m + 4) (M := fun x => False ∨ m ≤ x) (g := (fun (s_ : (List api_Row)) (k_ : ByteArray) (v_ : table_cell) => table_Table_Rows.b1 s_ k_ v_)) (fun (s_ : (List api_Row)) (c_ : Nat → Nat) (w_ : World) => Ev (fun x => False ∨ m ≤ x) c30 w31 c_ w_ ∧ ∃ (l139 : List api_Row), ∃ (A136 : Option Addr), ∃ (C137 : Nat), l139 = s_ ∧ AT true (m + 1) c_ w_ qa13 [.slice A136 l139.length C137] ∧ SL true K_api_Row (m + 6) 0 c_ w_ A136 C137 l139) (fun (_ : Unit) _ _ => False) F rfl (by decide) (by decide) (by omega) (by omega) (by omega) (by omega) (by intro q; rcases q with q | q <;> first | exact q.elim | (replace q : False := q; omega) | (replace q : m ≤ 0 := q; omega)) B (fun _ _ _ h_ => h_.1) (fun _ _ _ h_ => h_.elim) (fun s_ c1_ w1_ c2_ w2_ ⟨E_, l139, A136, C137, e_, h15, h138⟩ E2_ => ⟨E_.trans E2_ (fun x q => by show False ∨ m ≤ x; replace q : x = m + 3 := q; omega), l139, A136, C137, e_, AT.ev h15 E2_ mm, SL.ev h138 E2_ mm ne_zm⟩) (fun _ _ _ _ _ h_ _ => h_.elim) [] ⟨Ev.refl, [], none, 0, rfl, h15, SL.nil⟩ x147 HL ?_ ?_ ?_
 ·intro bd142 lo143 rec144 s_ s150 v151 c140 w141 A152 C153 rr149 ⟨E, l139, A136, C137, e_, h15, h138⟩ B hb145 hl146 h154 Hg a F
  clear HL H
  subst e_
  have H : table_Table_Rows.b1 l139 s150 v151 = some rr149 := Hg
  clear Hg
  unfold table_Table_Rows.b1 at H
  refine wpIn_seq_k fun K155 hK155 => ?_
  refine regR ?_
  refine qa F fun a F => ?_
  refine nil (hK155 _ _ ?_)
  refine regR ?_
  refine q_eff F rfl rfl (by decide) (e_alloc F zv_80 c140 (m + 5)) ?_
  rintro v w157 a ⟨c156, qa55, rfl, E158, h57, B159⟩ F
  replace B := B159 _ B lm
  replace h15 := h15.ev E158 nq
  replace h138 := h138.ev E158 nq nq
  replace h154 := h154.ev E158 nq nq
  replace hb145 := hb145.ev E158 nq
  replace hl146 := hl146.ev E158 nq
  replace E := E.trans E158 nx
  replace h57 : AT true (m + 5) c156 w157 qa55 [.slice none 0 0, .int .i64 0] := h57
  refine q_eff0 F rfl rfl (e_storeN0 (us := [.slice A152 v151.value.length C153, .int .i64 v151.rev]) F rfl rfl sz_80 h57 (nb rfl) (one_all rfl)) ?_
  rintro w160 a ⟨E161, h57, Z162⟩ F
  replace B := B.size Z162
  replace h15 := h15.ev E161 mm
  replace h138 := h138.ev E161 mm ne_zm
  replace h154 := h154.ev E161 ne_zm ne_zm
  replace hb145 := hb145.ev E161 mm
  replace hl146 := hl146.ev E161 mm
  replace E := E.trans E161 lc1
  replace h57 : AT true (m + 5) c156 w160 qa55 [.slice A152 v151.value.length C153, .int .i64 v151.rev] := h57
  refine nil ?_
  refine thenN ?_
  refine ⟨c156, hl146, fun w163 E164 hl146 Z165 => ?_⟩
  replace B := B.size Z165
  replace h15 := h15.ev E164 mm
  replace h138 := h138.ev E164 mm ne_zm
  replace h154 := h154.ev E164 ne_zm ne_zm
  replace hb145 := hb145.ev E164 mm
  replace h57 := h57.ev E164 mm
  replace E := E.trans E164 lc1
  refine wpIn_block ?_
  refine regDR (SB (fun x => x = m + 6) c156 w163) 11 (.q 0 (.q 1 (.q 3 (.q 4 (.q 6 (.q 7 (.f 2 (.e 5 (.q 8 (.e 9 (.e 10 (.e 11 .nil))))) 5 (.e 2 (.q 8 (.e 9 (.e 10 (.e 11 .nil)))))))))))) Try_hm (by decide +kernel) ?_
  intro w166 w1_ w2_ w3_ w4_
  have E167 : Ev No c156 w163 c156 w166 := Ev.same w1_ w2_ w3_ w4_
  replace B := B.same w1_
  have zh15 := h15
  have zh57 := h57
  have ER : Ev (fun x => x = m + 6) c156 w163 c156 w166 := Ev.same w1_ w2_ w3_ w4_
  replace h15 := h15.ev E167 nq
  replace h138 := h138.ev E167 nq nq
  replace h154 := h154.ev E167 nq nq
  replace hb145 := hb145.ev E167 nq
  replace hl146 := hl146.ev E167 nq
  replace E := E.trans E167 nx
  refine dq F (fun wq hS => r_load F rfl ag_47 (AT.cell0 (AT.sb zh15 hS mm) rfl)) ER.sb fun a F => ?_
  refine dm F ER.sb fun a F => ?_
  refine df F ff_80_0 ER.sb fun a F => ?_
  refine dq F (fun wq hS => r_load F rfl ag_28 (AT.cell (AT.sb zh57 hS mm) rfl)) ER.sb fun a F => ?_
  refine df F ff_80_1 ER.sb fun a F => ?_
  refine dq F (fun wq hS => r_load F rfl ag_3 (AT.cell (AT.sb zh57 hS mm) rfl)) ER.sb fun a F => ?_
  refine d_f ?_ ?_
  ·replace H := ifN H
   obtain ⟨g68, H⟩ := H
   refine o_eff F rfl rfl rfl (by decide) (e_strBytes F Try.underlying9 Try.underlying28 Try.underlying5 rfl (by unfold maxLen; omega) c156 0 0) ?_
   rintro v w169 a ⟨c168, A170, C171, rfl, E172, h173, B174⟩ F
   replace B := B174 _ B (pl hm0)
   replace ER := ER.trans E172 nx
   replace h15 := h15.ev E172 nq
   replace h138 := h138.ev E172 nq nq
   replace h154 := h154.ev E172 nq nq
   replace hb145 := hb145.ev E172 nq
   replace hl146 := hl146.ev E172 nq
   replace E := E.trans E172 nx
   refine ⟨fun _ => ER.sb, ?_⟩
   refine d_e ?_
   obtain ⟨t76, q77, H⟩ := bind_some H
   refine oc F Try.func42 (bytes_Clone.calls (m := m + 7) (pl hm0) B h154 (by omega) 0 (pl hm0) _ q77) ?_
   rintro e w176 ⟨c175, A179, C180, rfl, E177, B178, h181⟩
   refine ⟨_, rfl, fun a F => ?_⟩
   have B := B178
   replace ER := ER.trans E177 nx
   replace h15 := h15.ev E177 nq
   replace h138 := h138.ev E177 nq nq
   replace hb145 := hb145.ev E177 nq
   replace hl146 := hl146.ev E177 nq
   replace h173 := h173.ev E177 nq nq
   replace E := E.trans E177 nx
   refine ⟨fun _ => ER.sb, ?_⟩
   refine d_q F rfl rfl rfl (by decide) (fun wq hS => r_build (v := .agg #[.slice A170 (sb s150).length C171, .slice A179 t76.length C180, .int .i64 v151.rev]) F [(0, .slice A170 (sb s150).length C171), (1, .slice A179 t76.length C180), (2, .int .i64 v151.rev)] (by exact ⟨rfl, rfl, rfl, rfl, rfl, rfl, trivial⟩) (fun w => by kernel_rfl)) ER.sb fun a F => ?_
   refine d_e ?_
   refine o_eff F rfl rfl rfl (by decide) (e_buildSlice (n := 1) (e := 93) (c := c175) (k := K_api_Row) (i := 0) F [(0, .agg #[.slice A170 (sb s150).length C171, .slice A179 t76.length C180, .int .i64 v151.rev])] [.slice A170 (sb s150).length C171, .slice A179 t76.length C180, .int .i64 v151.rev] ([api_Row.mk (sb s150) t76 v151.rev] : List api_Row) (by exact ⟨rfl, rfl, trivial⟩) (fun w => by kernel_rfl) rfl (by decide) rfl ⟨⟨A170, C171, A179, C180, rfl, (SL.fl h173.r (fun q => q)), (SL.fl h181.r (fun q => q))⟩, trivial⟩ (fun q => q) 0) ?_
   rintro v w184 a ⟨c183, A185, C186, rfl, E187, h188, B189⟩ F
   replace B := B189 _ B (pl hm0)
   replace ER := ER.trans E187 nx
   replace h15 := h15.ev E187 nq
   replace h138 := h138.ev E187 nq nq
   replace hb145 := hb145.ev E187 nq
   replace hl146 := hl146.ev E187 nq
   replace E := E.trans E187 nx
   refine ⟨fun _ => ER.sb, ?_⟩
   refine d_e ?_
   replace H := ifN H
   obtain ⟨g93, H⟩ := H
   refine o_eff F rfl rfl rfl (by decide) (e_append (k := K_api_Row) (xs := l139) (ys := [api_Row.mk (sb s150) t76 v151.rev]) (c := c183) (j := (m + 6)) (i := 0) F et_47 rfl rfl h138 h188 g93 (len_ok g93) ne_zm) ?_
   rintro v w191 a ⟨c190, A192, C193, rfl, E194, h195, B196⟩ F
   replace B := B196 _ B lm
   replace ER := ER.trans E194 (fun x q => by replace q : x = m + 6 := q; show x = m + 6; omega)
   replace h15 := h15.ev E194 mm
   replace hb145 := hb145.ev E194 mm
   replace hl146 := hl146.ev E194 mm
   replace E := E.trans E194 lc1
   refine ⟨fun _ => ER.sb, ?_⟩
   refine d_e ?_
   refine o_eff0 F rfl rfl rfl (e_store0 F rfl rfl sz_47 h15 (nb rfl) rfl) ?_
   rintro w197 a ⟨E198, h15, Z199⟩ F
   replace B := B.size Z199
   replace hb145 := hb145.ev E198 mm
   replace hl146 := hl146.ev E198 mm
   replace h195 := h195.ev E198 mm ne_zm
   replace E := E.trans E198 lc1
   replace h15 : AT true (m + 1) c190 w197 qa13 [.slice A192 (l139 ++ [api_Row.mk (sb s150) t76 v151.rev]).length C193] := h15
   refine ⟨fun q => absurd rfl q, ?_⟩
   refine d_nil ?_
   have hr_ := si H
   subst hr_
   first | refine REn c190 hl146 ?_ | refine inbN (REn c190 hl146 ?_) | refine inbN (inbN (REn c190 hl146 ?_))
   exact ⟨⟨E, (l139 ++ [api_Row.mk (sb s150) t76 v151.rev]), A192, C193, rfl, h15, h195⟩, B, hb145⟩
  replace H := ifN H
  obtain ⟨g68, H⟩ := H
  obtain ⟨t76, q77, H⟩ := bind_some H
  refine oc F Try.func42 (bytes_Clone.calls (m := m + 7) (pl hm0) B h154 (by omega) 0 (pl hm0) _ q77) ?_
  rintro e w201 ⟨c200, A204, C205, rfl, E202, B203, h206⟩
  refine ⟨_, rfl, fun a F => ?_⟩
  have B := B203
  replace ER := ER.trans E202 nx
  replace h15 := h15.ev E202 nq
  replace h138 := h138.ev E202 nq nq
  replace hb145 := hb145.ev E202 nq
  replace hl146 := hl146.ev E202 nq
  replace E := E.trans E202 nx
  refine ⟨fun _ => ER.sb, ?_⟩
  refine d_e ?_
  refine o_eff F rfl rfl rfl (by decide) (e_strBytes F Try.underlying9 Try.underlying28 Try.underlying5 rfl (by unfold maxLen; omega) c200 0 0) ?_
  rintro v w209 a ⟨c208, A210, C211, rfl, E212, h213, B214⟩ F
  replace B := B214 _ B (pl hm0)
  replace ER := ER.trans E212 nx
  replace h15 := h15.ev E212 nq
  replace h138 := h138.ev E212 nq nq
  replace hb145 := hb145.ev E212 nq
  replace hl146 := hl146.ev E212 nq
  replace h206 := h206.ev E212 nq nq
  replace E := E.trans E212 nx
  refine ⟨fun _ => ER.sb, ?_⟩
  refine d_q F rfl rfl rfl (by decide) (fun wq hS => r_build (v := .agg #[.slice A210 (sb s150).length C211, .slice A204 t76.length C205, .int .i64 v151.rev]) F [(0, .slice A210 (sb s150).length C211), (1, .slice A204 t76.length C205), (2, .int .i64 v151.rev)] (by exact ⟨rfl, rfl, rfl, rfl, rfl, rfl, trivial⟩) (fun w => by kernel_rfl)) ER.sb fun a F => ?_
  refine d_e ?_
  refine o_eff F rfl rfl rfl (by decide) (e_buildSlice (n := 1) (e := 93) (c := c208) (k := K_api_Row) (i := 0) F [(0, .agg #[.slice A210 (sb s150).length C211, .slice A204 t76.length C205, .int .i64 v151.rev])] [.slice A210 (sb s150).length C211, .slice A204 t76.length C205, .int .i64 v151.rev] ([api_Row.mk (sb s150) t76 v151.rev] : List api_Row) (by exact ⟨rfl, rfl, trivial⟩) (fun w => by kernel_rfl) rfl (by decide) rfl ⟨⟨A210, C211, A204, C205, rfl, (SL.fl h213.r (fun q => q)), (SL.fl h206.r (fun q => q))⟩, trivial⟩ (fun q => q) 0) ?_
  rintro v w216 a ⟨c215, A217, C218, rfl, E219, h220, B221⟩ F
  replace B := B221 _ B (pl hm0)
  replace ER := ER.trans E219 nx
  replace h15 := h15.ev E219 nq
  replace h138 := h138.ev E219 nq nq
  replace hb145 := hb145.ev E219 nq
  replace hl146 := hl146.ev E219 nq
  replace E := E.trans E219 nx
  refine ⟨fun _ => ER.sb, ?_⟩
  refine d_e ?_
  replace H := ifN H
  obtain ⟨g93, H⟩ := H
  refine o_eff F rfl rfl rfl (by decide) (e_append (k := K_api_Row) (xs := l139) (ys := [api_Row.mk (sb s150) t76 v151.rev]) (c := c215) (j := (m + 6)) (i := 0) F et_47 rfl rfl h138 h220 g93 (len_ok g93) ne_zm) ?_
  rintro v w223 a ⟨c222, A224, C225, rfl, E226, h227, B228⟩ F
  replace B := B228 _ B lm
  replace ER := ER.trans E226 (fun x q => by replace q : x = m + 6 := q; show x = m + 6; omega)
  replace h15 := h15.ev E226 mm
  replace hb145 := hb145.ev E226 mm
  replace hl146 := hl146.ev E226 mm
  replace E := E.trans E226 lc1
  refine ⟨fun _ => ER.sb, ?_⟩
  refine d_e ?_
  refine o_eff0 F rfl rfl rfl (e_store0 F rfl rfl sz_47 h15 (nb rfl) rfl) ?_
  rintro w229 a ⟨E230, h15, Z231⟩ F
  replace B := B.size Z231
  replace hb145 := hb145.ev E230 mm
  replace hl146 := hl146.ev E230 mm
  replace h227 := h227.ev E230 mm ne_zm
  replace E := E.trans E230 lc1
  replace h15 : AT true (m + 1) c222 w229 qa13 [.slice A224 (l139 ++ [api_Row.mk (sb s150) t76 v151.rev]).length C225] := h15
  refine ⟨fun q => absurd rfl q, ?_⟩
  refine d_nil ?_
  have hr_ := si H
  subst hr_
  first | refine REn c222 hl146 ?_ | refine inbN (REn c222 hl146 ?_) | refine inbN (inbN (REn c222 hl146 ?_))
  exact ⟨⟨E, (l139 ++ [api_Row.mk (sb s150) t76 v151.rev]), A224, C225, rfl, h15, h227⟩, B, hb145⟩
 ·intro s_ hx240 c236 w237 bd238 ⟨E241, l139, A136, C137, e_, h15, h138⟩ B hb239 a F
  subst e_
  rw [hx240] at HR148
  have H : table_Table_Rows.j2 l139 = some r := HR148
  unfold table_Table_Rows.j2 at H
  replace E := E.trans E241 (fun _ q => q)
  refine hK18 _ _ ?_
  refine wp_seq_k fun K242 hK242 => reg ?_
  refine qv F (r_load F rfl ag_47 (AT.cell0 h15 rfl)) fun a F => ?_
  refine qa F fun a F => ?_
  refine nil (hK242 _ _ ?_)
  refine wp_ret ?_
  refine outM ?_
  refine endM F hb239 fun w243 E244 Z245 a F => ?_
  replace B := B.size Z245
  replace h138 := h138.ev E244 mm ne_zm
  replace E := E.trans E244 lc1
  refine endM0 F ?_
  replace H := si H
  subst H
  refine out1 F rfl rfl ?_
  exact ⟨cf (fun x_ => if x_ = m + 6 then jr246 else if x_ < m then x_ else 0) c236, A136, C137, rfl, E.lv B0, cfb, SL.rc h138 cfk cfk⟩
 intro s_ hx_ c_ w_ bd_ h_
 exact h_.elim
theorem shard_Shard_Rows.calls {m : Nat} {c0 : Nat → Nat} {w0 : World} {j4 : Nat} {j5 : Nat} {p2 : Option Addr} {a1 : Option Sha} (hm0 : 0 < m) (B0 : CB m c0 w0) (h3 : SH j4 j5 c0 w0 p2 a1) (bj4 : j4 < m) (bj5 : j5 < m ∧ j5 ≠ j4) (r : (List api_Row)) (H : shard_Shard_Rows.f a1 = some r) : Calls Try.prog 15 #[.pointer p2] w0 (fun e w_ => ∃ (c_ : Nat → Nat) (A0_ : Option Addr) (C0_ : Nat), e = .returned (.slice A0_ r.length C0_) ∧ Ev (fun x => False) c0 w0 c_ w_ ∧ CB m c_ w_ ∧ SL false K_api_Row 0 0 c_ w_ A0_ C0_ r) := by
 unfold shard_Shard_Rows.f at H
 have B := B0.mono (show m ≤ m + 1 by omega)
 have E : Ev (fun x => False ∨ m ≤ x) c0 w0 c0 w0 := Ev.refl
 refine enter (N := 10) (l := [.pointer p2]) Try.func15 rfl rfl (nb rfl) fun a F => ?_
 refine wp_seq_k fun K6 hK6 => reg ?_
 refine qa F fun a F => ?_
 refine nil (hK6 _ _ ?_)
 refine wp_seq_k fun K7 hK7 => ?_
 refine wp_seq_k fun K8 hK8 => reg ?_
 refine qm F fun a F => ?_
 refine qv F (r_peqlA F Try.underlying24 rfl rfl (SH.isNone h3)) fun a F => ?_
 refine nil (hK8 _ _ ?_)
 by_cases hb9 : (Option.isNone a1) = true
 ·replace H := ip hb9 H
  refine wp_cond_true (fb F hb9) ?_
  refine wp_seq_k fun K10 hK10 => reg ?_
  refine qa F fun a F => ?_
  refine nil (hK10 _ _ ?_)
  refine wp_ret ?_
  refine thenR ?_
  replace H := si H
  subst H
  refine out1 F rfl rfl ?_
  exact ⟨cf (fun x_ => if x_ < m then x_ else 0) c0, none, 0, rfl, E.lv B0, cfb, SL.nil⟩
 replace H := im hb9 H
 refine wp_cond_false (fb F (bfalse hb9)) (wp_skip (hK7 _ _ ?_))
 refine wp_seq_k fun K11 hK11 => reg ?_
 refine qm F fun a F => ?_
 obtain ⟨ob12, e13, H⟩ := bind_some H
 have z14 := h3
 rw [e13] at z14
 obtain ⟨ad15, p17, cs19, rfl, hat16, h18, h20⟩ := SH.some z14
 refine qv F (r_nil F rfl) fun a F => ?_
 refine qf F ff_76_0 fun a F => ?_
 refine qv F (r_load F rfl ag_26 (AT.cell hat16 rfl)) fun a F => ?_
 obtain ⟨t22, q23, H⟩ := bind_some H
 refine qc F Try.func16 (table_Table_Rows.calls (m := m + 1) (pl hm0) B h18 (Nat.lt_add_right _ bj5.1) 0 (pl hm0) _ q23) ?_
 rintro e w25 ⟨c24, A28, C29, rfl, E26, B27, h30⟩
 refine ⟨_, rfl, fun a F => ?_⟩
 have B := B27
 replace E := E.trans E26 nx
 refine qa F fun a F => ?_
 refine nil (hK11 _ _ ?_)
 replace F : Fr a 10 [(2, .slice A28 t22.length C29)] := F.sub ⟨rfl, trivial⟩
 refine wp_ret ?_
 replace H := si H
 subst H
 refine out1 F rfl rfl ?_
 exact ⟨cf (fun x_ => if x_ < m then x_ else 0) c24, A28, C29, rfl, E.lv B0, cfb, SL.rc h30.r cfk cfk⟩
theorem shard_Shard_Root.calls (k : Nat) {m : Nat} {c0 : Nat → Nat} {w0 : World} {j4 : Nat} {j5 : Nat} {p2 : Option Addr} {a1 : Option Sha} (hm0 : 0 < m) (B0 : CB m c0 w0) (h3 : SH j4 j5 c0 w0 p2 a1) (bj4 : j4 < m) (bj5 : j5 < m ∧ j5 ≠ j4) (r : Int) (H : shard_Shard_Root.f k a1 = some r) : Calls Try.prog 22 #[.pointer p2] w0 (fun e w_ => ∃ (c_ : Nat → Nat), e = .returned (.int .u64 r) ∧ Ev (fun x => False) c0 w0 c_ w_ ∧ CB m c_ w_) := by
 unfold shard_Shard_Root.f at H
 have B := B0.mono (show m ≤ m + 5 by omega)
 have E : Ev (fun x => False ∨ m ≤ x) c0 w0 c0 w0 := Ev.refl
 refine enter (N := 39) (l := [.pointer p2]) Try.func22 rfl rfl (nb rfl) fun a F => ?_
 refine wp_seq_k fun K6 hK6 => reg ?_
 refine qa F fun a F => ?_
 refine nil (hK6 _ _ ?_)
 refine wp_seq_k fun K7 hK7 => ?_
 refine wp_seq_k fun K8 hK8 => reg ?_
 refine qm F fun a F => ?_
 refine qv F (r_peqlA F Try.underlying24 rfl rfl (SH.isNone h3)) fun a F => ?_
 refine nil (hK8 _ _ ?_)
 by_cases hb9 : (Option.isNone a1) = true
 ·replace H := ip hb9 H
  refine wp_cond_true (fb F hb9) ?_
  refine wp_seq_k fun K10 hK10 => reg ?_
  refine qa F fun a F => ?_
  refine nil (hK10 _ _ ?_)
  refine wp_ret ?_
  refine thenR ?_
  replace H := si H
  subst H
  refine out1 F rfl rfl ?_
  exact ⟨cf (fun x_ => if x_ < m then x_ else 0) c0, rfl, E.lv B0, cfb⟩
 replace H := im hb9 H
 refine wp_cond_false (fb F (bfalse hb9)) (wp_skip (hK7 _ _ ?_))
 refine wp_seq_k fun K11 hK11 => reg ?_
 refine qm F fun a F => ?_
 obtain ⟨t12, q13, H⟩ := bind_some H
 refine qc F Try.func15 (shard_Shard_Rows.calls (m := m + 5) (pl hm0) B h3 (Nat.lt_add_right _ bj4) ⟨(Nat.lt_add_right _ bj5.1), bj5.2⟩ _ q13) ?_
 rintro e w15 ⟨c14, A18, C19, rfl, E16, B17, h20⟩
 refine ⟨_, rfl, fun a F => ?_⟩
 have B := B17
 replace h3 := h3.ev E16 nq nq nq
 replace E := E.trans E16 nx
 obtain ⟨t22, q23, H⟩ := bind_some H
 refine qc F Try.func51 (merkle_New.calls k (m := m + 5) (pl hm0) B h20 (m + 1) ⟨(pl hm0), lm⟩ (m + 2) ⟨(pl hm0), lm⟩ _ q23) ?_
 rintro e w25 ⟨c24, p28, rfl, E26, B27, h29⟩
 refine ⟨_, rfl, fun a F => ?_⟩
 have B := B27
 replace h3 := h3.ev E26 nq nq nq
 replace E := E.trans E26 nx
 refine qm F fun a F => ?_
 refine qv F (r_extract F rfl rfl) fun a F => ?_
 refine qv F (r_extract F rfl rfl) fun a F => ?_
 refine qa F fun a F => ?_
 refine qa F fun a F => ?_
 refine nil (hK11 _ _ ?_)
 replace F : Fr a 39 [(0, .pointer p2), (3, .pointer p28)] := F.sub ⟨rfl, rfl, trivial⟩
 refine wp_seq_k fun K31 hK31 => reg ?_
 obtain ⟨t32, q33, H⟩ := bind_some H
 refine qc F Try.func46 (parcel_New.calls (m := m + 5) (pl hm0) B (m + 3) lm (m + 4) lm _ q33) ?_
 rintro e w35 ⟨c34, p38, rfl, E36, B37, h39⟩
 refine ⟨_, rfl, fun a F => ?_⟩
 have B := B37
 replace h3 := h3.ev E36 nq nq nq
 replace h29 := h29.ev E36 nq nq nq
 replace E := E.trans E36 nx
 refine qa F fun a F => ?_
 refine nil (hK31 _ _ ?_)
 refine wp_seq_k fun K41 hK41 => reg ?_
 refine qm F fun a F => ?_
 refine qm F fun a F => ?_
 obtain ⟨t42, q43, H⟩ := bind_some H
 refine qc F Try.func53 (merkle_Tree_Root.calls (m := m + 5) (pl hm0) B h29 lm ⟨lm, mm⟩ _ q43) ?_
 rintro e w45 ⟨c44, rfl, E46, B47⟩
 refine ⟨_, rfl, fun a F => ?_⟩
 have B := B47
 replace h3 := h3.ev E46 nq nq nq
 replace h39 := h39.ev E46 nq nq nq
 replace E := E.trans E46 nx
 obtain ⟨t49, q50, H⟩ := bind_some H
 refine qc F Try.func52 (parcel_Writer_Fixed.calls k (m := m + 5) (pl hm0) B h39 ⟨(pl hm0), lm⟩ ⟨(pl hm0), lm, mm⟩ _ q50) ?_
 rintro e w52 ⟨c51, rfl, E53, B54, h55⟩
 refine ⟨_, rfl, fun a F => ?_⟩
 have B := B54
 replace h3 := h3.ev E53 (nor (ne_pm bj4) (ne_pm bj4)) (nor (ne_pm bj5.1) (ne_pm bj5.1)) (nor ne_zm ne_zm)
 replace E := E.trans E53 lc2
 refine nil (hK41 _ _ ?_)
 refine wp_seq_k fun K57 hK57 => reg ?_
 refine qm F fun a F => ?_
 refine qm F fun a F => ?_
 obtain ⟨t58, q59, H⟩ := bind_some H
 refine qc F Try.func17 (shard_Shard_Rev.calls (m := m + 5) (pl hm0) B h3 (Nat.lt_add_right _ bj4) ⟨(Nat.lt_add_right _ bj5.1), bj5.2⟩ _ q59) ?_
 rintro e w61 ⟨c60, rfl, E62, B63⟩
 refine ⟨_, rfl, fun a F => ?_⟩
 have B := B63
 replace h3 := h3.ev E62 nq nq nq
 replace h55 := h55.ev E62 nq nq nq
 replace E := E.trans E62 nx
 refine qv F (r_convi F Try.underlying55 rfl rfl) fun a F => ?_
 obtain ⟨t65, q66, H⟩ := bind_some H
 refine qc F Try.func54 (parcel_Writer_Num.calls k (m := m + 5) (pl hm0) B h55 ⟨(pl hm0), lm⟩ ⟨(pl hm0), lm, mm⟩ _ q66) ?_
 rintro e w68 ⟨c67, rfl, E69, B70, h71⟩
 refine ⟨_, rfl, fun a F => ?_⟩
 have B := B70
 replace h3 := h3.ev E69 (nor (ne_pm bj4) (ne_pm bj4)) (nor (ne_pm bj5.1) (ne_pm bj5.1)) (nor ne_zm ne_zm)
 replace E := E.trans E69 lc2
 refine nil (hK57 _ _ ?_)
 replace F : Fr a 39 [(0, .pointer p2), (5, .pointer p38)] := F.sub ⟨rfl, rfl, trivial⟩
 refine wp_seq_k fun K73 hK73 => reg ?_
 refine qm F fun a F => ?_
 obtain ⟨ob74, e75, H⟩ := bind_some H
 have z76 := h3
 rw [e75] at z76
 obtain ⟨ad77, p79, cs81, rfl, hat78, h80, h82⟩ := SH.some z76
 refine qv F (r_nil F rfl) fun a F => ?_
 refine qf F ff_76_1 fun a F => ?_
 refine qm F fun a F => ?_
 have h84 : SE j4 c67 w68 (some (ad77.add 1)) ob74.seats := SE.mk (AT.seg hat78 rfl (h82.1 : cs81.length = 112)) h82
 obtain ⟨t85, q86, H⟩ := bind_some H
 refine qc F Try.func49 (shard_seats_lay.calls k (m := m + 5) (pl hm0) B h84 h71 ⟨(Nat.lt_add_right _ bj4), (ne_pm bj4), (ne_pm bj4)⟩ ⟨(pl hm0), lm⟩ ⟨(pl hm0), lm, mm⟩ _ q86) ?_
 rintro e w88 ⟨c87, rfl, E89, B90, h91⟩
 refine ⟨_, rfl, fun a F => ?_⟩
 have B := B90
 replace E := E.trans E89 lc2
 refine nil (hK73 _ _ ?_)
 refine wp_seq_k fun K93 hK93 => reg ?_
 refine qm F fun a F => ?_
 obtain ⟨t94, q95, H⟩ := bind_some H
 refine qc F Try.func50 (parcel_Writer_Done.calls (m := m + 5) (pl hm0) B h91 lm ⟨lm, mm⟩ 0 (pl hm0) _ q95) ?_
 rintro e w97 ⟨c96, A100, C101, rfl, E98, B99, h102⟩
 refine ⟨_, rfl, fun a F => ?_⟩
 have B := B99
 replace E := E.trans E98 nx
 refine qm F fun a F => ?_
 refine qv F (r_extract F rfl rfl) fun a F => ?_
 refine qv F (r_extract F rfl rfl) fun a F => ?_
 refine qa F fun a F => ?_
 refine qa F fun a F => ?_
 refine nil (hK93 _ _ ?_)
 replace F : Fr a 39 [(6, .slice A100 t94.1.length C101)] := F.sub ⟨rfl, trivial⟩
 refine wp_seq_k fun K104 hK104 => reg ?_
 refine qm F fun a F => ?_
 refine q_eff F rfl rfl (by decide) (e_buildSlice (n := 1) (e := 28) (c := c96) (k := (Kslice (Kint .u8))) (i := 0) F [(0, .slice A100 t94.1.length C101)] [.slice A100 t94.1.length C101] ([t94.1] : List (List Int)) (by exact ⟨rfl, rfl, trivial⟩) (fun w => by kernel_rfl) rfl (by decide) rfl ⟨⟨A100, C101, rfl, (SL.fl h102.r (fun q => q))⟩, trivial⟩ (fun q => q) 0) ?_
 rintro v w106 a ⟨c105, A107, C108, rfl, E109, h110, B111⟩ F
 replace B := B111 _ B (pl hm0)
 replace E := E.trans E109 nx
 obtain ⟨t112, q113, H⟩ := bind_some H
 refine qc F Try.func55 (seal_FNV.calls k (m := m + 5) (pl hm0) B h110.r (pl hm0) (pl hm0) _ q113) ?_
 rintro e w115 ⟨c114, rfl, E116, B117⟩
 refine ⟨_, rfl, fun a F => ?_⟩
 have B := B117
 replace E := E.trans E116 nx
 refine qa F fun a F => ?_
 refine nil (hK104 _ _ ?_)
 refine wp_ret ?_
 replace H := si H
 subst H
 refine out1 F rfl rfl ?_
 exact ⟨cf (fun x_ => if x_ < m then x_ else 0) c114, rfl, E.lv B0, cfb⟩
theorem shard_Shard_Seat.calls {m : Nat} {c0 : Nat → Nat} {w0 : World} {j4 : Nat} {j5 : Nat} {p2 : Option Addr} {a1 : Option Sha} {a6 : Int} (hm0 : 0 < m) (B0 : CB m c0 w0) (h3 : SH j4 j5 c0 w0 p2 a1) (bj4 : j4 < m) (bj5 : j5 < m ∧ j5 ≠ j4) (r : api_Seat × Bool) (H : shard_Shard_Seat.f a1 a6 = some r) : Calls Try.prog 9 #[.pointer p2, .int .i64 a6] w0 (fun e w_ => ∃ (c_ : Nat → Nat) (A0_ : Option Addr) (C0_ : Nat) (A2_ : Option Addr) (C2_ : Nat), e = .returned (.tuple #[.agg #[.int .i64 r.1.Client, .int .i64 r.1.Seq, .bool r.1.Answer.Done, .slice A0_ r.1.Answer.Key.length C0_, .slice A2_ r.1.Answer.Value.length C2_, .int .i64 r.1.Answer.Rev, .int .i64 r.1.Answer.At], .bool r.2]) ∧ Ev (fun x => False) c0 w0 c_ w_ ∧ CB m c_ w_ ∧ SL false (Kint .u8) 0 0 c_ w_ A0_ C0_ r.1.Answer.Key ∧ SL false (Kint .u8) 0 0 c_ w_ A2_ C2_ r.1.Answer.Value) := by
 unfold shard_Shard_Seat.f at H
 have B := B0.mono (show m ≤ m + 2 by omega)
 have E : Ev (fun x => False ∨ m ≤ x) c0 w0 c0 w0 := Ev.refl
 refine enter (N := 34) (l := [.pointer p2, .int .i64 a6]) Try.func9 rfl rfl (nb rfl) fun a F => ?_
 refine wp_seq_k fun K7 hK7 => reg ?_
 refine q_eff F rfl rfl (by decide) (e_alloc F zv_36 c0 (m + 1)) ?_
 rintro v w9 a ⟨c8, qa10, rfl, E11, h12, B13⟩ F
 replace B := B13 _ B lm
 replace h3 := h3.ev E11 nq nq nq
 replace E := E.trans E11 nx
 replace h12 : AT true (m + 1) c8 w9 qa10 [.int .i64 0, .int .i64 0, .bool false, .slice none 0 0, .slice none 0 0, .int .i64 0, .int .i64 0] := h12
 refine qa F fun a F => ?_
 refine nil (hK7 _ _ ?_)
 refine wp_seq_k fun K15 hK15 => ?_
 refine wp_seq_k fun K16 hK16 => ?_
 have J44 : ∀ (c45 : Nat → Nat) (w46 : World) (a : Act) (b43 : Bool), Fr a 34 [(0, .pointer p2), (1, .int .i64 a6), (4, .pointer (some qa10)), (25, .bool b43)] → Ev (fun x => False ∨ m ≤ x) c0 w0 c45 w46 → CB (m + 2) c45 w46 → AT true (m + 1) c45 w46 qa10 [.int .i64 0, .int .i64 0, .bool false, .slice none 0 0, .slice none 0 0, .int .i64 0, .int .i64 0] → SH j4 j5 c45 w46 p2 a1 → shard_Shard_Seat.j1 a1 a6 b43 = some r → K16 a w46 := by
  intro c45 w46 a b43 F E B h12 h3 H
  unfold shard_Shard_Seat.j1 at H
  refine hK16 _ _ ?_
  by_cases hb47 : b43 = true
  ·replace H := ip hb47 H
   refine wp_cond_true (fb F hb47) ?_
   refine wp_seq_k fun K48 hK48 => reg ?_
   refine qv F (r_build (v := .agg #[.int .i64 0, .int .i64 0, .bool false, .slice none 0 0, .slice none 0 0, .int .i64 0, .int .i64 0]) F [] (by exact trivial) (bd_36_)) fun a F => ?_
   refine q_eff0 F rfl rfl (e_storeN0 (us := [.int .i64 0, .int .i64 0, .bool false, .slice none 0 0, .slice none 0 0, .int .i64 0, .int .i64 0]) F rfl rfl sz_36 h12 (nb rfl) (one_all rfl)) ?_
   rintro w49 a ⟨E50, h12, Z51⟩ F
   replace B := B.size Z51
   replace E := E.trans E50 lc1
   replace h12 : AT true (m + 1) c45 w49 qa10 [.int .i64 0, .int .i64 0, .bool false, .slice none 0 0, .slice none 0 0, .int .i64 0, .int .i64 0] := h12
   refine qa F fun a F => ?_
   refine nil (hK48 _ _ ?_)
   refine wp_ret ?_
   refine thenR ?_
   replace H := si H
   subst H
   refine outR2 F rfl ⟨_, rfl, lv_agg (cs := [.int .i64 0, .int .i64 0, .bool false, .slice none 0 0, .slice none 0 0, .int .i64 0, .int .i64 0]) ag_36 sz_36 h12⟩ rfl ?_
   exact ⟨cf (fun x_ => if x_ < m then x_ else 0) c45, none, 0, none, 0, rfl, E.lv B0, cfb, SL.nil, SL.nil⟩
  replace H := im hb47 H
  refine wp_cond_false (fb F (bfalse hb47)) (wp_skip (hK15 _ _ ?_))
  refine wp_seq_k fun K52 hK52 => reg ?_
  refine qm F fun a F => ?_
  refine qm F fun a F => ?_
  obtain ⟨ob53, e54, H⟩ := bind_some H
  have z55 := h3
  rw [e54] at z55
  obtain ⟨ad56, p58, cs60, rfl, hat57, h59, h61⟩ := SH.some z55
  refine qv F (r_nil F rfl) fun a F => ?_
  refine qf F ff_76_1 fun a F => ?_
  replace H := ifN H
  obtain ⟨g63, H⟩ := H
  obtain ⟨cs65, h66, r67⟩ := AR.at (off := 1) hat57 rfl h61 a6 g63.1 (by have g_ := g63.2; omega)
  obtain ⟨A69, C70, A72, C73, rfl, h71, h74⟩ := r67
  replace h71 := SL.fl (i' := 0) h71 (fun q => q)
  replace h74 := SL.fl (i' := 0) h74 (fun q => q)
  obtain ⟨qa68, qqa68⟩ : ∃ q, q = (ad56.add (1 + a6.toNat * 7)) := ⟨_, rfl⟩
  have h66 : AT true j4 c45 w46 qa68 [.int .i64 ((rd ob53.seats a6).Client), .int .i64 ((rd ob53.seats a6).Seq), .bool (((rd ob53.seats a6).Answer).Done), .slice A69 (((rd ob53.seats a6).Answer).Key).length C70, .slice A72 (((rd ob53.seats a6).Answer).Value).length C73, .int .i64 (((rd ob53.seats a6).Answer).Rev), .int .i64 (((rd ob53.seats a6).Answer).At)] := by rw [qqa68]; exact h66
  refine qv F (r_indexArr3 F ua_74 sz_36 rfl rfl g63.1 (by have g_ := g63.2; omega) hat57 qqa68) fun a F => ?_
  refine qv F (r_loads (cs := [.int .i64 ((rd ob53.seats a6).Client), .int .i64 ((rd ob53.seats a6).Seq), .bool (((rd ob53.seats a6).Answer).Done), .slice A69 (((rd ob53.seats a6).Answer).Key).length C70, .slice A72 (((rd ob53.seats a6).Answer).Value).length C73, .int .i64 (((rd ob53.seats a6).Answer).Rev), .int .i64 (((rd ob53.seats a6).Answer).At)]) F rfl ag_36 sz_36 h66) fun a F => ?_
  obtain ⟨t76, q77, H⟩ := bind_some H
  refine qc F Try.func36 (shard_own.calls (m := m + 2) (a1 := api_Seat.mk ((rd ob53.seats a6).Client) ((rd ob53.seats a6).Seq) ((rd ob53.seats a6).Answer)) (pl hm0) B h71 h74 _ q77) ?_
  rintro e w79 ⟨c78, A82, C83, A85, C86, rfl, E80, B81, h84, h87⟩
  refine ⟨_, rfl, fun a F => ?_⟩
  have B := B81
  replace h12 := h12.ev E80 nq
  replace E := E.trans E80 nx
  refine q_eff0 F rfl rfl (e_storeN0 (us := [.int .i64 t76.Client, .int .i64 t76.Seq, .bool t76.Answer.Done, .slice A82 t76.Answer.Key.length C83, .slice A85 t76.Answer.Value.length C86, .int .i64 t76.Answer.Rev, .int .i64 t76.Answer.At]) F rfl rfl sz_36 h12 (nb rfl) (one_all rfl)) ?_
  rintro w89 a ⟨E90, h12, Z91⟩ F
  replace B := B.size Z91
  replace h84 := h84.ev E90 ne_zm ne_zm
  replace h87 := h87.ev E90 ne_zm ne_zm
  replace E := E.trans E90 lc1
  replace h12 : AT true (m + 1) c78 w89 qa10 [.int .i64 t76.Client, .int .i64 t76.Seq, .bool t76.Answer.Done, .slice A82 t76.Answer.Key.length C83, .slice A85 t76.Answer.Value.length C86, .int .i64 t76.Answer.Rev, .int .i64 t76.Answer.At] := h12
  refine qa F fun a F => ?_
  refine nil (hK52 _ _ ?_)
  replace F : Fr a 34 [(4, .pointer (some qa10)), (5, .bool true)] := F.sub ⟨rfl, rfl, trivial⟩
  refine wp_ret ?_
  replace H := si H
  subst H
  refine outR2 F rfl ⟨_, rfl, lv_agg (cs := [.int .i64 t76.Client, .int .i64 t76.Seq, .bool t76.Answer.Done, .slice A82 t76.Answer.Key.length C83, .slice A85 t76.Answer.Value.length C86, .int .i64 t76.Answer.Rev, .int .i64 t76.Answer.At]) ag_36 sz_36 h12⟩ rfl ?_
  exact ⟨cf (fun x_ => if x_ < m then x_ else 0) c78, A82, C83, A85, C86, rfl, E.lv B0, cfb, SL.rc h84 cfk cfk, SL.rc h87 cfk cfk⟩
 refine reg ?_
 refine qm F fun a F => ?_
 refine qv F (r_peqlA F Try.underlying24 rfl rfl (SH.isNone h3)) fun a F => ?_
 refine qm F fun a F => ?_
 by_cases hb17 : (Option.isNone a1) = true
 ·replace H := ip hb17 H
  refine qn F hb17 fun a F => ?_
  refine qn F hb17 fun a F => ?_
  refine qv F (r_pick_t F rfl hb17 rfl) fun a F => ?_
  refine qm F fun a F => ?_
  refine qn F rfl fun a F => ?_
  refine qn F rfl fun a F => ?_
  refine qv F (r_pick_t F rfl rfl rfl) fun a F => ?_
  refine qm F fun a F => ?_
  refine qn F rfl fun a F => ?_
  refine qn F rfl fun a F => ?_
  refine qn F rfl fun a F => ?_
  refine qn F rfl fun a F => ?_
  refine qn F rfl fun a F => ?_
  refine qn F rfl fun a F => ?_
  refine qn F rfl fun a F => ?_
  refine qn F rfl fun a F => ?_
  refine qv F (r_pick_t F rfl rfl rfl) fun a F => ?_
  refine nil ?_
  exact J44 c8 w9 a true (F.sub ⟨rfl, rfl, rfl, rfl, trivial⟩) E B h12 h3 H
 replace H := im hb17 H
 refine qy F (bfalse hb17) ?_
 refine qm F fun a F => ?_
 refine qy F (bfalse hb17) ?_
 refine qv F (r_lss F rfl rfl) fun a F => ?_
 refine qv F (r_pick_f F rfl (bfalse hb17) rfl) fun a F => ?_
 refine qm F fun a F => ?_
 by_cases hb18 : a6 < 0
 ·replace H := ip hb18 H
  refine qn F (dt hb18) fun a F => ?_
  refine qn F (dt hb18) fun a F => ?_
  refine qv F (r_pick_t F rfl (dt hb18) rfl) fun a F => ?_
  refine qm F fun a F => ?_
  refine qn F rfl fun a F => ?_
  refine qn F rfl fun a F => ?_
  refine qn F rfl fun a F => ?_
  refine qn F rfl fun a F => ?_
  refine qn F rfl fun a F => ?_
  refine qn F rfl fun a F => ?_
  refine qn F rfl fun a F => ?_
  refine qn F rfl fun a F => ?_
  refine qv F (r_pick_t F rfl rfl rfl) fun a F => ?_
  refine nil ?_
  exact J44 c8 w9 a true (F.sub ⟨rfl, rfl, rfl, rfl, trivial⟩) E B h12 h3 H
 replace H := im hb18 H
 refine qy F (dz hb18) ?_
 refine qm F fun a F => ?_
 refine qy F (dz hb18) ?_
 refine qv F (r_geq F rfl rfl) fun a F => ?_
 refine qv F (r_pick_f F rfl (dz hb18) rfl) fun a F => ?_
 refine qm F fun a F => ?_
 by_cases hb19 : 16 ≤ a6
 ·replace H := ip hb19 H
  refine qn F (dt hb19) fun a F => ?_
  refine qn F (dt hb19) fun a F => ?_
  refine qn F (dt hb19) fun a F => ?_
  refine qn F (dt hb19) fun a F => ?_
  refine qn F (dt hb19) fun a F => ?_
  refine qn F (dt hb19) fun a F => ?_
  refine qn F (dt hb19) fun a F => ?_
  refine qn F (dt hb19) fun a F => ?_
  refine qv F (r_pick_t F rfl (dt hb19) rfl) fun a F => ?_
  refine nil ?_
  exact J44 c8 w9 a true (F.sub ⟨rfl, rfl, rfl, rfl, trivial⟩) E B h12 h3 H
 replace H := im hb19 H
 refine qy F (dz hb19) ?_
 refine qm F fun a F => ?_
 refine qy F (dz hb19) ?_
 refine qm F fun a F => ?_
 obtain ⟨ob20, e21, H⟩ := bind_some H
 have z22 := h3
 rw [e21] at z22
 obtain ⟨ad23, p25, cs27, rfl, hat24, h26, h28⟩ := SH.some z22
 refine qy F (dz hb19) ?_
 refine qv F (r_nil F rfl) fun a F => ?_
 refine qy F (dz hb19) ?_
 refine qf F ff_76_1 fun a F => ?_
 replace H := ifN H
 obtain ⟨g30, H⟩ := H
 obtain ⟨cs32, h33, r34⟩ := AR.at (off := 1) hat24 rfl h28 a6 g30.1 (by have g_ := g30.2; omega)
 obtain ⟨A36, C37, A39, C40, rfl, h38, h41⟩ := r34
 obtain ⟨qa35, qqa35⟩ : ∃ q, q = (ad23.add (1 + a6.toNat * 7)) := ⟨_, rfl⟩
 have h33 : AT true j4 c8 w9 qa35 [.int .i64 ((rd ob20.seats a6).Client), .int .i64 ((rd ob20.seats a6).Seq), .bool (((rd ob20.seats a6).Answer).Done), .slice A36 (((rd ob20.seats a6).Answer).Key).length C37, .slice A39 (((rd ob20.seats a6).Answer).Value).length C40, .int .i64 (((rd ob20.seats a6).Answer).Rev), .int .i64 (((rd ob20.seats a6).Answer).At)] := by rw [qqa35]; exact h33
 refine qy F (dz hb19) ?_
 refine qv F (r_indexArr3 F ua_74 sz_36 rfl rfl g30.1 (by have g_ := g30.2; omega) hat24 qqa35) fun a F => ?_
 refine qy F (dz hb19) ?_
 refine qf F ff_36_1 fun a F => ?_
 refine qy F (dz hb19) ?_
 refine qv F (r_load F rfl ag_3 (AT.cell h33 rfl)) fun a F => ?_
 refine qy F (dz hb19) ?_
 refine qv F (r_eql F rfl rfl) fun a F => ?_
 refine qv F (r_pick_f F rfl (dz hb19) rfl) fun a F => ?_
 refine nil ?_
 exact J44 c8 w9 a (decide (((rd ob20.seats a6).Seq) = 0)) (F.sub ⟨rfl, rfl, rfl, rfl, trivial⟩) E B h12 h3 H
end Go.Proofs.Ythankpjbfpcldaa.G