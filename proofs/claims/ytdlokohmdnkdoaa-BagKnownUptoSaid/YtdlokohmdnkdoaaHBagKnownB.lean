/- Words, contracts and plain laws on which the row of 'BagKnown' hangs (its '..UptoSaid': inputs of bulk at most 1048576). -/
import Derived.Test.YtdlokohmdnkdoaaHBagKnownA
/-! Waiting and For of a bag, by hand: loops over a map, whatever its order; a sort. -/
namespace Go.Proofs.Ytdlokohmdnkdoaa.G
open Go Go.RowKit
set_option linter.unusedVariables false
set_option linter.unusedSimpArgs false
theorem own_some {l : api_Letter} (h : l.Data.length ≤ 140737488355328) : bag_own.f l = some l := by
  unfold bag_own.f slices_Clone.f
  rw [if_pos (by omega)]
  cases l; rfl
theorem letter_zero : ∀ (i : Nat) (c : Nat → Nat) (w : World), K_api_Letter.rep i c w (Value.agg #[.int .i64 0, .int .i64 0, .int .i64 0, .slice none 0 0]).cells.toList default := fun i c w => ⟨none, 0, rfl, SL.nil⟩
def FL (o : MkV api_Letter) (ks : List Int) : List api_Letter := ks.map fun k => (o.f k).getD default
theorem FL_snoc (o : MkV api_Letter) (ks : List Int) {x : Int} {y : api_Letter} (h : o.f x = some y) : FL o (ks ++ [x]) = FL o ks ++ [y] := by
  unfold FL; rw [List.map_append]; simp [h]
def FK (o : MkV api_Letter) (t : Int) (ks : List Int) : List Int := ks.filter fun k => decide (((o.f k).getD default).To = t)
theorem FK_snoc (o : MkV api_Letter) (t : Int) (ks : List Int) {x : Int} {y : api_Letter} (h : o.f x = some y) : FK o t (ks ++ [x]) = if y.To = t then FK o t ks ++ [x] else FK o t ks := by
  unfold FK; rw [List.filter_append]; simp only [List.filter_cons, List.filter_nil, h, Option.getD_some]
  by_cases c : y.To = t
  · rw [if_pos c, if_pos (decide_eq_true c)]
  · rw [if_neg c, if_neg (by simpa using c)]; simp
set_option maxRecDepth 100000 in
set_option maxHeartbeats 4000000 in
theorem bag_Bag_Waiting.calls {m : Nat} {c0 : Nat → Nat} {w0 : World} {j4 j5 : Nat} {p2 : Option Addr} {a1 : Option Bag} (hm0 : 0 < m) (B0 : CB m c0 w0) (h3 : BG j4 j5 c0 w0 p2 a1) (bj4 : j4 < m) (bj5 : j5 < m ∧ j5 ≠ j4) (jr : Nat) (bjr : jr < m) (r : List api_Letter) (H : bag_Bag_Waiting.f a1 = some r) :
    Calls Try.prog 15 #[.pointer p2] w0 (fun e w_ => ∃ (c_ : Nat → Nat) (A0_ : Option Addr) (C0_ : Nat), e = .returned (.slice A0_ r.length C0_) ∧ Ev (fun x => False) c0 w0 c_ w_ ∧ CB m c_ w_ ∧ SL true K_api_Letter jr 0 c_ w_ A0_ C0_ r) := by
  have B := B0.mono (show m ≤ m + 4 by omega)
  have E : Ev (fun x => False ∨ m ≤ x) c0 w0 c0 w0 := Ev.refl
  refine enter (N := 31) (l := [.pointer p2]) Try.func15 rfl rfl (Nat.le_of_ble_eq_true rfl) fun a F => ?_
  refine wp_seq_k fun K1 hK1 => ?_
  refine reg ?_
  refine q_val F rfl rfl (by decide) (r_assign F rfl) fun a F => ?_
  refine nil ?_
  refine hK1 _ _ ?_
  refine wp_seq_k fun K2 hK2 => ?_
  refine wp_seq_k fun K3 hK3 => ?_
  refine reg ?_
  refine q_val F rfl rfl (by decide) (r_move F rfl) fun a F => ?_
  refine q_val F rfl rfl (by decide) (r_peqlA F Try.underlying24 rfl rfl (BG.isNone h3)) fun a F => ?_
  refine nil ?_
  refine hK3 _ _ ?_
  cases a1 with
  | none =>
    have H := Option.some.inj H
    subst H
    refine wp_cond_true (F.ev rfl) ?_
    refine wp_seq_k fun K4 hK4 => ?_
    refine reg ?_
    refine q_val F rfl rfl (by decide) (r_assign F rfl) fun a F => ?_
    refine nil ?_
    refine hK4 _ _ ?_
    refine wp_ret ?_
    refine thenR ?_
    refine out1 F rfl rfl ?_
    exact ⟨c0, none, 0, rfl, Ev.refl, B0, SL.nil⟩
  | some t =>
  refine wp_cond_false (F.ev rfl) ?_
  refine wp_skip ?_
  refine hK2 _ _ ?_
  obtain ⟨ht, H⟩ := ifN H
  have H := (Option.some.inj H).symm
  obtain ⟨ht1, ht2, ht3⟩ := ht
  have htold : ∀ x, (t.under.f x).isSome = true → x ∈ t.under.keys t.next := by
    obtain ⟨_, _, _, _, hML⟩ := BG.some h3
    exact fun x hx => MK.told hML ht2 hx
  have hkl : (t.under.keys t.next).length ≤ t.next.toNat := by
    unfold MkV.keys
    refine Nat.le_trans (List.length_filter_le _ _) ?_
    simp
  obtain ⟨ad, p17, rfl, hat, hML⟩ := BG.some h3
  refine wp_seq_k fun K4 hK4 => ?_
  refine reg ?_
  refine q_val F rfl rfl (by decide) (r_move F rfl) fun a F => ?_
  refine q_val F rfl rfl (by decide) (r_nil F rfl) fun a F => ?_
  refine q_val F rfl rfl (by decide) (r_fieldAddr F rfl ff_67_0) fun a F => ?_
  refine q_val F rfl rfl (by decide) (r_load F rfl ag_65 (AT.cell hat rfl)) fun a F => ?_
  refine q_val F rfl rfl (by decide) (r_lenmap F hML Try.underlying65 rfl) fun a F => ?_
  refine q_eff F rfl rfl (by decide) (e_make (k := K_api_Letter) (x0 := default) F et_34 rfl rfl letter_zero (by decide) (by omega) c0 m 0) ?_
  rintro v w1 a ⟨c1, A1, C1, rfl, E1, hS, B1⟩ F
  have B := B1 _ B (by omega)
  have h3 := h3.ev E1 (fun q => q.elim) (fun q => q.elim) (fun q => q.elim)
  have E := E.trans E1 (fun x q => q.elim)
  clear hat hML
  refine q_val F rfl rfl (by decide) (r_assign F rfl) fun a F => ?_
  refine nil ?_
  refine hK4 _ _ ?_
  refine wp_seq_k fun K5 hK5 => ?_
  obtain ⟨ad_, p17, e_, hat, hML⟩ := BG.some h3
  obtain rfl := Option.some.inj e_
  refine wp_seq_k fun K6 hK6 => ?_
  refine reg ?_
  refine q_val F rfl rfl (by decide) (r_move F rfl) fun a F => ?_
  refine q_val F rfl rfl (by decide) (r_nil F rfl) fun a F => ?_
  refine q_val F rfl rfl (by decide) (r_fieldAddr F rfl ff_67_0) fun a F => ?_
  refine q_val F rfl rfl (by decide) (r_load F rfl ag_65 (AT.cell hat rfl)) fun a F => ?_
  refine q_eff F rfl rfl (by decide) (e_rangeK F Try.underlying3 Try.underlying65 rfl hML (m + 1)) ?_
  rintro v w2 a ⟨c2, b, rr, cnt, rfl, E2, hM, B2⟩ F
  have B := B2 _ B (by omega)
  have hS := hS.ev E2 (fun q => q.elim) (fun q => q.elim)
  have E := E.trans E2 (fun x q => q.elim)
  refine nil ?_
  refine hK6 _ _ ?_
  refine wp_block ?_
  -- behind the loop
  have J2 : ∀ (ks : List Int) (A : Option Addr) (C : Nat) (c : Nat → Nat) (w : World) (a : Act), Fr a 31 [(3, .slice A (FL t.under ks).length C)] → Ev (fun x => False ∨ m ≤ x) c0 w0 c w → CB (m + 4) c w → SL true K_api_Letter m 0 c w A C (FL t.under ks) → (∀ x, x ∈ ks ↔ (t.under.f x).isSome = true) → ks.Nodup → (ks.length : Int) ≤ t.under.len → K5 a w := by
    clear F E B hS hM E1 E2 B1 B2 hat hML h3
    intro ks A C c w a F E B hS hm hn hl
    have hp := keys_perm hm hl ht2
    have hlen : (FL t.under ks).length = ks.length := by simp [FL]
    have hpl := hp.length_eq
    have hmap : ∀ l : List Int, (∀ x ∈ l, x ∈ t.under.keys t.next) → (FL t.under l).map (·.Number) = l := fun l hl => by
      unfold FL
      rw [List.map_map]
      conv => rhs; rw [← List.map_id l]
      exact List.map_congr_left fun x hx => (ht3 x (hl x hx)).1
    have hin : ∀ x ∈ ks, x ∈ t.under.keys t.next := fun x hx => hp.mem_iff.2 hx
    refine hK5 _ _ ?_
    refine wp_seq_k fun K9 hK9 => ?_
    refine reg ?_
    refine q_val F rfl rfl (by decide) (r_move F rfl) fun a F => ?_
    refine q_call F rfl rfl (by decide) (r_call F Try.func33 rfl (by kernel_rfl) rfl) (sort_letters B hS (by omega) (by omega) (fun x hx => by
      obtain ⟨k, hk, rfl⟩ := List.mem_map.1 hx
      have h1 := ((mem_keys _ _ _).1 (hin k hk)).1
      rw [(ht3 k (hin k hk)).1]; omega) (by rw [hmap ks hin]; exact hn)) ?_
    rintro e w1 ⟨c1, ys, rfl, E1, B1, hS1, hp1, hp2⟩
    refine ⟨_, rfl, fun a F => ?_⟩
    have E := E.trans E1 (fun x q => by replace q : x = m := q; show False ∨ m ≤ x; omega)
    refine nil ?_
    refine hK9 _ _ ?_
    refine wp_seq_k fun K10 hK10 => ?_
    refine reg ?_
    refine q_val F rfl rfl (by decide) (r_move F rfl) fun a F => ?_
    refine q_val F rfl rfl (by decide) (r_assign F rfl) fun a F => ?_
    refine nil ?_
    refine hK10 _ _ ?_
    refine wp_ret ?_
    have es : ys = r := by
      have e1 : ys.map (·.Number) = t.under.keys t.next := by
        refine perm_rising hp2 (keys_rise _ _) ?_
        have := hp1.map (·.Number)
        rw [hmap ks hin] at this
        exact this.trans hp.symm
      have e2 : FL t.under (ys.map (·.Number)) = ys := by
        unfold FL
        rw [List.map_map]
        conv => rhs; rw [← List.map_id ys]
        refine List.map_congr_left fun y hy => ?_
        obtain ⟨k, hk, rfl⟩ := List.mem_map.1 (hp1.mem_iff.1 hy)
        show (t.under.f ((t.under.f k).getD default).Number).getD default = _
        rw [(ht3 k (hin k hk)).1]; rfl
      rw [← e2, e1, H]; rfl
    have hlr : (FL t.under ks).length = r.length := by rw [← es, hp1.length_eq]
    refine out1 F rfl rfl ?_
    refine ⟨fun b_ => (fun x_ => if x_ = m then jr else if x_ < m then x_ else 0) (c1 b_), A, C, by rw [hlr], E.leave B0 (fun x_ => if x_ = m then jr else if x_ < m then x_ else 0) (by intro x_ hx_; show (if x_ = m then jr else if x_ < m then x_ else 0) = x_; ((repeat' split) <;> omega)), (fun b_ hb_ => by show (if (c1 b_) = m then jr else if (c1 b_) < m then (c1 b_) else 0) < m; ((repeat' split) <;> omega)), ?_⟩
    rw [← es]
    exact SL.rc hS1 (fun k_ hk_ => by show (if (c1 k_) = m then jr else if (c1 k_) < m then (c1 k_) else 0) = _; rw [hk_]; ((repeat' split) <;> omega)) (fun k_ hk_ => by show (if (c1 k_) = m then jr else if (c1 k_) < m then (c1 k_) else 0) = _; rw [hk_]; ((repeat' split) <;> omega))
  refine loop_fuel (I := fun n a w => ∃ (ks : List Int) (A : Option Addr) (C : Nat) (c : Nat → Nat), Fr a 31 [(3, .slice A (FL t.under ks).length C), (18, .pointer (some ⟨rr, 0, none⟩))] ∧ Ev (fun x => False ∨ m ≤ x) c0 w0 c w ∧ CB (m + 4) c w ∧ MR .i64 3 K_api_Letter (fun cs => .agg cs.toArray) Try.prog j5 (m + 1) 0 c w b rr t.under ks n ∧ SL true K_api_Letter m 0 c w A C (FL t.under ks)) (k := cnt)
    ⟨[], A1, C1, c2, F.sub ⟨rfl, rfl, trivial⟩, E, B, hM, hS⟩ ?_
  clear F E B hS hM E1 E2 B1 B2 hat hML h3
  intro n X hX a w ⟨ks, A, C, c, F, E, B, hM, hS⟩
  have hkb : ks.length ≤ 1000000000 := by
    obtain ⟨_, _, D0, left, _, _, hs, _, _, _, hc⟩ := hM
    omega
  have hlen : (FL t.under ks).length = ks.length := by simp [FL]
  refine wp_seq_k fun K11 hK11 => ?_
  refine reg ?_
  refine q_nextK F (by decide) Try.underlying3 rfl hM (by omega) (by omega) ?_ ?_
  · intro hm hn hl a F
    refine q_val F rfl rfl (by decide) (r_extract F rfl rfl) fun a F => ?_
    refine nil ?_
    refine hK11 _ _ ?_
    refine wp_seq_k fun K12 hK12 => ?_
    refine wp_cond_false (F.ev rfl) ?_
    refine wp_exit ?_
    repeat (first | refine thenE ?_ | refine inbE ?_)
    exact J2 ks A C c w a (F.sub ⟨rfl, trivial⟩) E B hS hm hn hl
  · intro x y cs w1 cnt1 a hxy hnx hM hlt E1 hsz hrep hwf hen F
    have B := B.size hsz
    have hS := hS.ev E1 (by show ¬ (m = m + 1); omega) (by show ¬ (0 = m + 1); omega)
    have E := E.trans E1 (fun x q => by replace q : x = m + 1 := q; show False ∨ m ≤ x; omega)
    obtain ⟨A1, C1, rfl, hD⟩ := hrep
    refine q_val F rfl rfl (by decide) (r_extract F rfl rfl) fun a F => ?_
    refine nil ?_
    refine hK11 _ _ ?_
    refine wp_seq_k fun K12 hK12 => ?_
    refine wp_cond_true (F.ev rfl) ?_
    refine wp_skip ?_
    refine hK12 _ _ ?_
    refine wp_block ?_
    refine wp_seq_k fun K13 hK13 => ?_
    refine reg ?_
    refine q_val F rfl rfl (by decide) (r_entry F rfl hen) fun a F => ?_
    refine q_val F rfl rfl (by decide) (r_extract F rfl rfl) fun a F => ?_
    refine q_eff F rfl rfl (by decide) (e_alloc F zv_40 c (m + 2)) ?_
    rintro v w2 a ⟨c2, qa, rfl, E2, hat, B2⟩ F
    have B := B2 _ B (by omega)
    have hS := hS.ev E2 (fun q => q.elim) (fun q => q.elim)
    have hD := hD.ev E2 (fun q => q.elim) (fun q => q.elim)
    have hM := hM.ev E2 (fun q => q.elim) (fun q => q.elim) (fun q => q.elim)
    have E := E.trans E2 (fun x q => q.elim)
    refine q_eff0 F rfl rfl (e_storeN0 (us := [.int .i64 y.Number, .int .i64 y.From, .int .i64 y.To, .slice A1 y.Data.length C1]) F rfl rfl sz_40 hat (Nat.le_of_ble_eq_true rfl) (one_all rfl)) ?_
    rintro w3 a ⟨E3, hat, Z3⟩ F
    have hat : AT true (m + 2) c2 w3 qa [.int .i64 y.Number, .int .i64 y.From, .int .i64 y.To, .slice A1 y.Data.length C1] := hat
    have B := B.size Z3
    have hS := hS.ev E3 (by show ¬ (m = m + 2); omega) (by show ¬ (0 = m + 2); omega)
    have hD := hD.ev E3 (by show ¬ (0 = m + 2); omega) (by show ¬ (0 = m + 2); omega)
    have hM := hM.ev E3 (by show ¬ (j5 = m + 2); omega) (by show ¬ (m + 1 = m + 2); omega) (by show ¬ (0 = m + 2); omega)
    have E := E.trans E3 (fun x q => by replace q : x = m + 2 := q; show False ∨ m ≤ x; omega)
    refine nil ?_
    refine hK13 _ _ ?_
    refine reg ?_
    have hyl : y.Data.length ≤ 140737488355328 := by
      have := (ht3 x (htold x (by rw [hxy]; rfl))).2
      rw [hxy] at this; exact this
    refine q_val F rfl rfl (by decide) (r_move F rfl) fun a F => ?_
    refine q_val F rfl rfl (by decide) (r_loads (cs := [.int .i64 y.Number, .int .i64 y.From, .int .i64 y.To, .slice A1 y.Data.length C1]) F rfl ag_40 sz_40 hat) fun a F => ?_
    refine q_call F rfl rfl (by decide) (r_call F Try.func32 rfl (by kernel_rfl) rfl) (bag_own.calls (m := m + 4) (by omega) B hD y (own_some hyl)) ?_
    rintro e w4 ⟨c4, A4, C4, rfl, E4, B4, hD⟩
    refine ⟨_, rfl, fun a F => ?_⟩
    have B := B4
    have hS := hS.ev E4 (fun q => q) (fun q => q)
    have hM := hM.ev E4 (fun q => q) (fun q => q) (fun q => q)
    have E := E.trans E4 (fun x q => q.elim)
    refine q_eff F rfl rfl (by decide) (e_buildSlice (n := 1) (e := 40) (c := c4) (k := K_api_Letter) (i := 0) F [(0, .agg #[.int .i64 y.Number, .int .i64 y.From, .int .i64 y.To, .slice A4 y.Data.length C4])] [.int .i64 y.Number, .int .i64 y.From, .int .i64 y.To, .slice A4 y.Data.length C4] ([y] : List api_Letter) (by exact ⟨rfl, rfl, trivial⟩) (fun w => by kernel_rfl) rfl (by decide) rfl ⟨⟨A4, C4, rfl, hD⟩, trivial⟩ (fun q => q) (m + 3)) ?_
    rintro v w5 a ⟨c5, A5, C5, rfl, E5, h5, B5⟩ F
    have B := B5 _ B (by omega)
    have hS := hS.ev E5 (fun q => q.elim) (fun q => q.elim)
    have hM := hM.ev E5 (fun q => q.elim) (fun q => q.elim) (fun q => q.elim)
    have E := E.trans E5 (fun x q => q.elim)
    refine q_eff F rfl rfl (by decide) (e_append (k := K_api_Letter) (xs := FL t.under ks) (ys := [y]) (c := c5) (j := m) (i := 0) F et_34 rfl rfl hS h5 (by simp only [List.length_cons, List.length_nil]; omega) (by unfold maxLen; simp only [List.length_cons, List.length_nil]; omega) (by omega)) ?_
    rintro v w6 a ⟨c6, A6, C6, rfl, E6, h6, B6⟩ F
    have B := B6 _ B (by omega)
    have hM := hM.ev E6 (by show ¬ (j5 = m); omega) (by show ¬ (m + 1 = m); omega) (by show ¬ (0 = m); omega)
    have E := E.trans E6 (fun x q => by replace q : x = m := q; show False ∨ m ≤ x; omega)
    refine q_val F rfl rfl (by decide) (r_assign F rfl) fun a F => ?_
    refine nil ?_
    rw [← FL_snoc t.under ks hxy] at h6
    exact hX _ _ _ hlt ⟨ks ++ [x], A6, C6, c6, F.sub ⟨by rw [FL_snoc t.under ks hxy]; rfl, rfl, trivial⟩, E, B, hM, h6⟩
set_option maxRecDepth 100000 in
set_option maxHeartbeats 4000000 in
theorem bag_Bag_For.calls {m : Nat} {c0 : Nat → Nat} {w0 : World} {j4 j5 : Nat} {p2 : Option Addr} {a1 : Option Bag} {a6 : Int} (hm0 : 0 < m) (B0 : CB m c0 w0) (h3 : BG j4 j5 c0 w0 p2 a1) (bj4 : j4 < m) (bj5 : j5 < m ∧ j5 ≠ j4) (jr : Nat) (bjr : jr < m) (r : List Int) (H : bag_Bag_For.f a1 a6 = some r) :
    Calls Try.prog 16 #[.pointer p2, .int .i64 a6] w0 (fun e w_ => ∃ (c_ : Nat → Nat) (A0_ : Option Addr) (C0_ : Nat), e = .returned (.slice A0_ r.length C0_) ∧ Ev (fun x => False) c0 w0 c_ w_ ∧ CB m c_ w_ ∧ SL true (Kint .i64) jr 0 c_ w_ A0_ C0_ r) := by
  have B := B0.mono (show m ≤ m + 4 by omega)
  have E : Ev (fun x => False ∨ m ≤ x) c0 w0 c0 w0 := Ev.refl
  refine enter (N := 32) (l := [.pointer p2, .int .i64 a6]) Try.func16 rfl rfl (Nat.le_of_ble_eq_true rfl) fun a F => ?_
  refine wp_seq_k fun K1 hK1 => ?_
  refine reg ?_
  refine q_val F rfl rfl (by decide) (r_assign F rfl) fun a F => ?_
  refine nil ?_
  refine hK1 _ _ ?_
  refine wp_seq_k fun K1 hK1 => ?_
  refine reg ?_
  refine q_val F rfl rfl (by decide) (r_assign F rfl) fun a F => ?_
  refine nil ?_
  refine hK1 _ _ ?_
  refine wp_seq_k fun K2 hK2 => ?_
  refine wp_seq_k fun K3 hK3 => ?_
  refine reg ?_
  refine q_val F rfl rfl (by decide) (r_move F rfl) fun a F => ?_
  refine q_val F rfl rfl (by decide) (r_peqlA F Try.underlying24 rfl rfl (BG.isNone h3)) fun a F => ?_
  refine nil ?_
  refine hK3 _ _ ?_
  cases a1 with
  | none =>
    have H := Option.some.inj H
    subst H
    refine wp_cond_true (F.ev rfl) ?_
    refine wp_seq_k fun K4 hK4 => ?_
    refine reg ?_
    refine q_val F rfl rfl (by decide) (r_move F rfl) fun a F => ?_
    refine q_val F rfl rfl (by decide) (r_assign F rfl) fun a F => ?_
    refine nil ?_
    refine hK4 _ _ ?_
    refine wp_ret ?_
    refine thenR ?_
    refine out1 F rfl rfl ?_
    exact ⟨c0, none, 0, rfl, Ev.refl, B0, SL.nil⟩
  | some t =>
  refine wp_cond_false (F.ev rfl) ?_
  refine wp_skip ?_
  refine hK2 _ _ ?_
  obtain ⟨ht, H⟩ := ifN H
  have H := (Option.some.inj H).symm
  obtain ⟨ht1, ht2, ht3⟩ := ht
  have hkl : (t.under.keys t.next).length ≤ t.next.toNat := by
    unfold MkV.keys
    refine Nat.le_trans (List.length_filter_le _ _) ?_
    simp
  refine wp_seq_k fun K5 hK5 => ?_
  obtain ⟨ad_, p17, rfl, hat, hML⟩ := BG.some h3
  refine wp_seq_k fun K6 hK6 => ?_
  refine reg ?_
  refine q_val F rfl rfl (by decide) (r_move F rfl) fun a F => ?_
  refine q_val F rfl rfl (by decide) (r_nil F rfl) fun a F => ?_
  refine q_val F rfl rfl (by decide) (r_fieldAddr F rfl ff_67_0) fun a F => ?_
  refine q_val F rfl rfl (by decide) (r_load F rfl ag_65 (AT.cell hat rfl)) fun a F => ?_
  refine q_eff F rfl rfl (by decide) (e_rangeK F Try.underlying3 Try.underlying65 rfl hML (m + 1)) ?_
  rintro v w2 a ⟨c2, b, rr, cnt, rfl, E2, hM, B2⟩ F
  have B := B2 _ B (by omega)
  have E := E.trans E2 (fun x q => q.elim)
  refine nil ?_
  refine hK6 _ _ ?_
  refine wp_block ?_
  -- behind the loop
  have J2 : ∀ (ks : List Int) (A : Option Addr) (C : Nat) (c : Nat → Nat) (w : World) (a : Act), Fr a 32 [(5, .slice A (FK t.under a6 ks).length C)] → Ev (fun x => False ∨ m ≤ x) c0 w0 c w → CB (m + 4) c w → SL true (Kint .i64) m 0 c w A C (FK t.under a6 ks) → (∀ x, x ∈ ks ↔ (t.under.f x).isSome = true) → ks.Nodup → (ks.length : Int) ≤ t.under.len → K5 a w := by
    clear F E B hM E2 B2 hat hML h3
    intro ks A C c w a F E B hS hm hn hl
    have hp := keys_perm hm hl ht2
    have hpl := hp.length_eq
    have hlen : (FK t.under a6 ks).length ≤ ks.length := List.length_filter_le _ _
    refine hK5 _ _ ?_
    refine wp_seq_k fun K9 hK9 => ?_
    refine reg ?_
    refine q_val F rfl rfl (by decide) (r_move F rfl) fun a F => ?_
    refine q_call F rfl rfl (by decide) (r_call F Try.func35 rfl (by kernel_rfl) rfl) (slices_Sort.calls B hS (by omega) (by omega)) ?_
    rintro e w1 ⟨c1, rfl, E1, B1, hS1⟩
    refine ⟨_, rfl, fun a F => ?_⟩
    have E := E.trans E1 (fun x q => by replace q : x = m := q; show False ∨ m ≤ x; omega)
    refine nil ?_
    refine hK9 _ _ ?_
    refine wp_seq_k fun K10 hK10 => ?_
    refine reg ?_
    refine q_val F rfl rfl (by decide) (r_move F rfl) fun a F => ?_
    refine q_val F rfl rfl (by decide) (r_assign F rfl) fun a F => ?_
    refine nil ?_
    refine hK10 _ _ ?_
    refine wp_ret ?_
    have es : sortI (FK t.under a6 ks) = r := by
      rw [H]
      have hq : ∀ l : List Int, (sortI l).Perm l := fun l => List.mergeSort_perm _ _
      have hss : ∀ l : List Int, l.Nodup → (sortI l).Pairwise (· < ·) := fun l h => by
        have hs : (sortI l).Pairwise (fun x y => decide (x ≤ y) = true) := List.pairwise_mergeSort (le := fun x y : Int => decide (x ≤ y)) (fun a b c h1 h2 => by simp at h1 h2 ⊢; omega) (fun a b => by simp; omega) l
        have hn2 : (sortI l).Nodup := (hq l).nodup_iff.2 h
        exact (List.Pairwise.and hs hn2).imp (fun {a b} hab => by have h1 := of_decide_eq_true hab.1; have h2 : a ≠ b := hab.2; omega)
      refine perm_rising (hss _ (List.Pairwise.filter _ hn)) (List.Pairwise.filter _ (keys_rise _ _)) ?_
      exact (hq _).trans ((hp.symm.filter _))
    refine out1 F rfl rfl ?_
    refine ⟨fun b_ => (fun x_ => if x_ = m then jr else if x_ < m then x_ else 0) (c1 b_), A, C, by rw [← es, sortI_length], E.leave B0 (fun x_ => if x_ = m then jr else if x_ < m then x_ else 0) (by intro x_ hx_; show (if x_ = m then jr else if x_ < m then x_ else 0) = x_; ((repeat' split) <;> omega)), (fun b_ hb_ => by show (if (c1 b_) = m then jr else if (c1 b_) < m then (c1 b_) else 0) < m; ((repeat' split) <;> omega)), ?_⟩
    rw [← es]
    exact SL.rc hS1 (fun k_ hk_ => by show (if (c1 k_) = m then jr else if (c1 k_) < m then (c1 k_) else 0) = _; rw [hk_]; ((repeat' split) <;> omega)) (fun k_ hk_ => by show (if (c1 k_) = m then jr else if (c1 k_) < m then (c1 k_) else 0) = _; rw [hk_]; ((repeat' split) <;> omega))
  refine loop_fuel (I := fun n a w => ∃ (ks : List Int) (A : Option Addr) (C : Nat) (c : Nat → Nat), Fr a 32 [(1, .int .i64 a6), (5, .slice A (FK t.under a6 ks).length C), (15, .pointer (some ⟨rr, 0, none⟩))] ∧ Ev (fun x => False ∨ m ≤ x) c0 w0 c w ∧ CB (m + 4) c w ∧ MR .i64 3 K_api_Letter (fun cs => .agg cs.toArray) Try.prog j5 (m + 1) 0 c w b rr t.under ks n ∧ SL true (Kint .i64) m 0 c w A C (FK t.under a6 ks)) (k := cnt)
    ⟨[], none, 0, c2, F.sub ⟨rfl, rfl, rfl, trivial⟩, E, B, hM, SL.nil⟩ ?_
  clear F E B hM E2 B2 hat hML h3
  intro n X hX a w ⟨ks, A, C, c, F, E, B, hM, hS⟩
  have hkb : ks.length ≤ 1000000000 := by
    obtain ⟨_, _, D0, left, _, _, hs, _, _, _, hc⟩ := hM
    omega
  have hlen : (FK t.under a6 ks).length ≤ ks.length := List.length_filter_le _ _
  refine wp_seq_k fun K11 hK11 => ?_
  refine reg ?_
  refine q_nextK F (by decide) Try.underlying3 rfl hM (by omega) (by omega) ?_ ?_
  · intro hm hn hl a F
    refine q_val F rfl rfl (by decide) (r_extract F rfl rfl) fun a F => ?_
    refine nil ?_
    refine hK11 _ _ ?_
    refine wp_seq_k fun K12 hK12 => ?_
    refine wp_cond_false (F.ev rfl) ?_
    refine wp_exit ?_
    repeat (first | refine thenE ?_ | refine inbE ?_)
    exact J2 ks A C c w a (F.sub ⟨rfl, trivial⟩) E B hS hm hn hl
  · intro x y cs w1 cnt1 a hxy hnx hM hlt E1 hsz hrep hwf hen F
    have B := B.size hsz
    have hS := hS.ev E1 (by show ¬ (m = m + 1); omega) (by show ¬ (0 = m + 1); omega)
    have E := E.trans E1 (fun x q => by replace q : x = m + 1 := q; show False ∨ m ≤ x; omega)
    obtain ⟨A1, C1, rfl, hD⟩ := hrep
    refine q_val F rfl rfl (by decide) (r_extract F rfl rfl) fun a F => ?_
    refine nil ?_
    refine hK11 _ _ ?_
    refine wp_seq_k fun K12 hK12 => ?_
    refine wp_cond_true (F.ev rfl) ?_
    refine wp_skip ?_
    refine hK12 _ _ ?_
    refine wp_block ?_
    refine wp_seq_k fun K13 hK13 => ?_
    refine reg ?_
    refine q_val F rfl rfl (by decide) (r_entry F rfl hen) fun a F => ?_
    refine q_val F rfl rfl (by decide) (r_extract F rfl rfl) fun a F => ?_
    refine q_val F rfl rfl (by decide) (r_extract F rfl rfl) fun a F => ?_
    refine q_eff F rfl rfl (by decide) (e_alloc F zv_40 c (m + 2)) ?_
    rintro v w2 a ⟨c2, qa, rfl, E2, hat, B2⟩ F
    have B := B2 _ B (by omega)
    have hS := hS.ev E2 (fun q => q.elim) (fun q => q.elim)
    have hM := hM.ev E2 (fun q => q.elim) (fun q => q.elim) (fun q => q.elim)
    have E := E.trans E2 (fun x q => q.elim)
    refine q_val F rfl rfl (by decide) (r_assign F rfl) fun a F => ?_
    refine q_eff0 F rfl rfl (e_storeN0 (us := [.int .i64 y.Number, .int .i64 y.From, .int .i64 y.To, .slice A1 y.Data.length C1]) F rfl rfl sz_40 hat (Nat.le_of_ble_eq_true rfl) (one_all rfl)) ?_
    rintro w3 a ⟨E3, hat, Z3⟩ F
    have hat : AT true (m + 2) c2 w3 qa [.int .i64 y.Number, .int .i64 y.From, .int .i64 y.To, .slice A1 y.Data.length C1] := hat
    have B := B.size Z3
    have hS := hS.ev E3 (by show ¬ (m = m + 2); omega) (by show ¬ (0 = m + 2); omega)
    have hM := hM.ev E3 (by show ¬ (j5 = m + 2); omega) (by show ¬ (m + 1 = m + 2); omega) (by show ¬ (0 = m + 2); omega)
    have E := E.trans E3 (fun x q => by replace q : x = m + 2 := q; show False ∨ m ≤ x; omega)
    refine nil ?_
    refine hK13 _ _ ?_
    refine wp_seq_k fun K14 hK14 => ?_
    refine reg ?_
    refine q_val F rfl rfl (by decide) (r_fieldAddr F rfl ff_40_2) fun a F => ?_
    refine q_val F rfl rfl (by decide) (r_load F rfl ag_3 (AT.cell hat (n := 2) rfl)) fun a F => ?_
    refine q_val F rfl rfl (by decide) (r_move F rfl) fun a F => ?_
    refine q_val F rfl rfl (by decide) (r_eql F rfl rfl) fun a F => ?_
    refine nil ?_
    refine hK14 _ _ ?_
    have hsn := FK_snoc t.under a6 ks hxy
    by_cases cc : y.To = a6
    · rw [if_pos cc] at hsn
      refine wp_cond_true ((F.ev rfl).trans (congrArg Value.bool (decide_eq_true cc))) ?_
      refine reg ?_
      refine q_val F rfl rfl (by decide) (r_move F rfl) fun a F => ?_
      refine q_val F rfl rfl (by decide) (r_move F rfl) fun a F => ?_
      refine q_eff F rfl rfl (by decide) (e_buildSlice (n := 1) (e := 3) (c := c2) (k := Kint .i64) (i := 0) F [(0, .int .i64 x)] [.int .i64 x] ([x] : List Int) (by exact ⟨rfl, rfl, trivial⟩) (fun w => by kernel_rfl) rfl (by decide) rfl ⟨rfl, trivial⟩ (fun q => q) (m + 3)) ?_
      rintro v w5 a ⟨c5, A5, C5, rfl, E5, h5, B5⟩ F
      have B := B5 _ B (by omega)
      have hS := hS.ev E5 (fun q => q.elim) (fun q => q.elim)
      have hM := hM.ev E5 (fun q => q.elim) (fun q => q.elim) (fun q => q.elim)
      have E := E.trans E5 (fun x q => q.elim)
      refine q_eff F rfl rfl (by decide) (e_append (k := Kint .i64) (xs := FK t.under a6 ks) (ys := [x]) (c := c5) (j := m) (i := 0) F et_36 rfl rfl hS h5 (by simp only [List.length_cons, List.length_nil]; omega) (by unfold maxLen; simp only [List.length_cons, List.length_nil]; omega) (by omega)) ?_
      rintro v w6 a ⟨c6, A6, C6, rfl, E6, h6, B6⟩ F
      have B := B6 _ B (by omega)
      have hM := hM.ev E6 (by show ¬ (j5 = m); omega) (by show ¬ (m + 1 = m); omega) (by show ¬ (0 = m); omega)
      have E := E.trans E6 (fun x q => by replace q : x = m := q; show False ∨ m ≤ x; omega)
      refine q_val F rfl rfl (by decide) (r_assign F rfl) fun a F => ?_
      refine nil ?_
      rw [← hsn] at h6
      exact hX _ _ _ hlt ⟨ks ++ [x], A6, C6, c6, F.sub ⟨rfl, by rw [hsn]; rfl, rfl, trivial⟩, E, B, hM, h6⟩
    · rw [if_neg cc] at hsn
      refine wp_cond_false ((F.ev rfl).trans (congrArg Value.bool (decide_eq_false cc))) ?_
      refine wp_skip ?_
      exact hX _ _ _ hlt ⟨ks ++ [x], A, C, c2, F.sub ⟨rfl, by rw [hsn]; rfl, rfl, trivial⟩, E, B, hM, by rw [hsn]; exact hS⟩
end Go.Proofs.Ytdlokohmdnkdoaa.G
namespace Go.Proofs.Ytdlokohmdnkdoaa.G
open Go Go.RowKit
set_option linter.unusedVariables false
set_option linter.unusedSimpArgs false
set_option maxRecDepth 100000 in
set_option maxHeartbeats 4000000 in
theorem bag_Bag_Counts.calls {m : Nat} {c0 : Nat → Nat} {w0 : World} {j4 : Nat} {j5 : Nat} {p2 : Option Addr} {a1 : Option Bag} (hm0 : 0 < m) (B0 : CB m c0 w0) (h3 : BG j4 j5 c0 w0 p2 a1) (bj4 : j4 < m) (bj5 : j5 < m ∧ j5 ≠ j4) (r : api_Traffic) (H : bag_Bag_Counts.f a1 = some r) : Calls Try.prog 29 #[.pointer p2] w0 (fun e w_ => ∃ (c_ : Nat → Nat), e = .returned (.agg #[.int .i64 r.Sent, .int .i64 r.Twice, .int .i64 r.Delivered, .int .i64 r.Dropped, .int .i64 r.Lost]) ∧ Ev (fun x => False) c0 w0 c_ w_ ∧ CB m c_ w_) := by
  unfold bag_Bag_Counts.f at H
  have B := B0.mono (show m ≤ m + 2 by omega)
  have E : Ev (fun x => False ∨ m ≤ x) c0 w0 c0 w0 := Ev.refl
  refine enter (N := 10) (l := [.pointer p2]) Try.func29 rfl rfl (Nat.le_of_ble_eq_true rfl) fun a F => ?_
  refine wp_seq_k fun K6 hK6 => ?_
  refine reg ?_
  refine q_eff F rfl rfl (by decide) (e_alloc F zv_63 c0 (m + 1)) ?_
  rintro v w8 a ⟨c7, qa9, rfl, E10, h11, B12⟩ F
  replace B := B12 _ B (Nat.add_lt_add_left (by decide) m)
  replace h3 := BG.ev h3 E10 (fun q => q.elim) (fun q => q.elim) (fun q => q.elim)
  replace E := E.trans E10 (fun x q => q.elim)
  replace h11 : AT true (m + 1) c7 w8 qa9 [.int .i64 0, .int .i64 0, .int .i64 0, .int .i64 0, .int .i64 0] := h11
  refine nil ?_
  refine hK6 _ _ ?_
  refine wp_seq_k fun K14 hK14 => ?_
  refine wp_seq_k fun K15 hK15 => ?_
  refine reg ?_
  refine q_val F rfl rfl (by decide) (r_move F rfl) fun a F => ?_
  refine q_val F rfl rfl (by decide) (r_peqlA F Try.underlying24 rfl rfl (BG.isNone h3)) fun a F => ?_
  refine nil ?_
  refine hK15 _ _ ?_
  by_cases hb16 : (Option.isNone a1) = true
  · replace H := (if_pos hb16).symm.trans H
    refine wp_cond_true ((F.ev rfl).trans (congrArg Value.bool hb16)) ?_
    refine wp_seq_k fun K17 hK17 => ?_
    refine reg ?_
    refine q_val F rfl rfl (by decide) (r_build (v := .agg #[.int .i64 0, .int .i64 0, .int .i64 0, .int .i64 0, .int .i64 0]) F [] (by exact trivial) (fun w => by kernel_rfl)) fun a F => ?_
    refine q_eff0 F rfl rfl (e_storeN0 (us := [.int .i64 0, .int .i64 0, .int .i64 0, .int .i64 0, .int .i64 0]) F rfl rfl sz_63 h11 (Nat.le_of_ble_eq_true rfl) (one_all rfl)) ?_
    rintro w18 a ⟨E19, h11, Z20⟩ F
    replace B := B.size Z20
    replace h3 := BG.ev h3 E19 (ne_pm bj4) (ne_pm bj5.1) ne_zm
    replace E := E.trans E19 (fun x (q : x = m + 1) => Or.inr (le_col q))
    replace h11 : AT true (m + 1) c7 w18 qa9 [.int .i64 0, .int .i64 0, .int .i64 0, .int .i64 0, .int .i64 0] := h11
    refine nil ?_
    refine hK17 _ _ ?_
    refine wp_ret ?_
    refine thenR ?_
    replace H := Option.some.inj H
    subst H
    refine outR1 F rfl ⟨_, rfl, lv_agg (cs := [.int .i64 0, .int .i64 0, .int .i64 0, .int .i64 0, .int .i64 0]) ag_63 sz_63 h11⟩ ?_
    exact ⟨fun b_ => (fun x_ => if x_ < m then x_ else 0) (c7 b_), rfl, E.leave B0 (fun x_ => if x_ < m then x_ else 0) (by intro x_ hx_; show (if x_ < m then x_ else 0) = x_; ((repeat' split) <;> omega)), (fun b_ hb_ => by show (if (c7 b_) < m then (c7 b_) else 0) < m; ((repeat' split) <;> omega))⟩
  · replace H := (if_neg hb16).symm.trans H
    refine wp_cond_false ((F.ev rfl).trans (congrArg Value.bool (bfalse hb16))) ?_
    refine wp_skip ?_
    refine hK14 _ _ ?_
    refine wp_seq_k fun K21 hK21 => ?_
    refine reg ?_
    refine q_val F rfl rfl (by decide) (r_move F rfl) fun a F => ?_
    replace H := bind_some H
    obtain ⟨ob22, e23, H⟩ := H
    have z24 := h3
    rw [e23] at z24
    obtain ⟨ad25, p27, rfl, hat26, h28⟩ := BG.some z24
    refine q_val F rfl rfl (by decide) (r_nil F rfl) fun a F => ?_
    refine q_val F rfl rfl (by decide) (r_fieldAddr F rfl ff_67_2) fun a F => ?_
    refine q_val F rfl rfl (by decide) (r_loads (cs := [.int .i64 ob22.told.Sent, .int .i64 ob22.told.Twice, .int .i64 ob22.told.Delivered, .int .i64 ob22.told.Dropped, .int .i64 ob22.told.Lost]) F rfl ag_63 sz_63 (AT.sub hat26 2 5 (Nat.le_of_ble_eq_true rfl))) fun a F => ?_
    refine q_eff0 F rfl rfl (e_storeN0 (us := [.int .i64 ob22.told.Sent, .int .i64 ob22.told.Twice, .int .i64 ob22.told.Delivered, .int .i64 ob22.told.Dropped, .int .i64 ob22.told.Lost]) F rfl rfl sz_63 h11 (Nat.le_of_ble_eq_true rfl) (one_all rfl)) ?_
    rintro w30 a ⟨E31, h11, Z32⟩ F
    replace B := B.size Z32
    replace h3 := BG.ev h3 E31 (ne_pm bj4) (ne_pm bj5.1) ne_zm
    replace h28 := ML.ev h28 E31 (ne_pm bj5.1) ne_zm
    replace hat26 := AT.ev hat26 E31 (ne_pm bj4)
    replace E := E.trans E31 (fun x (q : x = m + 1) => Or.inr (le_col q))
    replace h11 : AT true (m + 1) c7 w30 qa9 [.int .i64 ob22.told.Sent, .int .i64 ob22.told.Twice, .int .i64 ob22.told.Delivered, .int .i64 ob22.told.Dropped, .int .i64 ob22.told.Lost] := h11
    refine nil ?_
    refine hK21 _ _ ?_
    refine wp_ret ?_
    replace H := Option.some.inj H
    subst H
    refine outR1 F rfl ⟨_, rfl, lv_agg (cs := [.int .i64 ob22.told.Sent, .int .i64 ob22.told.Twice, .int .i64 ob22.told.Delivered, .int .i64 ob22.told.Dropped, .int .i64 ob22.told.Lost]) ag_63 sz_63 h11⟩ ?_
    exact ⟨fun b_ => (fun x_ => if x_ < m then x_ else 0) (c7 b_), rfl, E.leave B0 (fun x_ => if x_ < m then x_ else 0) (by intro x_ hx_; show (if x_ < m then x_ else 0) = x_; ((repeat' split) <;> omega)), (fun b_ hb_ => by show (if (c7 b_) < m then (c7 b_) else 0) < m; ((repeat' split) <;> omega))⟩
end Go.Proofs.Ytdlokohmdnkdoaa.G
namespace Go.Proofs.Ytdlokohmdnkdoaa.G
open Go Go.RowKit
set_option linter.unusedVariables false
set_option linter.unusedSimpArgs false
set_option maxRecDepth 100000 in
set_option maxHeartbeats 4000000 in
theorem bag_Bag_find.calls {m : Nat} {c0 : Nat → Nat} {w0 : World} {j4 : Nat} {j5 : Nat} {p2 : Option Addr} {a1 : Option Bag} {a6 : Int} (hm0 : 0 < m) (B0 : CB m c0 w0) (h3 : BG j4 j5 c0 w0 p2 a1) (bj4 : j4 < m) (bj5 : j5 < m ∧ j5 ≠ j4) (r : api_Letter × Int) (H : bag_Bag_find.f a1 a6 = some r) : Calls Try.prog 36 #[.pointer p2, .int .i64 a6] w0 (fun e w_ => ∃ (c_ : Nat → Nat) (A0_ : Option Addr) (C0_ : Nat), e = .returned (.tuple #[.agg #[.int .i64 r.1.Number, .int .i64 r.1.From, .int .i64 r.1.To, .slice A0_ r.1.Data.length C0_], .int .i64 r.2]) ∧ Ev (fun x => False) c0 w0 c_ w_ ∧ CB m c_ w_ ∧ SL false (Kint .u8) 0 0 c_ w_ A0_ C0_ r.1.Data) := by
  unfold bag_Bag_find.f at H
  have B := B0.mono (show m ≤ m + 3 by omega)
  have E : Ev (fun x => False ∨ m ≤ x) c0 w0 c0 w0 := Ev.refl
  refine enter (N := 24) (l := [.pointer p2, .int .i64 a6]) Try.func36 rfl rfl (Nat.le_of_ble_eq_true rfl) fun a F => ?_
  refine wp_seq_k fun K7 hK7 => ?_
  refine reg ?_
  refine q_eff F rfl rfl (by decide) (e_alloc F zv_40 c0 (m + 1)) ?_
  rintro v w9 a ⟨c8, qa10, rfl, E11, h12, B13⟩ F
  replace B := B13 _ B (Nat.add_lt_add_left (by decide) m)
  replace h3 := BG.ev h3 E11 (fun q => q.elim) (fun q => q.elim) (fun q => q.elim)
  replace E := E.trans E11 (fun x q => q.elim)
  replace h12 : AT true (m + 1) c8 w9 qa10 [.int .i64 0, .int .i64 0, .int .i64 0, .slice none 0 0] := h12
  refine q_val F rfl rfl (by decide) (r_assign F rfl) fun a F => ?_
  refine nil ?_
  refine hK7 _ _ ?_
  refine wp_seq_k fun K15 hK15 => ?_
  refine wp_seq_k fun K16 hK16 => ?_
  refine reg ?_
  refine q_val F rfl rfl (by decide) (r_move F rfl) fun a F => ?_
  refine q_val F rfl rfl (by decide) (r_peqlA F Try.underlying24 rfl rfl (BG.isNone h3)) fun a F => ?_
  refine nil ?_
  refine hK16 _ _ ?_
  by_cases hb17 : (Option.isNone a1) = true
  · replace H := (if_pos hb17).symm.trans H
    refine wp_cond_true ((F.ev rfl).trans (congrArg Value.bool hb17)) ?_
    refine wp_seq_k fun K18 hK18 => ?_
    refine reg ?_
    refine q_val F rfl rfl (by decide) (r_build (v := .agg #[.int .i64 0, .int .i64 0, .int .i64 0, .slice none 0 0]) F [] (by exact trivial) (fun w => by kernel_rfl)) fun a F => ?_
    refine q_eff0 F rfl rfl (e_storeN0 (us := [.int .i64 0, .int .i64 0, .int .i64 0, .slice none 0 0]) F rfl rfl sz_40 h12 (Nat.le_of_ble_eq_true rfl) (one_all rfl)) ?_
    rintro w19 a ⟨E20, h12, Z21⟩ F
    replace B := B.size Z21
    replace h3 := BG.ev h3 E20 (ne_pm bj4) (ne_pm bj5.1) ne_zm
    replace E := E.trans E20 (fun x (q : x = m + 1) => Or.inr (le_col q))
    replace h12 : AT true (m + 1) c8 w19 qa10 [.int .i64 0, .int .i64 0, .int .i64 0, .slice none 0 0] := h12
    refine q_val F rfl rfl (by decide) (r_assign F rfl) fun a F => ?_
    refine nil ?_
    refine hK18 _ _ ?_
    refine wp_ret ?_
    refine thenR ?_
    replace H := Option.some.inj H
    subst H
    refine outR2 F rfl ⟨_, rfl, lv_agg (cs := [.int .i64 0, .int .i64 0, .int .i64 0, .slice none 0 0]) ag_40 sz_40 h12⟩ rfl ?_
    exact ⟨fun b_ => (fun x_ => if x_ < m then x_ else 0) (c8 b_), none, 0, rfl, E.leave B0 (fun x_ => if x_ < m then x_ else 0) (by intro x_ hx_; show (if x_ < m then x_ else 0) = x_; ((repeat' split) <;> omega)), (fun b_ hb_ => by show (if (c8 b_) < m then (c8 b_) else 0) < m; ((repeat' split) <;> omega)), SL.nil⟩
  · replace H := (if_neg hb17).symm.trans H
    refine wp_cond_false ((F.ev rfl).trans (congrArg Value.bool (bfalse hb17))) ?_
    refine wp_skip ?_
    refine hK15 _ _ ?_
    refine wp_seq_k fun K22 hK22 => ?_
    refine reg ?_
    refine q_val F rfl rfl (by decide) (r_move F rfl) fun a F => ?_
    replace H := bind_some H
    obtain ⟨ob23, e24, H⟩ := H
    have z25 := h3
    rw [e24] at z25
    obtain ⟨ad26, p28, rfl, hat27, h29⟩ := BG.some z25
    refine q_val F rfl rfl (by decide) (r_nil F rfl) fun a F => ?_
    refine q_val F rfl rfl (by decide) (r_fieldAddr F rfl ff_67_0) fun a F => ?_
    refine q_val F rfl rfl (by decide) (r_load F rfl ag_65 (AT.cell hat27 rfl)) fun a F => ?_
    refine q_val F rfl rfl (by decide) (r_move F rfl) fun a F => ?_
    replace H := ifN H
    obtain ⟨g31, H⟩ := H
    obtain ⟨cs32, r33, hl34⟩ := MKlook (t := 65) (x0 := (default : api_Letter)) (zcs := [.int .i64 0, .int .i64 0, .int .i64 0, .slice none 0 0]) h29 Try.underlying3 Try.underlying65 (fun w => by kernel_rfl) ⟨none, 0, rfl, SL.nil⟩ g31
    obtain ⟨A35, C36, rfl, h37⟩ := r33
    replace h37 := SL.fl (i' := 0) h37 (fun q => q)
    refine q_val F rfl rfl (by decide) (r_lookK F rfl rfl hl34) fun a F => ?_
    refine q_val F rfl rfl (by decide) (r_move F rfl) fun a F => ?_
    refine q_val F rfl rfl (by decide) (r_extract F rfl rfl) fun a F => ?_
    refine q_val F rfl rfl (by decide) (r_extract F rfl rfl) fun a F => ?_
    refine q_eff F rfl rfl (by decide) (e_alloc F zv_40 c8 (m + 2)) ?_
    rintro v w39 a ⟨c38, qa40, rfl, E41, h42, B43⟩ F
    replace B := B43 _ B (Nat.add_lt_add_left (by decide) m)
    replace h3 := BG.ev h3 E41 (fun q => q.elim) (fun q => q.elim) (fun q => q.elim)
    replace h12 := AT.ev h12 E41 (fun q => q.elim)
    replace h29 := ML.ev h29 E41 (fun q => q.elim) (fun q => q.elim)
    replace hat27 := AT.ev hat27 E41 (fun q => q.elim)
    replace h37 := SL.ev h37 E41 (fun q => q.elim) (fun q => q.elim)
    replace E := E.trans E41 (fun x q => q.elim)
    replace h42 : AT true (m + 2) c38 w39 qa40 [.int .i64 0, .int .i64 0, .int .i64 0, .slice none 0 0] := h42
    refine q_eff0 F rfl rfl (e_storeN0 (us := [.int .i64 (((ob23.under.f a6).getD default).Number), .int .i64 (((ob23.under.f a6).getD default).From), .int .i64 (((ob23.under.f a6).getD default).To), .slice A35 (((ob23.under.f a6).getD default).Data).length C36]) F rfl rfl sz_40 h42 (Nat.le_of_ble_eq_true rfl) (one_all rfl)) ?_
    rintro w45 a ⟨E46, h42, Z47⟩ F
    replace B := B.size Z47
    replace h3 := BG.ev h3 E46 (ne_pm bj4) (ne_pm bj5.1) ne_zm
    replace h12 := AT.ev h12 E46 (ne_mm (by decide))
    replace h29 := ML.ev h29 E46 (ne_pm bj5.1) ne_zm
    replace hat27 := AT.ev hat27 E46 (ne_pm bj4)
    replace h37 := SL.ev h37 E46 ne_zm ne_zm
    replace E := E.trans E46 (fun x (q : x = m + 2) => Or.inr (le_col q))
    replace h42 : AT true (m + 2) c38 w45 qa40 [.int .i64 (((ob23.under.f a6).getD default).Number), .int .i64 (((ob23.under.f a6).getD default).From), .int .i64 (((ob23.under.f a6).getD default).To), .slice A35 (((ob23.under.f a6).getD default).Data).length C36] := h42
    refine q_val F rfl rfl (by decide) (r_assign F rfl) fun a F => ?_
    refine nil ?_
    refine hK22 _ _ ?_
    replace F : Fr a 24 [(4, .pointer (some qa10)), (6, .pointer (some qa40)), (7, .bool ((ob23.under.f a6).isSome))] := F.sub ⟨rfl, rfl, rfl, trivial⟩
    refine wp_seq_k fun K48 hK48 => ?_
    refine wp_seq_k fun K49 hK49 => ?_
    refine reg ?_
    refine q_val F rfl rfl (by decide) (r_move F rfl) fun a F => ?_
    refine q_val F rfl rfl (by decide) (r_not F rfl) fun a F => ?_
    refine nil ?_
    refine hK49 _ _ ?_
    by_cases hb50 : ((ob23.under.f a6).isSome) = true
    · replace H := (if_pos hb50).symm.trans H
      refine wp_cond_false ((F.ev rfl).trans (congrArg Value.bool (congrArg not hb50))) ?_
      refine wp_skip ?_
      refine hK48 _ _ ?_
      refine wp_seq_k fun K55 hK55 => ?_
      refine reg ?_
      refine q_val F rfl rfl (by decide) (r_loads (cs := [.int .i64 (((ob23.under.f a6).getD default).Number), .int .i64 (((ob23.under.f a6).getD default).From), .int .i64 (((ob23.under.f a6).getD default).To), .slice A35 (((ob23.under.f a6).getD default).Data).length C36]) F rfl ag_40 sz_40 h42) fun a F => ?_
      refine q_eff0 F rfl rfl (e_storeN0 (us := [.int .i64 (((ob23.under.f a6).getD default).Number), .int .i64 (((ob23.under.f a6).getD default).From), .int .i64 (((ob23.under.f a6).getD default).To), .slice A35 (((ob23.under.f a6).getD default).Data).length C36]) F rfl rfl sz_40 h12 (Nat.le_of_ble_eq_true rfl) (one_all rfl)) ?_
      rintro w56 a ⟨E57, h12, Z58⟩ F
      replace B := B.size Z58
      replace h3 := BG.ev h3 E57 (ne_pm bj4) (ne_pm bj5.1) ne_zm
      replace h29 := ML.ev h29 E57 (ne_pm bj5.1) ne_zm
      replace hat27 := AT.ev hat27 E57 (ne_pm bj4)
      replace h37 := SL.ev h37 E57 ne_zm ne_zm
      replace h42 := AT.ev h42 E57 (ne_mm (by decide))
      replace E := E.trans E57 (fun x (q : x = m + 1) => Or.inr (le_col q))
      replace h12 : AT true (m + 1) c38 w56 qa10 [.int .i64 (((ob23.under.f a6).getD default).Number), .int .i64 (((ob23.under.f a6).getD default).From), .int .i64 (((ob23.under.f a6).getD default).To), .slice A35 (((ob23.under.f a6).getD default).Data).length C36] := h12
      refine q_val F rfl rfl (by decide) (r_assign F rfl) fun a F => ?_
      refine nil ?_
      refine hK55 _ _ ?_
      refine wp_ret ?_
      replace H := Option.some.inj H
      subst H
      refine outR2 F rfl ⟨_, rfl, lv_agg (cs := [.int .i64 (((ob23.under.f a6).getD default).Number), .int .i64 (((ob23.under.f a6).getD default).From), .int .i64 (((ob23.under.f a6).getD default).To), .slice A35 (((ob23.under.f a6).getD default).Data).length C36]) ag_40 sz_40 h12⟩ rfl ?_
      exact ⟨fun b_ => (fun x_ => if x_ < m then x_ else 0) (c38 b_), A35, C36, rfl, E.leave B0 (fun x_ => if x_ < m then x_ else 0) (by intro x_ hx_; show (if x_ < m then x_ else 0) = x_; ((repeat' split) <;> omega)), (fun b_ hb_ => by show (if (c38 b_) < m then (c38 b_) else 0) < m; ((repeat' split) <;> omega)), SL.rc h37 (fun k_ hk_ => by show (if (c38 k_) < m then (c38 k_) else 0) = _; rw [hk_]; ((repeat' split) <;> omega)) (fun k_ hk_ => by show (if (c38 k_) < m then (c38 k_) else 0) = _; rw [hk_]; ((repeat' split) <;> omega))⟩
    · replace H := (if_neg hb50).symm.trans H
      refine wp_cond_true ((F.ev rfl).trans (congrArg Value.bool (congrArg not (bfalse hb50)))) ?_
      refine wp_seq_k fun K51 hK51 => ?_
      refine reg ?_
      refine q_val F rfl rfl (by decide) (r_build (v := .agg #[.int .i64 0, .int .i64 0, .int .i64 0, .slice none 0 0]) F [] (by exact trivial) (fun w => by kernel_rfl)) fun a F => ?_
      refine q_eff0 F rfl rfl (e_storeN0 (us := [.int .i64 0, .int .i64 0, .int .i64 0, .slice none 0 0]) F rfl rfl sz_40 h12 (Nat.le_of_ble_eq_true rfl) (one_all rfl)) ?_
      rintro w52 a ⟨E53, h12, Z54⟩ F
      replace B := B.size Z54
      replace h3 := BG.ev h3 E53 (ne_pm bj4) (ne_pm bj5.1) ne_zm
      replace h29 := ML.ev h29 E53 (ne_pm bj5.1) ne_zm
      replace hat27 := AT.ev hat27 E53 (ne_pm bj4)
      replace h37 := SL.ev h37 E53 ne_zm ne_zm
      replace h42 := AT.ev h42 E53 (ne_mm (by decide))
      replace E := E.trans E53 (fun x (q : x = m + 1) => Or.inr (le_col q))
      replace h12 : AT true (m + 1) c38 w52 qa10 [.int .i64 0, .int .i64 0, .int .i64 0, .slice none 0 0] := h12
      refine q_val F rfl rfl (by decide) (r_assign F rfl) fun a F => ?_
      refine nil ?_
      refine hK51 _ _ ?_
      refine wp_ret ?_
      refine thenR ?_
      replace H := Option.some.inj H
      subst H
      refine outR2 F rfl ⟨_, rfl, lv_agg (cs := [.int .i64 0, .int .i64 0, .int .i64 0, .slice none 0 0]) ag_40 sz_40 h12⟩ rfl ?_
      exact ⟨fun b_ => (fun x_ => if x_ < m then x_ else 0) (c38 b_), none, 0, rfl, E.leave B0 (fun x_ => if x_ < m then x_ else 0) (by intro x_ hx_; show (if x_ < m then x_ else 0) = x_; ((repeat' split) <;> omega)), (fun b_ hb_ => by show (if (c38 b_) < m then (c38 b_) else 0) < m; ((repeat' split) <;> omega)), SL.nil⟩
end Go.Proofs.Ytdlokohmdnkdoaa.G
namespace Go.Proofs.Ytdlokohmdnkdoaa.G
open Go Go.RowKit
set_option linter.unusedVariables false
set_option linter.unusedSimpArgs false
set_option maxRecDepth 100000 in
set_option maxHeartbeats 4000000 in
theorem bag_Bag_Deliver.calls {m : Nat} {c0 : Nat → Nat} {w0 : World} {j4 : Nat} {j5 : Nat} {p2 : Option Addr} {a1 : Option Bag} {a6 : Int} (hm0 : 0 < m) (B0 : CB m c0 w0) (h3 : BG j4 j5 c0 w0 p2 a1) (bj4 : 0 < j4 ∧ j4 < m) (bj5 : 0 < j5 ∧ j5 < m ∧ j5 ≠ j4) (r : api_Letter × Int × (Option Bag)) (H : bag_Bag_Deliver.f a1 a6 = some r) : Calls Try.prog 18 #[.pointer p2, .int .i64 a6] w0 (fun e w_ => ∃ (c_ : Nat → Nat) (A0_ : Option Addr) (C0_ : Nat), e = .returned (.tuple #[.agg #[.int .i64 r.1.Number, .int .i64 r.1.From, .int .i64 r.1.To, .slice A0_ r.1.Data.length C0_], .int .i64 r.2.1]) ∧ Ev (fun x => (x = j4 ∨ x = j5)) c0 w0 c_ w_ ∧ CB m c_ w_ ∧ SL false (Kint .u8) 0 0 c_ w_ A0_ C0_ r.1.Data ∧ BG j4 j5 c_ w_ p2 r.2.2) := by
  unfold bag_Bag_Deliver.f at H
  have B := B0.mono (show m ≤ m + 3 by omega)
  have E : Ev (fun x => (x = j4 ∨ x = j5) ∨ m ≤ x) c0 w0 c0 w0 := Ev.refl
  refine enter (N := 33) (l := [.pointer p2, .int .i64 a6]) Try.func18 rfl rfl (Nat.le_of_ble_eq_true rfl) fun a F => ?_
  refine wp_seq_k fun K7 hK7 => ?_
  refine reg ?_
  refine q_eff F rfl rfl (by decide) (e_alloc F zv_40 c0 (m + 1)) ?_
  rintro v w9 a ⟨c8, qa10, rfl, E11, h12, B13⟩ F
  replace B := B13 _ B (Nat.add_lt_add_left (by decide) m)
  replace h3 := BG.ev h3 E11 (fun q => q.elim) (fun q => q.elim) (fun q => q.elim)
  replace E := E.trans E11 (fun x q => q.elim)
  replace h12 : AT true (m + 1) c8 w9 qa10 [.int .i64 0, .int .i64 0, .int .i64 0, .slice none 0 0] := h12
  refine q_val F rfl rfl (by decide) (r_assign F rfl) fun a F => ?_
  refine nil ?_
  refine hK7 _ _ ?_
  refine wp_seq_k fun K15 hK15 => ?_
  refine reg ?_
  refine q_val F rfl rfl (by decide) (r_move F rfl) fun a F => ?_
  refine q_val F rfl rfl (by decide) (r_move F rfl) fun a F => ?_
  replace H := bind_some H
  obtain ⟨t16, q17, H⟩ := H
  refine q_call F rfl rfl (by decide) (r_call F Try.func36 rfl (by kernel_rfl) rfl) (bag_Bag_find.calls (m := m + 3) (Nat.add_pos_left hm0 _) B h3 (Nat.lt_add_right _ bj4.2) ⟨(Nat.lt_add_right _ bj5.2.1), bj5.2.2⟩ _ q17) ?_
  rintro e w19 ⟨c18, A22, C23, rfl, E20, B21, h24⟩
  refine ⟨_, rfl, fun a F => ?_⟩
  have B := B21
  replace h3 := BG.ev h3 E20 (fun q => q.elim) (fun q => q.elim) (fun q => q.elim)
  replace h12 := AT.ev h12 E20 (fun q => q.elim)
  replace E := E.trans E20 (fun x q => q.elim)
  refine q_val F rfl rfl (by decide) (r_move F rfl) fun a F => ?_
  refine q_val F rfl rfl (by decide) (r_extract F rfl rfl) fun a F => ?_
  refine q_val F rfl rfl (by decide) (r_extract F rfl rfl) fun a F => ?_
  refine q_eff F rfl rfl (by decide) (e_alloc F zv_40 c18 (m + 2)) ?_
  rintro v w27 a ⟨c26, qa28, rfl, E29, h30, B31⟩ F
  replace B := B31 _ B (Nat.add_lt_add_left (by decide) m)
  replace h3 := BG.ev h3 E29 (fun q => q.elim) (fun q => q.elim) (fun q => q.elim)
  replace h12 := AT.ev h12 E29 (fun q => q.elim)
  replace h24 := SL.ev h24 E29 (fun q => q.elim) (fun q => q.elim)
  replace E := E.trans E29 (fun x q => q.elim)
  replace h30 : AT true (m + 2) c26 w27 qa28 [.int .i64 0, .int .i64 0, .int .i64 0, .slice none 0 0] := h30
  refine q_eff0 F rfl rfl (e_storeN0 (us := [.int .i64 t16.1.Number, .int .i64 t16.1.From, .int .i64 t16.1.To, .slice A22 t16.1.Data.length C23]) F rfl rfl sz_40 h30 (Nat.le_of_ble_eq_true rfl) (one_all rfl)) ?_
  rintro w33 a ⟨E34, h30, Z35⟩ F
  replace B := B.size Z35
  replace h3 := BG.ev h3 E34 (ne_pm bj4.2) (ne_pm bj5.2.1) ne_zm
  replace h12 := AT.ev h12 E34 (ne_mm (by decide))
  replace h24 := SL.ev h24 E34 ne_zm ne_zm
  replace E := E.trans E34 (fun x (q : x = m + 2) => Or.inr (le_col q))
  replace h30 : AT true (m + 2) c26 w33 qa28 [.int .i64 t16.1.Number, .int .i64 t16.1.From, .int .i64 t16.1.To, .slice A22 t16.1.Data.length C23] := h30
  refine q_val F rfl rfl (by decide) (r_assign F rfl) fun a F => ?_
  refine nil ?_
  refine hK15 _ _ ?_
  refine wp_seq_k fun K36 hK36 => ?_
  refine wp_seq_k fun K37 hK37 => ?_
  refine reg ?_
  refine q_val F rfl rfl (by decide) (r_move F rfl) fun a F => ?_
  refine q_val F rfl rfl (by decide) (r_neq F rfl rfl) fun a F => ?_
  refine nil ?_
  refine hK37 _ _ ?_
  replace F : Fr a 33 [(0, .pointer p2), (1, .int .i64 a6), (4, .pointer (some qa10)), (6, .pointer (some qa28)), (7, .int .i64 t16.2), (15, .bool (!decide (t16.2 = 0)))] := F.sub ⟨rfl, rfl, rfl, rfl, rfl, rfl, trivial⟩
  by_cases hb38 : t16.2 = 0
  · replace H := (if_pos hb38).symm.trans H
    refine wp_cond_false ((F.ev rfl).trans (congrArg Value.bool (congrArg not (decide_eq_true hb38)))) ?_
    refine wp_skip ?_
    refine hK36 _ _ ?_
    refine wp_seq_k fun K43 hK43 => ?_
    refine reg ?_
    refine q_val F rfl rfl (by decide) (r_move F rfl) fun a F => ?_
    replace H := bind_some H
    obtain ⟨ob44, e45, H⟩ := H
    have z46 := h3
    rw [e45] at z46
    obtain ⟨ad47, p49, rfl, hat48, h50⟩ := BG.some z46
    refine q_val F rfl rfl (by decide) (r_nil F rfl) fun a F => ?_
    refine q_val F rfl rfl (by decide) (r_fieldAddr F rfl ff_67_0) fun a F => ?_
    refine q_val F rfl rfl (by decide) (r_load F rfl ag_65 (AT.cell hat48 rfl)) fun a F => ?_
    refine q_val F rfl rfl (by decide) (r_move F rfl) fun a F => ?_
    replace H := ifN H
    obtain ⟨g52, H⟩ := H
    refine q_effv0 F rfl rfl (e_mapDeleteK F Try.underlying3 Try.underlying65 rfl rfl h50 (ne_z bj5.1) g52) ?_
    rintro w53 a ⟨E54, h55, Z56⟩ F
    replace B := B.size Z56
    replace h12 := AT.ev h12 E54 (ne_mp bj5.2.1)
    replace h24 := SL.ev h24 E54 (ne_z bj5.1) (ne_z bj5.1)
    replace h30 := AT.ev h30 E54 (ne_mp bj5.2.1)
    replace hat48 := AT.ev hat48 E54 (Ne.symm bj5.2.2)
    replace E := E.trans E54 (fun x (q : x = j5) => Or.inl (Or.inr (q)))
    replace h55 : ML j5 c26 w53 p49 (MkV.del ob44.under a6) := h55
    refine nil ?_
    refine hK43 _ _ ?_
    replace F : Fr a 33 [(0, .pointer (some ad47)), (4, .pointer (some qa10)), (6, .pointer (some qa28))] := F.sub ⟨rfl, rfl, rfl, trivial⟩
    refine wp_seq_k fun K57 hK57 => ?_
    refine reg ?_
    refine q_val F rfl rfl (by decide) (r_move F rfl) fun a F => ?_
    refine q_val F rfl rfl (by decide) (r_nil F rfl) fun a F => ?_
    refine q_val F rfl rfl (by decide) (r_fieldAddr F rfl ff_67_2) fun a F => ?_
    refine q_val F rfl rfl (by decide) (r_fieldAddr2 F hat48 rfl ff_63_2) fun a F => ?_
    refine q_val F rfl rfl (by decide) (r_load F rfl ag_3 (AT.cell hat48 rfl)) fun a F => ?_
    refine q_val F rfl rfl (by decide) (r_add F rfl rfl) fun a F => ?_
    refine q_val F rfl rfl (by decide) (r_nil F rfl) fun a F => ?_
    refine q_val F rfl rfl (by decide) (r_fieldAddr F rfl ff_67_2) fun a F => ?_
    refine q_val F rfl rfl (by decide) (r_fieldAddr2 F hat48 rfl ff_63_2) fun a F => ?_
    refine q_eff0 F rfl rfl (e_store F rfl rfl sz_3 hat48 (Nat.le_of_ble_eq_true rfl) rfl) ?_
    rintro w58 a ⟨E59, hat48, Z60⟩ F
    replace B := B.size Z60
    replace h12 := AT.ev h12 E59 (ne_mp bj4.2)
    replace h24 := SL.ev h24 E59 (ne_z bj4.1) (ne_z bj4.1)
    replace h30 := AT.ev h30 E59 (ne_mp bj4.2)
    replace h55 := ML.ev h55 E59 bj5.2.2 (ne_z bj4.1)
    replace E := E.trans E59 (fun x (q : x = j4) => Or.inl (Or.inl q))
    replace hat48 : AT true j4 c26 w58 ad47 [.map (Option.map Addr.block p49), .int .i64 ob44.next, .int .i64 ob44.told.Sent, .int .i64 ob44.told.Twice, .int .i64 (IntKind.i64.wrap (ob44.told.Delivered + 1)), .int .i64 ob44.told.Dropped, .int .i64 ob44.told.Lost] := hat48
    refine nil ?_
    refine hK57 _ _ ?_
    replace F : Fr a 33 [(4, .pointer (some qa10)), (6, .pointer (some qa28))] := F.sub ⟨rfl, rfl, trivial⟩
    refine wp_seq_k fun K61 hK61 => ?_
    refine reg ?_
    refine q_val F rfl rfl (by decide) (r_loads (cs := [.int .i64 t16.1.Number, .int .i64 t16.1.From, .int .i64 t16.1.To, .slice A22 t16.1.Data.length C23]) F rfl ag_40 sz_40 h30) fun a F => ?_
    refine q_eff0 F rfl rfl (e_storeN0 (us := [.int .i64 t16.1.Number, .int .i64 t16.1.From, .int .i64 t16.1.To, .slice A22 t16.1.Data.length C23]) F rfl rfl sz_40 h12 (Nat.le_of_ble_eq_true rfl) (one_all rfl)) ?_
    rintro w62 a ⟨E63, h12, Z64⟩ F
    replace B := B.size Z64
    replace h24 := SL.ev h24 E63 ne_zm ne_zm
    replace h30 := AT.ev h30 E63 (ne_mm (by decide))
    replace hat48 := AT.ev hat48 E63 (ne_pm bj4.2)
    replace h55 := ML.ev h55 E63 (ne_pm bj5.2.1) ne_zm
    replace E := E.trans E63 (fun x (q : x = m + 1) => Or.inr (le_col q))
    replace h12 : AT true (m + 1) c26 w62 qa10 [.int .i64 t16.1.Number, .int .i64 t16.1.From, .int .i64 t16.1.To, .slice A22 t16.1.Data.length C23] := h12
    refine q_val F rfl rfl (by decide) (r_assign F rfl) fun a F => ?_
    refine nil ?_
    refine hK61 _ _ ?_
    refine wp_ret ?_
    have h65 : BG j4 j5 c26 w62 (some ad47) (some (Bag.mk (MkV.del ob44.under a6) ob44.next (api_Traffic.mk ob44.told.Sent ob44.told.Twice (IntKind.i64.wrap (ob44.told.Delivered + 1)) ob44.told.Dropped ob44.told.Lost))) := BG.mk hat48 h55
    replace H := Option.some.inj H
    subst H
    refine outR2 F rfl ⟨_, rfl, lv_agg (cs := [.int .i64 t16.1.Number, .int .i64 t16.1.From, .int .i64 t16.1.To, .slice A22 t16.1.Data.length C23]) ag_40 sz_40 h12⟩ rfl ?_
    exact ⟨fun b_ => (fun x_ => if x_ < m then x_ else 0) (c26 b_), A22, C23, rfl, E.leave B0 (fun x_ => if x_ < m then x_ else 0) (by intro x_ hx_; show (if x_ < m then x_ else 0) = x_; ((repeat' split) <;> omega)), (fun b_ hb_ => by show (if (c26 b_) < m then (c26 b_) else 0) < m; ((repeat' split) <;> omega)), SL.rc h24 (fun k_ hk_ => by show (if (c26 k_) < m then (c26 k_) else 0) = _; rw [hk_]; ((repeat' split) <;> omega)) (fun k_ hk_ => by show (if (c26 k_) < m then (c26 k_) else 0) = _; rw [hk_]; ((repeat' split) <;> omega)), BG.rc h65 (fun k_ hk_ => by show (if (c26 k_) < m then (c26 k_) else 0) = _; rw [hk_]; ((repeat' split) <;> omega)) (fun k_ hk_ => by show (if (c26 k_) < m then (c26 k_) else 0) = _; rw [hk_]; ((repeat' split) <;> omega)) (fun k_ hk_ => by show (if (c26 k_) < m then (c26 k_) else 0) = _; rw [hk_]; ((repeat' split) <;> omega))⟩
  · replace H := (if_neg hb38).symm.trans H
    refine wp_cond_true ((F.ev rfl).trans (congrArg Value.bool (congrArg not (decide_eq_false hb38)))) ?_
    refine wp_seq_k fun K39 hK39 => ?_
    refine reg ?_
    refine q_val F rfl rfl (by decide) (r_build (v := .agg #[.int .i64 0, .int .i64 0, .int .i64 0, .slice none 0 0]) F [] (by exact trivial) (fun w => by kernel_rfl)) fun a F => ?_
    refine q_val F rfl rfl (by decide) (r_move F rfl) fun a F => ?_
    refine q_eff0 F rfl rfl (e_storeN0 (us := [.int .i64 0, .int .i64 0, .int .i64 0, .slice none 0 0]) F rfl rfl sz_40 h12 (Nat.le_of_ble_eq_true rfl) (one_all rfl)) ?_
    rintro w40 a ⟨E41, h12, Z42⟩ F
    replace B := B.size Z42
    replace h3 := BG.ev h3 E41 (ne_pm bj4.2) (ne_pm bj5.2.1) ne_zm
    replace h24 := SL.ev h24 E41 ne_zm ne_zm
    replace h30 := AT.ev h30 E41 (ne_mm (by decide))
    replace E := E.trans E41 (fun x (q : x = m + 1) => Or.inr (le_col q))
    replace h12 : AT true (m + 1) c26 w40 qa10 [.int .i64 0, .int .i64 0, .int .i64 0, .slice none 0 0] := h12
    refine q_val F rfl rfl (by decide) (r_assign F rfl) fun a F => ?_
    refine nil ?_
    refine hK39 _ _ ?_
    refine wp_ret ?_
    refine thenR ?_
    replace H := Option.some.inj H
    subst H
    refine outR2 F rfl ⟨_, rfl, lv_agg (cs := [.int .i64 0, .int .i64 0, .int .i64 0, .slice none 0 0]) ag_40 sz_40 h12⟩ rfl ?_
    exact ⟨fun b_ => (fun x_ => if x_ < m then x_ else 0) (c26 b_), none, 0, rfl, E.leave B0 (fun x_ => if x_ < m then x_ else 0) (by intro x_ hx_; show (if x_ < m then x_ else 0) = x_; ((repeat' split) <;> omega)), (fun b_ hb_ => by show (if (c26 b_) < m then (c26 b_) else 0) < m; ((repeat' split) <;> omega)), SL.nil, BG.rc h3 (fun k_ hk_ => by show (if (c26 k_) < m then (c26 k_) else 0) = _; rw [hk_]; ((repeat' split) <;> omega)) (fun k_ hk_ => by show (if (c26 k_) < m then (c26 k_) else 0) = _; rw [hk_]; ((repeat' split) <;> omega)) (fun k_ hk_ => by show (if (c26 k_) < m then (c26 k_) else 0) = _; rw [hk_]; ((repeat' split) <;> omega))⟩
end Go.Proofs.Ytdlokohmdnkdoaa.G
namespace Go.Proofs.Ytdlokohmdnkdoaa.G
open Go Go.RowKit
set_option linter.unusedVariables false
set_option linter.unusedSimpArgs false
set_option maxRecDepth 100000 in
set_option maxHeartbeats 4000000 in
theorem bag_Bag_Drop.calls {m : Nat} {c0 : Nat → Nat} {w0 : World} {j4 : Nat} {j5 : Nat} {p2 : Option Addr} {a1 : Option Bag} {a6 : Int} (hm0 : 0 < m) (B0 : CB m c0 w0) (h3 : BG j4 j5 c0 w0 p2 a1) (bj4 : 0 < j4 ∧ j4 < m) (bj5 : 0 < j5 ∧ j5 < m ∧ j5 ≠ j4) (r : Int × (Option Bag)) (H : bag_Bag_Drop.f a1 a6 = some r) : Calls Try.prog 27 #[.pointer p2, .int .i64 a6] w0 (fun e w_ => ∃ (c_ : Nat → Nat), e = .returned (.int .i64 r.1) ∧ Ev (fun x => (x = j4 ∨ x = j5)) c0 w0 c_ w_ ∧ CB m c_ w_ ∧ BG j4 j5 c_ w_ p2 r.2) := by
  unfold bag_Bag_Drop.f at H
  have B := B0.mono (show m ≤ m + 2 by omega)
  have E : Ev (fun x => (x = j4 ∨ x = j5) ∨ m ≤ x) c0 w0 c0 w0 := Ev.refl
  refine enter (N := 30) (l := [.pointer p2, .int .i64 a6]) Try.func27 rfl rfl (Nat.le_of_ble_eq_true rfl) fun a F => ?_
  refine wp_seq_k fun K7 hK7 => ?_
  refine reg ?_
  refine q_val F rfl rfl (by decide) (r_assign F rfl) fun a F => ?_
  refine nil ?_
  refine hK7 _ _ ?_
  refine wp_seq_k fun K8 hK8 => ?_
  refine wp_seq_k fun K9 hK9 => ?_
  refine reg ?_
  refine q_val F rfl rfl (by decide) (r_move F rfl) fun a F => ?_
  refine q_val F rfl rfl (by decide) (r_move F rfl) fun a F => ?_
  replace H := bind_some H
  obtain ⟨t10, q11, H⟩ := H
  refine q_call F rfl rfl (by decide) (r_call F Try.func36 rfl (by kernel_rfl) rfl) (bag_Bag_find.calls (m := m + 2) (Nat.add_pos_left hm0 _) B h3 (Nat.lt_add_right _ bj4.2) ⟨(Nat.lt_add_right _ bj5.2.1), bj5.2.2⟩ _ q11) ?_
  rintro e w13 ⟨c12, A16, C17, rfl, E14, B15, h18⟩
  refine ⟨_, rfl, fun a F => ?_⟩
  have B := B15
  replace h3 := BG.ev h3 E14 (fun q => q.elim) (fun q => q.elim) (fun q => q.elim)
  replace E := E.trans E14 (fun x q => q.elim)
  refine q_val F rfl rfl (by decide) (r_move F rfl) fun a F => ?_
  refine q_val F rfl rfl (by decide) (r_extract F rfl rfl) fun a F => ?_
  refine q_val F rfl rfl (by decide) (r_extract F rfl rfl) fun a F => ?_
  refine q_eff F rfl rfl (by decide) (e_alloc F zv_40 c12 (m + 1)) ?_
  rintro v w21 a ⟨c20, qa22, rfl, E23, h24, B25⟩ F
  replace B := B25 _ B (Nat.add_lt_add_left (by decide) m)
  replace h3 := BG.ev h3 E23 (fun q => q.elim) (fun q => q.elim) (fun q => q.elim)
  replace h18 := SL.ev h18 E23 (fun q => q.elim) (fun q => q.elim)
  replace E := E.trans E23 (fun x q => q.elim)
  replace h24 : AT true (m + 1) c20 w21 qa22 [.int .i64 0, .int .i64 0, .int .i64 0, .slice none 0 0] := h24
  refine q_eff0 F rfl rfl (e_storeN0 (us := [.int .i64 t10.1.Number, .int .i64 t10.1.From, .int .i64 t10.1.To, .slice A16 t10.1.Data.length C17]) F rfl rfl sz_40 h24 (Nat.le_of_ble_eq_true rfl) (one_all rfl)) ?_
  rintro w27 a ⟨E28, h24, Z29⟩ F
  replace B := B.size Z29
  replace h3 := BG.ev h3 E28 (ne_pm bj4.2) (ne_pm bj5.2.1) ne_zm
  replace h18 := SL.ev h18 E28 ne_zm ne_zm
  replace E := E.trans E28 (fun x (q : x = m + 1) => Or.inr (le_col q))
  replace h24 : AT true (m + 1) c20 w27 qa22 [.int .i64 t10.1.Number, .int .i64 t10.1.From, .int .i64 t10.1.To, .slice A16 t10.1.Data.length C17] := h24
  refine q_val F rfl rfl (by decide) (r_assign F rfl) fun a F => ?_
  refine nil ?_
  refine hK9 _ _ ?_
  replace F : Fr a 30 [(0, .pointer p2), (1, .int .i64 a6), (6, .int .i64 t10.2)] := F.sub ⟨rfl, rfl, rfl, trivial⟩
  refine wp_seq_k fun K30 hK30 => ?_
  refine reg ?_
  refine q_val F rfl rfl (by decide) (r_move F rfl) fun a F => ?_
  refine q_val F rfl rfl (by decide) (r_neq F rfl rfl) fun a F => ?_
  refine nil ?_
  refine hK30 _ _ ?_
  by_cases hb31 : t10.2 = 0
  · replace H := (if_pos hb31).symm.trans H
    refine wp_cond_false ((F.ev rfl).trans (congrArg Value.bool (congrArg not (decide_eq_true hb31)))) ?_
    refine wp_skip ?_
    refine hK8 _ _ ?_
    refine wp_seq_k fun K33 hK33 => ?_
    refine reg ?_
    refine q_val F rfl rfl (by decide) (r_move F rfl) fun a F => ?_
    replace H := bind_some H
    obtain ⟨ob34, e35, H⟩ := H
    have z36 := h3
    rw [e35] at z36
    obtain ⟨ad37, p39, rfl, hat38, h40⟩ := BG.some z36
    refine q_val F rfl rfl (by decide) (r_nil F rfl) fun a F => ?_
    refine q_val F rfl rfl (by decide) (r_fieldAddr F rfl ff_67_0) fun a F => ?_
    refine q_val F rfl rfl (by decide) (r_load F rfl ag_65 (AT.cell hat38 rfl)) fun a F => ?_
    refine q_val F rfl rfl (by decide) (r_move F rfl) fun a F => ?_
    replace H := ifN H
    obtain ⟨g42, H⟩ := H
    refine q_effv0 F rfl rfl (e_mapDeleteK F Try.underlying3 Try.underlying65 rfl rfl h40 (ne_z bj5.1) g42) ?_
    rintro w43 a ⟨E44, h45, Z46⟩ F
    replace B := B.size Z46
    replace h18 := SL.ev h18 E44 (ne_z bj5.1) (ne_z bj5.1)
    replace h24 := AT.ev h24 E44 (ne_mp bj5.2.1)
    replace hat38 := AT.ev hat38 E44 (Ne.symm bj5.2.2)
    replace E := E.trans E44 (fun x (q : x = j5) => Or.inl (Or.inr (q)))
    replace h45 : ML j5 c20 w43 p39 (MkV.del ob34.under a6) := h45
    refine nil ?_
    refine hK33 _ _ ?_
    replace F : Fr a 30 [(0, .pointer (some ad37))] := F.sub ⟨rfl, trivial⟩
    refine wp_seq_k fun K47 hK47 => ?_
    refine reg ?_
    refine q_val F rfl rfl (by decide) (r_move F rfl) fun a F => ?_
    refine q_val F rfl rfl (by decide) (r_nil F rfl) fun a F => ?_
    refine q_val F rfl rfl (by decide) (r_fieldAddr F rfl ff_67_2) fun a F => ?_
    refine q_val F rfl rfl (by decide) (r_fieldAddr2 F hat38 rfl ff_63_3) fun a F => ?_
    refine q_val F rfl rfl (by decide) (r_load F rfl ag_3 (AT.cell hat38 rfl)) fun a F => ?_
    refine q_val F rfl rfl (by decide) (r_add F rfl rfl) fun a F => ?_
    refine q_val F rfl rfl (by decide) (r_nil F rfl) fun a F => ?_
    refine q_val F rfl rfl (by decide) (r_fieldAddr F rfl ff_67_2) fun a F => ?_
    refine q_val F rfl rfl (by decide) (r_fieldAddr2 F hat38 rfl ff_63_3) fun a F => ?_
    refine q_eff0 F rfl rfl (e_store F rfl rfl sz_3 hat38 (Nat.le_of_ble_eq_true rfl) rfl) ?_
    rintro w48 a ⟨E49, hat38, Z50⟩ F
    replace B := B.size Z50
    replace h18 := SL.ev h18 E49 (ne_z bj4.1) (ne_z bj4.1)
    replace h24 := AT.ev h24 E49 (ne_mp bj4.2)
    replace h45 := ML.ev h45 E49 bj5.2.2 (ne_z bj4.1)
    replace E := E.trans E49 (fun x (q : x = j4) => Or.inl (Or.inl q))
    replace hat38 : AT true j4 c20 w48 ad37 [.map (Option.map Addr.block p39), .int .i64 ob34.next, .int .i64 ob34.told.Sent, .int .i64 ob34.told.Twice, .int .i64 ob34.told.Delivered, .int .i64 (IntKind.i64.wrap (ob34.told.Dropped + 1)), .int .i64 ob34.told.Lost] := hat38
    refine nil ?_
    refine hK47 _ _ ?_
    replace F : Fr a 30 [] := F.sub trivial
    refine wp_seq_k fun K51 hK51 => ?_
    refine reg ?_
    refine q_val F rfl rfl (by decide) (r_assign F rfl) fun a F => ?_
    refine nil ?_
    refine hK51 _ _ ?_
    refine wp_ret ?_
    have h52 : BG j4 j5 c20 w48 (some ad37) (some (Bag.mk (MkV.del ob34.under a6) ob34.next (api_Traffic.mk ob34.told.Sent ob34.told.Twice ob34.told.Delivered (IntKind.i64.wrap (ob34.told.Dropped + 1)) ob34.told.Lost))) := BG.mk hat38 h45
    replace H := Option.some.inj H
    subst H
    refine out1 F rfl rfl ?_
    exact ⟨fun b_ => (fun x_ => if x_ < m then x_ else 0) (c20 b_), rfl, E.leave B0 (fun x_ => if x_ < m then x_ else 0) (by intro x_ hx_; show (if x_ < m then x_ else 0) = x_; ((repeat' split) <;> omega)), (fun b_ hb_ => by show (if (c20 b_) < m then (c20 b_) else 0) < m; ((repeat' split) <;> omega)), BG.rc h52 (fun k_ hk_ => by show (if (c20 k_) < m then (c20 k_) else 0) = _; rw [hk_]; ((repeat' split) <;> omega)) (fun k_ hk_ => by show (if (c20 k_) < m then (c20 k_) else 0) = _; rw [hk_]; ((repeat' split) <;> omega)) (fun k_ hk_ => by show (if (c20 k_) < m then (c20 k_) else 0) = _; rw [hk_]; ((repeat' split) <;> omega))⟩
  · replace H := (if_neg hb31).symm.trans H
    refine wp_cond_true ((F.ev rfl).trans (congrArg Value.bool (congrArg not (decide_eq_false hb31)))) ?_
    refine wp_seq_k fun K32 hK32 => ?_
    refine reg ?_
    refine q_val F rfl rfl (by decide) (r_move F rfl) fun a F => ?_
    refine q_val F rfl rfl (by decide) (r_assign F rfl) fun a F => ?_
    refine nil ?_
    refine hK32 _ _ ?_
    refine wp_ret ?_
    refine thenR ?_
    replace H := Option.some.inj H
    subst H
    refine out1 F rfl rfl ?_
    exact ⟨fun b_ => (fun x_ => if x_ < m then x_ else 0) (c20 b_), rfl, E.leave B0 (fun x_ => if x_ < m then x_ else 0) (by intro x_ hx_; show (if x_ < m then x_ else 0) = x_; ((repeat' split) <;> omega)), (fun b_ hb_ => by show (if (c20 b_) < m then (c20 b_) else 0) < m; ((repeat' split) <;> omega)), BG.rc h3 (fun k_ hk_ => by show (if (c20 k_) < m then (c20 k_) else 0) = _; rw [hk_]; ((repeat' split) <;> omega)) (fun k_ hk_ => by show (if (c20 k_) < m then (c20 k_) else 0) = _; rw [hk_]; ((repeat' split) <;> omega)) (fun k_ hk_ => by show (if (c20 k_) < m then (c20 k_) else 0) = _; rw [hk_]; ((repeat' split) <;> omega))⟩
end Go.Proofs.Ytdlokohmdnkdoaa.G
namespace Go.Proofs.Ytdlokohmdnkdoaa.G
open Go Go.RowKit
set_option linter.unusedVariables false
set_option linter.unusedSimpArgs false
set_option maxRecDepth 100000 in
set_option maxHeartbeats 4000000 in
theorem bag_Bag_Len.calls {m : Nat} {c0 : Nat → Nat} {w0 : World} {j4 : Nat} {j5 : Nat} {p2 : Option Addr} {a1 : Option Bag} (hm0 : 0 < m) (B0 : CB m c0 w0) (h3 : BG j4 j5 c0 w0 p2 a1) (bj4 : j4 < m) (bj5 : j5 < m ∧ j5 ≠ j4) (r : Int) (H : bag_Bag_Len.f a1 = some r) : Calls Try.prog 10 #[.pointer p2] w0 (fun e w_ => ∃ (c_ : Nat → Nat), e = .returned (.int .i64 r) ∧ Ev (fun x => False) c0 w0 c_ w_ ∧ CB m c_ w_) := by
  unfold bag_Bag_Len.f at H
  have B := B0.mono (show m ≤ m + 1 by omega)
  have E : Ev (fun x => False ∨ m ≤ x) c0 w0 c0 w0 := Ev.refl
  refine enter (N := 10) (l := [.pointer p2]) Try.func10 rfl rfl (Nat.le_of_ble_eq_true rfl) fun a F => ?_
  refine wp_seq_k fun K6 hK6 => ?_
  refine reg ?_
  refine q_val F rfl rfl (by decide) (r_assign F rfl) fun a F => ?_
  refine nil ?_
  refine hK6 _ _ ?_
  refine wp_seq_k fun K7 hK7 => ?_
  refine wp_seq_k fun K8 hK8 => ?_
  refine reg ?_
  refine q_val F rfl rfl (by decide) (r_move F rfl) fun a F => ?_
  refine q_val F rfl rfl (by decide) (r_peqlA F Try.underlying24 rfl rfl (BG.isNone h3)) fun a F => ?_
  refine nil ?_
  refine hK8 _ _ ?_
  by_cases hb9 : (Option.isNone a1) = true
  · replace H := (if_pos hb9).symm.trans H
    refine wp_cond_true ((F.ev rfl).trans (congrArg Value.bool hb9)) ?_
    refine wp_seq_k fun K10 hK10 => ?_
    refine reg ?_
    refine q_val F rfl rfl (by decide) (r_assign F rfl) fun a F => ?_
    refine nil ?_
    refine hK10 _ _ ?_
    refine wp_ret ?_
    refine thenR ?_
    replace H := Option.some.inj H
    subst H
    refine out1 F rfl rfl ?_
    exact ⟨fun b_ => (fun x_ => if x_ < m then x_ else 0) (c0 b_), rfl, E.leave B0 (fun x_ => if x_ < m then x_ else 0) (by intro x_ hx_; show (if x_ < m then x_ else 0) = x_; ((repeat' split) <;> omega)), (fun b_ hb_ => by show (if (c0 b_) < m then (c0 b_) else 0) < m; ((repeat' split) <;> omega))⟩
  · replace H := (if_neg hb9).symm.trans H
    refine wp_cond_false ((F.ev rfl).trans (congrArg Value.bool (bfalse hb9))) ?_
    refine wp_skip ?_
    refine hK7 _ _ ?_
    refine wp_seq_k fun K11 hK11 => ?_
    refine reg ?_
    refine q_val F rfl rfl (by decide) (r_move F rfl) fun a F => ?_
    replace H := bind_some H
    obtain ⟨ob12, e13, H⟩ := H
    have z14 := h3
    rw [e13] at z14
    obtain ⟨ad15, p17, rfl, hat16, h18⟩ := BG.some z14
    refine q_val F rfl rfl (by decide) (r_nil F rfl) fun a F => ?_
    refine q_val F rfl rfl (by decide) (r_fieldAddr F rfl ff_67_0) fun a F => ?_
    refine q_val F rfl rfl (by decide) (r_load F rfl ag_65 (AT.cell hat16 rfl)) fun a F => ?_
    refine q_val F rfl rfl (by decide) (r_lenmap F h18 Try.underlying65 rfl) fun a F => ?_
    refine q_val F rfl rfl (by decide) (r_assign F rfl) fun a F => ?_
    refine nil ?_
    refine hK11 _ _ ?_
    replace F : Fr a 10 [(2, .int .i64 ob12.under.len)] := F.sub ⟨rfl, trivial⟩
    refine wp_ret ?_
    replace H := Option.some.inj H
    subst H
    refine out1 F rfl rfl ?_
    exact ⟨fun b_ => (fun x_ => if x_ < m then x_ else 0) (c0 b_), rfl, E.leave B0 (fun x_ => if x_ < m then x_ else 0) (by intro x_ hx_; show (if x_ < m then x_ else 0) = x_; ((repeat' split) <;> omega)), (fun b_ hb_ => by show (if (c0 b_) < m then (c0 b_) else 0) < m; ((repeat' split) <;> omega))⟩
end Go.Proofs.Ytdlokohmdnkdoaa.G
namespace Go.Proofs.Ytdlokohmdnkdoaa.G
open Go Go.RowKit
set_option linter.unusedVariables false
set_option linter.unusedSimpArgs false
set_option maxRecDepth 100000 in
set_option maxHeartbeats 4000000 in
theorem bag_Bag_put.calls {m : Nat} {c0 : Nat → Nat} {w0 : World} {j4 : Nat} {j5 : Nat} {p2 : Option Addr} {A7 : Option Addr} {C8 : Nat} {a1 : Option Bag} {a6 : api_Letter} (hm0 : 0 < m) (B0 : CB m c0 w0) (h3 : BG j4 j5 c0 w0 p2 a1) (h9 : SL false (Kint .u8) 0 0 c0 w0 A7 C8 a6.Data) (bj4 : 0 < j4 ∧ j4 < m) (bj5 : 0 < j5 ∧ j5 < m ∧ j5 ≠ j4) (r : Int × (Option Bag)) (H : bag_Bag_put.f a1 a6 = some r) : Calls Try.prog 31 #[.pointer p2, .agg #[.int .i64 a6.Number, .int .i64 a6.From, .int .i64 a6.To, .slice A7 a6.Data.length C8]] w0 (fun e w_ => ∃ (c_ : Nat → Nat), e = .returned (.int .i64 r.1) ∧ Ev (fun x => (x = j4 ∨ x = j5)) c0 w0 c_ w_ ∧ CB m c_ w_ ∧ BG j4 j5 c_ w_ p2 r.2) := by
  unfold bag_Bag_put.f at H
  have B := B0.mono (show m ≤ m + 2 by omega)
  have E : Ev (fun x => (x = j4 ∨ x = j5) ∨ m ≤ x) c0 w0 c0 w0 := Ev.refl
  refine enter (N := 27) (l := [.pointer p2, .agg #[.int .i64 a6.Number, .int .i64 a6.From, .int .i64 a6.To, .slice A7 a6.Data.length C8]]) Try.func31 rfl rfl (Nat.le_of_ble_eq_true rfl) fun a F => ?_
  refine wp_seq_k fun K10 hK10 => ?_
  refine reg ?_
  refine q_eff F rfl rfl (by decide) (e_box F (v := .agg #[.int .i64 a6.Number, .int .i64 a6.From, .int .i64 a6.To, .slice A7 a6.Data.length C8]) rfl c0 (m + 1)) ?_
  rintro v w12 a ⟨c11, qa13, rfl, E14, h15, B16⟩ F
  replace B := B16 _ B (Nat.add_lt_add_left (by decide) m)
  replace h3 := BG.ev h3 E14 (fun q => q.elim) (fun q => q.elim) (fun q => q.elim)
  replace h9 := SL.ev h9 E14 (fun q => q.elim) (fun q => q.elim)
  replace E := E.trans E14 (fun x q => q.elim)
  replace h15 : AT true (m + 1) c11 w12 qa13 [.int .i64 a6.Number, .int .i64 a6.From, .int .i64 a6.To, .slice A7 a6.Data.length C8] := h15
  refine q_val F rfl rfl (by decide) (r_assign F rfl) fun a F => ?_
  refine nil ?_
  refine hK10 _ _ ?_
  refine wp_seq_k fun K18 hK18 => ?_
  refine reg ?_
  refine q_val F rfl rfl (by decide) (r_move F rfl) fun a F => ?_
  replace H := bind_some H
  obtain ⟨ob19, e20, H⟩ := H
  have z21 := h3
  rw [e20] at z21
  obtain ⟨ad22, p24, rfl, hat23, h25⟩ := BG.some z21
  refine q_val F rfl rfl (by decide) (r_nil F rfl) fun a F => ?_
  refine q_val F rfl rfl (by decide) (r_fieldAddr F rfl ff_67_1) fun a F => ?_
  refine q_val F rfl rfl (by decide) (r_load F rfl ag_3 (AT.cell hat23 rfl)) fun a F => ?_
  refine q_val F rfl rfl (by decide) (r_fieldAddr F rfl ff_40_0) fun a F => ?_
  refine q_eff0 F rfl rfl (e_store F rfl rfl sz_3 h15 (Nat.le_of_ble_eq_true rfl) rfl) ?_
  rintro w27 a ⟨E28, h15, Z29⟩ F
  replace B := B.size Z29
  replace h3 := BG.ev h3 E28 (ne_pm bj4.2) (ne_pm bj5.2.1) ne_zm
  replace h9 := SL.ev h9 E28 ne_zm ne_zm
  replace h25 := ML.ev h25 E28 (ne_pm bj5.2.1) ne_zm
  replace hat23 := AT.ev hat23 E28 (ne_pm bj4.2)
  replace E := E.trans E28 (fun x (q : x = m + 1) => Or.inr (le_col q))
  replace h15 : AT true (m + 1) c11 w27 qa13 [.int .i64 ob19.next, .int .i64 a6.From, .int .i64 a6.To, .slice A7 a6.Data.length C8] := h15
  refine nil ?_
  refine hK18 _ _ ?_
  refine wp_seq_k fun K30 hK30 => ?_
  refine regD (SB No c11 w27) 8 (.q 0 (.q 1 (.q 2 (.q 3 (.q 4 (.q 5 (.q 6 (.e 7 (.e 8 .nil))))))))) Try_hm (by decide +kernel) ?_
  intro w31 w1_ w2_ w3_ w4_
  have E32 : Ev No c11 w27 c11 w31 := Ev.same w1_ w2_ w3_ w4_
  replace B := B.same w1_
  have zh3 := h3
  have zh9 := h9
  have zh15 := h15
  have zh25 := h25
  have zhat23 := hat23
  have ER : Ev No c11 w27 c11 w31 := Ev.same w1_ w2_ w3_ w4_
  replace h3 := BG.ev h3 E32 (fun q => q.elim) (fun q => q.elim) (fun q => q.elim)
  replace h9 := SL.ev h9 E32 (fun q => q.elim) (fun q => q.elim)
  replace h15 := AT.ev h15 E32 (fun q => q.elim)
  replace h25 := ML.ev h25 E32 (fun q => q.elim) (fun q => q.elim)
  replace hat23 := AT.ev hat23 E32 (fun q => q.elim)
  replace E := E.trans E32 (fun x q => q.elim)
  refine d_q F rfl rfl rfl (by decide) (fun wq hS => r_move F rfl) ER.sb fun a F => ?_
  refine d_q F rfl rfl rfl (by decide) (fun wq hS => r_nil F rfl) ER.sb fun a F => ?_
  refine d_q F rfl rfl rfl (by decide) (fun wq hS => r_fieldAddr F rfl ff_67_0) ER.sb fun a F => ?_
  refine d_q F rfl rfl rfl (by decide) (fun wq hS => r_load F rfl ag_65 (AT.cell (AT.sb zhat23 hS (fun q => q.elim)) rfl)) ER.sb fun a F => ?_
  refine d_q F rfl rfl rfl (by decide) (fun wq hS => r_fieldAddr F rfl ff_40_0) ER.sb fun a F => ?_
  refine d_q F rfl rfl rfl (by decide) (fun wq hS => r_load F rfl ag_3 (AT.cell (AT.sb zh15 hS (fun q => q.elim)) rfl)) ER.sb fun a F => ?_
  refine d_q F rfl rfl rfl (by decide) (fun wq hS => r_loads (cs := [.int .i64 ob19.next, .int .i64 a6.From, .int .i64 a6.To, .slice A7 a6.Data.length C8]) F rfl ag_40 sz_40 (AT.sb zh15 hS (fun q => q.elim))) ER.sb fun a F => ?_
  refine d_e ?_
  replace H := bind_some H
  obtain ⟨t33, q34, H⟩ := H
  refine o_call F rfl (wanted_none rfl) rfl (by decide) (r_call F Try.func32 rfl (by kernel_rfl) rfl) (bag_own.calls (m := m + 2) (a1 := api_Letter.mk ob19.next a6.From a6.To a6.Data) (Nat.add_pos_left hm0 _) B h9 _ q34) ?_
  rintro e w36 ⟨c35, A39, C40, rfl, E37, B38, h41⟩
  refine ⟨_, rfl, fun a F => ?_⟩
  have B := B38
  replace ER := ER.trans E37 (fun x q => q.elim)
  replace h3 := BG.ev h3 E37 (fun q => q.elim) (fun q => q.elim) (fun q => q.elim)
  replace h9 := SL.ev h9 E37 (fun q => q.elim) (fun q => q.elim)
  replace h15 := AT.ev h15 E37 (fun q => q.elim)
  replace h25 := ML.ev h25 E37 (fun q => q.elim) (fun q => q.elim)
  replace hat23 := AT.ev hat23 E37 (fun q => q.elim)
  replace E := E.trans E37 (fun x q => q.elim)
  refine ⟨fun _ => ER.sb, ?_⟩
  refine d_e ?_
  replace H := ifN H
  obtain ⟨g43, H⟩ := H
  refine o_eff0 F rfl rfl rfl (e_mapUpdateK (z := t33) (cs := [.int .i64 t33.Number, .int .i64 t33.From, .int .i64 t33.To, .slice A39 t33.Data.length C40]) F Try.underlying3 Try.underlying65 rfl rfl rfl h25 ⟨A39, C40, rfl, (SL.fl h41 (fun q => q))⟩ (ne_z bj5.1) g43.1 (n_ok g43.2)) ?_
  rintro w44 a ⟨E45, h46, Z47⟩ F
  replace B := B.size Z47
  replace h9 := SL.ev h9 E45 (ne_z bj5.1) (ne_z bj5.1)
  replace h15 := AT.ev h15 E45 (ne_mp bj5.2.1)
  replace hat23 := AT.ev hat23 E45 (Ne.symm bj5.2.2)
  replace h41 := SL.ev h41 E45 (ne_z bj5.1) (ne_z bj5.1)
  replace E := E.trans E45 (fun x (q : x = j5) => Or.inl (Or.inr (q)))
  replace h46 : ML j5 c35 w44 p24 (MkV.put ob19.under ob19.next t33) := h46
  refine ⟨fun q => absurd rfl q, ?_⟩
  refine d_nil ?_
  refine hK30 _ _ ?_
  replace F : Fr a 27 [(0, .pointer (some ad22)), (3, .pointer (some qa13))] := F.sub ⟨rfl, rfl, trivial⟩
  refine wp_seq_k fun K48 hK48 => ?_
  refine reg ?_
  refine q_val F rfl rfl (by decide) (r_move F rfl) fun a F => ?_
  refine q_val F rfl rfl (by decide) (r_nil F rfl) fun a F => ?_
  refine q_val F rfl rfl (by decide) (r_fieldAddr F rfl ff_67_1) fun a F => ?_
  refine q_val F rfl rfl (by decide) (r_load F rfl ag_3 (AT.cell hat23 rfl)) fun a F => ?_
  refine q_val F rfl rfl (by decide) (r_add F rfl rfl) fun a F => ?_
  refine q_val F rfl rfl (by decide) (r_nil F rfl) fun a F => ?_
  refine q_val F rfl rfl (by decide) (r_fieldAddr F rfl ff_67_1) fun a F => ?_
  refine q_eff0 F rfl rfl (e_store F rfl rfl sz_3 hat23 (Nat.le_of_ble_eq_true rfl) rfl) ?_
  rintro w49 a ⟨E50, hat23, Z51⟩ F
  replace B := B.size Z51
  replace h9 := SL.ev h9 E50 (ne_z bj4.1) (ne_z bj4.1)
  replace h15 := AT.ev h15 E50 (ne_mp bj4.2)
  replace h41 := SL.ev h41 E50 (ne_z bj4.1) (ne_z bj4.1)
  replace h46 := ML.ev h46 E50 bj5.2.2 (ne_z bj4.1)
  replace E := E.trans E50 (fun x (q : x = j4) => Or.inl (Or.inl q))
  replace hat23 : AT true j4 c35 w49 ad22 [.map (Option.map Addr.block p24), .int .i64 (IntKind.i64.wrap (ob19.next + 1)), .int .i64 ob19.told.Sent, .int .i64 ob19.told.Twice, .int .i64 ob19.told.Delivered, .int .i64 ob19.told.Dropped, .int .i64 ob19.told.Lost] := hat23
  refine nil ?_
  refine hK48 _ _ ?_
  replace F : Fr a 27 [(3, .pointer (some qa13))] := F.sub ⟨rfl, trivial⟩
  refine wp_seq_k fun K52 hK52 => ?_
  refine reg ?_
  refine q_val F rfl rfl (by decide) (r_fieldAddr F rfl ff_40_0) fun a F => ?_
  refine q_val F rfl rfl (by decide) (r_load F rfl ag_3 (AT.cell h15 rfl)) fun a F => ?_
  refine q_val F rfl rfl (by decide) (r_assign F rfl) fun a F => ?_
  refine nil ?_
  refine hK52 _ _ ?_
  refine wp_ret ?_
  have h53 : BG j4 j5 c35 w49 (some ad22) (some (Bag.mk (MkV.put ob19.under ob19.next t33) (IntKind.i64.wrap (ob19.next + 1)) ob19.told)) := BG.mk hat23 h46
  replace H := Option.some.inj H
  subst H
  refine out1 F rfl rfl ?_
  exact ⟨fun b_ => (fun x_ => if x_ < m then x_ else 0) (c35 b_), rfl, E.leave B0 (fun x_ => if x_ < m then x_ else 0) (by intro x_ hx_; show (if x_ < m then x_ else 0) = x_; ((repeat' split) <;> omega)), (fun b_ hb_ => by show (if (c35 b_) < m then (c35 b_) else 0) < m; ((repeat' split) <;> omega)), BG.rc h53 (fun k_ hk_ => by show (if (c35 k_) < m then (c35 k_) else 0) = _; rw [hk_]; ((repeat' split) <;> omega)) (fun k_ hk_ => by show (if (c35 k_) < m then (c35 k_) else 0) = _; rw [hk_]; ((repeat' split) <;> omega)) (fun k_ hk_ => by show (if (c35 k_) < m then (c35 k_) else 0) = _; rw [hk_]; ((repeat' split) <;> omega))⟩
end Go.Proofs.Ytdlokohmdnkdoaa.G
namespace Go.Proofs.Ytdlokohmdnkdoaa.G
open Go Go.RowKit
set_option linter.unusedVariables false
set_option linter.unusedSimpArgs false
set_option maxRecDepth 100000 in
set_option maxHeartbeats 4000000 in
theorem bag_Bag_room.calls {m : Nat} {c0 : Nat → Nat} {w0 : World} {j4 : Nat} {j5 : Nat} {p2 : Option Addr} {a1 : Option Bag} (hm0 : 0 < m) (B0 : CB m c0 w0) (h3 : BG j4 j5 c0 w0 p2 a1) (bj4 : 0 < j4 ∧ j4 < m) (bj5 : 0 < j5 ∧ j5 < m ∧ j5 ≠ j4) (r : Int × (Option Bag)) (H : bag_Bag_room.f a1 = some r) : Calls Try.prog 30 #[.pointer p2] w0 (fun e w_ => ∃ (c_ : Nat → Nat), e = .returned (.int .i64 r.1) ∧ Ev (fun x => (x = j4 ∨ x = j5)) c0 w0 c_ w_ ∧ CB m c_ w_ ∧ BG j4 j5 c_ w_ p2 r.2) := by
  unfold bag_Bag_room.f at H
  have B := B0.mono (show m ≤ m + 1 by omega)
  have E : Ev (fun x => (x = j4 ∨ x = j5) ∨ m ≤ x) c0 w0 c0 w0 := Ev.refl
  refine enter (N := 18) (l := [.pointer p2]) Try.func30 rfl rfl (Nat.le_of_ble_eq_true rfl) fun a F => ?_
  refine wp_seq_k fun K6 hK6 => ?_
  refine reg ?_
  refine q_val F rfl rfl (by decide) (r_assign F rfl) fun a F => ?_
  refine nil ?_
  refine hK6 _ _ ?_
  refine wp_seq_k fun K7 hK7 => ?_
  refine wp_seq_k fun K8 hK8 => ?_
  refine reg ?_
  refine q_val F rfl rfl (by decide) (r_move F rfl) fun a F => ?_
  replace H := bind_some H
  obtain ⟨ob9, e10, H⟩ := H
  have z11 := h3
  rw [e10] at z11
  obtain ⟨ad12, p14, rfl, hat13, h15⟩ := BG.some z11
  refine q_val F rfl rfl (by decide) (r_nil F rfl) fun a F => ?_
  refine q_val F rfl rfl (by decide) (r_fieldAddr F rfl ff_67_0) fun a F => ?_
  refine q_val F rfl rfl (by decide) (r_load F rfl ag_65 (AT.cell hat13 rfl)) fun a F => ?_
  refine q_val F rfl rfl (by decide) (r_lenmap F h15 Try.underlying65 rfl) fun a F => ?_
  refine q_val F rfl rfl (by decide) (r_geq F rfl rfl) fun a F => ?_
  refine nil ?_
  refine hK8 _ _ ?_
  by_cases hb17 : 65536 ≤ ob9.under.len
  · replace H := (if_pos hb17).symm.trans H
    refine wp_cond_true ((F.ev rfl).trans (congrArg Value.bool (decide_eq_true hb17))) ?_
    refine wp_seq_k fun K18 hK18 => ?_
    refine reg ?_
    refine q_val F rfl rfl (by decide) (r_move F rfl) fun a F => ?_
    refine q_val F rfl rfl (by decide) (r_nil F rfl) fun a F => ?_
    refine q_val F rfl rfl (by decide) (r_fieldAddr F rfl ff_67_2) fun a F => ?_
    refine q_val F rfl rfl (by decide) (r_fieldAddr2 F hat13 rfl ff_63_4) fun a F => ?_
    refine q_val F rfl rfl (by decide) (r_load F rfl ag_3 (AT.cell hat13 rfl)) fun a F => ?_
    refine q_val F rfl rfl (by decide) (r_add F rfl rfl) fun a F => ?_
    refine q_val F rfl rfl (by decide) (r_nil F rfl) fun a F => ?_
    refine q_val F rfl rfl (by decide) (r_fieldAddr F rfl ff_67_2) fun a F => ?_
    refine q_val F rfl rfl (by decide) (r_fieldAddr2 F hat13 rfl ff_63_4) fun a F => ?_
    refine q_eff0 F rfl rfl (e_store F rfl rfl sz_3 hat13 (Nat.le_of_ble_eq_true rfl) rfl) ?_
    rintro w19 a ⟨E20, hat13, Z21⟩ F
    replace B := B.size Z21
    replace h15 := ML.ev h15 E20 bj5.2.2 (ne_z bj4.1)
    replace E := E.trans E20 (fun x (q : x = j4) => Or.inl (Or.inl q))
    replace hat13 : AT true j4 c0 w19 ad12 [.map (Option.map Addr.block p14), .int .i64 ob9.next, .int .i64 ob9.told.Sent, .int .i64 ob9.told.Twice, .int .i64 ob9.told.Delivered, .int .i64 ob9.told.Dropped, .int .i64 (IntKind.i64.wrap (ob9.told.Lost + 1))] := hat13
    refine nil ?_
    refine hK18 _ _ ?_
    replace F : Fr a 18 [] := F.sub trivial
    refine wp_seq_k fun K22 hK22 => ?_
    refine reg ?_
    refine q_val F rfl rfl (by decide) (r_assign F rfl) fun a F => ?_
    refine nil ?_
    refine hK22 _ _ ?_
    refine wp_ret ?_
    refine thenR ?_
    have h23 : BG j4 j5 c0 w19 (some ad12) (some (Bag.mk ob9.under ob9.next (api_Traffic.mk ob9.told.Sent ob9.told.Twice ob9.told.Delivered ob9.told.Dropped (IntKind.i64.wrap (ob9.told.Lost + 1))))) := BG.mk hat13 h15
    replace H := Option.some.inj H
    subst H
    refine out1 F rfl rfl ?_
    exact ⟨fun b_ => (fun x_ => if x_ < m then x_ else 0) (c0 b_), rfl, E.leave B0 (fun x_ => if x_ < m then x_ else 0) (by intro x_ hx_; show (if x_ < m then x_ else 0) = x_; ((repeat' split) <;> omega)), (fun b_ hb_ => by show (if (c0 b_) < m then (c0 b_) else 0) < m; ((repeat' split) <;> omega)), BG.rc h23 (fun k_ hk_ => by show (if (c0 k_) < m then (c0 k_) else 0) = _; rw [hk_]; ((repeat' split) <;> omega)) (fun k_ hk_ => by show (if (c0 k_) < m then (c0 k_) else 0) = _; rw [hk_]; ((repeat' split) <;> omega)) (fun k_ hk_ => by show (if (c0 k_) < m then (c0 k_) else 0) = _; rw [hk_]; ((repeat' split) <;> omega))⟩
  · replace H := (if_neg hb17).symm.trans H
    refine wp_cond_false ((F.ev rfl).trans (congrArg Value.bool (decide_eq_false hb17))) ?_
    refine wp_skip ?_
    refine hK7 _ _ ?_
    replace F : Fr a 18 [] := F.sub trivial
    refine wp_seq_k fun K24 hK24 => ?_
    refine reg ?_
    refine q_val F rfl rfl (by decide) (r_assign F rfl) fun a F => ?_
    refine nil ?_
    refine hK24 _ _ ?_
    refine wp_ret ?_
    replace H := Option.some.inj H
    subst H
    refine out1 F rfl rfl ?_
    exact ⟨fun b_ => (fun x_ => if x_ < m then x_ else 0) (c0 b_), rfl, E.leave B0 (fun x_ => if x_ < m then x_ else 0) (by intro x_ hx_; show (if x_ < m then x_ else 0) = x_; ((repeat' split) <;> omega)), (fun b_ hb_ => by show (if (c0 b_) < m then (c0 b_) else 0) < m; ((repeat' split) <;> omega)), BG.rc h3 (fun k_ hk_ => by show (if (c0 k_) < m then (c0 k_) else 0) = _; rw [hk_]; ((repeat' split) <;> omega)) (fun k_ hk_ => by show (if (c0 k_) < m then (c0 k_) else 0) = _; rw [hk_]; ((repeat' split) <;> omega)) (fun k_ hk_ => by show (if (c0 k_) < m then (c0 k_) else 0) = _; rw [hk_]; ((repeat' split) <;> omega))⟩
end Go.Proofs.Ytdlokohmdnkdoaa.G
namespace Go.Proofs.Ytdlokohmdnkdoaa.G
open Go Go.RowKit
set_option linter.unusedVariables false
set_option linter.unusedSimpArgs false
set_option maxRecDepth 100000 in
set_option maxHeartbeats 4000000 in
theorem bag_Bag_Send.calls {m : Nat} {c0 : Nat → Nat} {w0 : World} {j4 : Nat} {j5 : Nat} {p2 : Option Addr} {A9 : Option Addr} {C10 : Nat} {a1 : Option Bag} {a6 : Int} {a7 : Int} {a8 : List Int} (hm0 : 0 < m) (B0 : CB m c0 w0) (h3 : BG j4 j5 c0 w0 p2 a1) (h11 : SL false (Kint .u8) 0 0 c0 w0 A9 C10 a8) (bj4 : 0 < j4 ∧ j4 < m) (bj5 : 0 < j5 ∧ j5 < m ∧ j5 ≠ j4) (r : Int × Int × (Option Bag)) (H : bag_Bag_Send.f a1 a6 a7 a8 = some r) : Calls Try.prog 12 #[.pointer p2, .int .i64 a6, .int .i64 a7, .slice A9 a8.length C10] w0 (fun e w_ => ∃ (c_ : Nat → Nat), e = .returned (.tuple #[.int .i64 r.1, .int .i64 r.2.1]) ∧ Ev (fun x => (x = j4 ∨ x = j5)) c0 w0 c_ w_ ∧ CB m c_ w_ ∧ BG j4 j5 c_ w_ p2 r.2.2) := by
  unfold bag_Bag_Send.f at H
  have B := B0.mono (show m ≤ m + 1 by omega)
  have E : Ev (fun x => (x = j4 ∨ x = j5) ∨ m ≤ x) c0 w0 c0 w0 := Ev.refl
  refine enter (N := 45) (l := [.pointer p2, .int .i64 a6, .int .i64 a7, .slice A9 a8.length C10]) Try.func12 rfl rfl (Nat.le_of_ble_eq_true rfl) fun a F => ?_
  refine wp_seq_k fun K12 hK12 => ?_
  refine reg ?_
  refine q_val F rfl rfl (by decide) (r_assign F rfl) fun a F => ?_
  refine q_val F rfl rfl (by decide) (r_assign F rfl) fun a F => ?_
  refine nil ?_
  refine hK12 _ _ ?_
  refine wp_seq_k fun K13 hK13 => ?_
  refine wp_block ?_
  refine wp_seq_k fun K14 hK14 => ?_
  refine reg ?_
  refine q_val F rfl rfl (by decide) (r_move F rfl) fun a F => ?_
  refine q_val F rfl rfl (by decide) (r_peqlA F Try.underlying24 rfl rfl (BG.isNone h3)) fun a F => ?_
  refine q_val F rfl rfl (by decide) (r_assign F rfl) fun a F => ?_
  refine nil ?_
  refine hK14 _ _ ?_
  by_cases hb15 : (Option.isNone a1) = true
  · replace H := (if_pos hb15).symm.trans H
    refine wp_cond_true ((F.ev rfl).trans (congrArg Value.bool hb15)) ?_
    refine wp_seq_k fun K16 hK16 => ?_
    refine reg ?_
    refine q_val F rfl rfl (by decide) (r_assign F rfl) fun a F => ?_
    refine q_val F rfl rfl (by decide) (r_assign F rfl) fun a F => ?_
    refine nil ?_
    refine hK16 _ _ ?_
    refine wp_ret ?_
    refine inbR ?_
    refine thenR ?_
    replace H := Option.some.inj H
    subst H
    refine out2 F rfl rfl rfl ?_
    exact ⟨fun b_ => (fun x_ => if x_ < m then x_ else 0) (c0 b_), rfl, E.leave B0 (fun x_ => if x_ < m then x_ else 0) (by intro x_ hx_; show (if x_ < m then x_ else 0) = x_; ((repeat' split) <;> omega)), (fun b_ hb_ => by show (if (c0 b_) < m then (c0 b_) else 0) < m; ((repeat' split) <;> omega)), BG.rc h3 (fun k_ hk_ => by show (if (c0 k_) < m then (c0 k_) else 0) = _; rw [hk_]; ((repeat' split) <;> omega)) (fun k_ hk_ => by show (if (c0 k_) < m then (c0 k_) else 0) = _; rw [hk_]; ((repeat' split) <;> omega)) (fun k_ hk_ => by show (if (c0 k_) < m then (c0 k_) else 0) = _; rw [hk_]; ((repeat' split) <;> omega))⟩
  · replace H := (if_neg hb15).symm.trans H
    refine wp_cond_false ((F.ev rfl).trans (congrArg Value.bool (bfalse hb15))) ?_
    refine wp_seq_k fun K17 hK17 => ?_
    have J20 : ∀ (c21 : Nat → Nat) (w22 : World) (a : Act) (b19 : Bool), Fr a 45 [(0, .pointer p2), (1, .int .i64 a6), (2, .int .i64 a7), (3, .slice A9 a8.length C10), (14, .bool b19)] → Ev (fun x => (x = j4 ∨ x = j5) ∨ m ≤ x) c0 w0 c21 w22 → CB (m + 1) c21 w22 → BG j4 j5 c21 w22 p2 a1 → SL false (Kint .u8) 0 0 c21 w22 A9 C10 a8 → bag_Bag_Send.j1 a1 a6 a7 a8 b19 = some r → K17 a w22 := by
      intro c21 w22 a b19 F E B h3 h11 H
      unfold bag_Bag_Send.j1 at H
      refine hK17 _ _ ?_
      by_cases hb23 : b19 = true
      · replace H := (if_pos hb23).symm.trans H
        refine wp_cond_true ((F.ev rfl).trans (congrArg Value.bool hb23)) ?_
        refine wp_seq_k fun K24 hK24 => ?_
        refine reg ?_
        refine q_val F rfl rfl (by decide) (r_assign F rfl) fun a F => ?_
        refine q_val F rfl rfl (by decide) (r_assign F rfl) fun a F => ?_
        refine nil ?_
        refine hK24 _ _ ?_
        refine wp_ret ?_
        refine inbR ?_
        refine thenR ?_
        replace H := Option.some.inj H
        subst H
        refine out2 F rfl rfl rfl ?_
        exact ⟨fun b_ => (fun x_ => if x_ < m then x_ else 0) (c21 b_), rfl, E.leave B0 (fun x_ => if x_ < m then x_ else 0) (by intro x_ hx_; show (if x_ < m then x_ else 0) = x_; ((repeat' split) <;> omega)), (fun b_ hb_ => by show (if (c21 b_) < m then (c21 b_) else 0) < m; ((repeat' split) <;> omega)), BG.rc h3 (fun k_ hk_ => by show (if (c21 k_) < m then (c21 k_) else 0) = _; rw [hk_]; ((repeat' split) <;> omega)) (fun k_ hk_ => by show (if (c21 k_) < m then (c21 k_) else 0) = _; rw [hk_]; ((repeat' split) <;> omega)) (fun k_ hk_ => by show (if (c21 k_) < m then (c21 k_) else 0) = _; rw [hk_]; ((repeat' split) <;> omega))⟩
      · replace H := (if_neg hb23).symm.trans H
        refine wp_cond_false ((F.ev rfl).trans (congrArg Value.bool (bfalse hb23))) ?_
        refine wp_seq_k fun K25 hK25 => ?_
        refine reg ?_
        refine q_val F rfl rfl (by decide) (r_move F rfl) fun a F => ?_
        refine q_val F rfl rfl (by decide) (r_lensl F Try.underlying27 rfl) fun a F => ?_
        refine q_val F rfl rfl (by decide) (r_gtr F rfl rfl) fun a F => ?_
        refine q_val F rfl rfl (by decide) (r_assign F rfl) fun a F => ?_
        refine nil ?_
        refine hK25 _ _ ?_
        by_cases hb26 : 524288 < (a8.length : Int)
        · replace H := (if_pos hb26).symm.trans H
          refine wp_cond_true ((F.ev rfl).trans (congrArg Value.bool (decide_eq_true hb26))) ?_
          refine wp_seq_k fun K27 hK27 => ?_
          refine reg ?_
          refine q_val F rfl rfl (by decide) (r_assign F rfl) fun a F => ?_
          refine q_val F rfl rfl (by decide) (r_assign F rfl) fun a F => ?_
          refine nil ?_
          refine hK27 _ _ ?_
          replace F : Fr a 45 [(8, .int .i64 0), (9, .int .i64 3)] := F.sub ⟨rfl, rfl, trivial⟩
          refine wp_ret ?_
          refine inbR ?_
          refine thenR ?_
          replace H := Option.some.inj H
          subst H
          refine out2 F rfl rfl rfl ?_
          exact ⟨fun b_ => (fun x_ => if x_ < m then x_ else 0) (c21 b_), rfl, E.leave B0 (fun x_ => if x_ < m then x_ else 0) (by intro x_ hx_; show (if x_ < m then x_ else 0) = x_; ((repeat' split) <;> omega)), (fun b_ hb_ => by show (if (c21 b_) < m then (c21 b_) else 0) < m; ((repeat' split) <;> omega)), BG.rc h3 (fun k_ hk_ => by show (if (c21 k_) < m then (c21 k_) else 0) = _; rw [hk_]; ((repeat' split) <;> omega)) (fun k_ hk_ => by show (if (c21 k_) < m then (c21 k_) else 0) = _; rw [hk_]; ((repeat' split) <;> omega)) (fun k_ hk_ => by show (if (c21 k_) < m then (c21 k_) else 0) = _; rw [hk_]; ((repeat' split) <;> omega))⟩
        · replace H := (if_neg hb26).symm.trans H
          refine wp_cond_false ((F.ev rfl).trans (congrArg Value.bool (decide_eq_false hb26))) ?_
          refine wp_skip ?_
          refine hK13 _ _ ?_
          refine wp_seq_k fun K28 hK28 => ?_
          refine wp_seq_k fun K29 hK29 => ?_
          refine reg ?_
          refine q_val F rfl rfl (by decide) (r_move F rfl) fun a F => ?_
          replace H := bind_some H
          obtain ⟨t30, q31, H⟩ := H
          refine q_call F rfl rfl (by decide) (r_call F Try.func30 rfl (by kernel_rfl) rfl) (bag_Bag_room.calls (m := m + 1) (Nat.add_pos_left hm0 _) B h3 ⟨bj4.1, (Nat.lt_add_right _ bj4.2)⟩ ⟨bj5.1, (Nat.lt_add_right _ bj5.2.1), bj5.2.2⟩ _ q31) ?_
          rintro e w33 ⟨c32, rfl, E34, B35, h36⟩
          refine ⟨_, rfl, fun a F => ?_⟩
          have B := B35
          replace h11 := SL.ev h11 E34 (nor (ne_z bj4.1) (ne_z bj5.1)) (nor (ne_z bj4.1) (ne_z bj5.1))
          replace E := E.trans E34 (fun x (q : x = j4 ∨ x = j5) => q.elim (fun q => Or.inl (Or.inl q)) (fun q => Or.inl (Or.inr (q))))
          refine q_val F rfl rfl (by decide) (r_assign F rfl) fun a F => ?_
          refine nil ?_
          refine hK29 _ _ ?_
          refine wp_seq_k fun K38 hK38 => ?_
          refine reg ?_
          refine q_val F rfl rfl (by decide) (r_move F rfl) fun a F => ?_
          refine q_val F rfl rfl (by decide) (r_neq F rfl rfl) fun a F => ?_
          refine nil ?_
          refine hK38 _ _ ?_
          replace F : Fr a 45 [(0, .pointer p2), (1, .int .i64 a6), (2, .int .i64 a7), (3, .slice A9 a8.length C10), (10, .int .i64 t30.1), (28, .bool (!decide (t30.1 = 0)))] := F.sub ⟨rfl, rfl, rfl, rfl, rfl, rfl, trivial⟩
          by_cases hb39 : t30.1 = 0
          · replace H := (if_pos hb39).symm.trans H
            refine wp_cond_false ((F.ev rfl).trans (congrArg Value.bool (congrArg not (decide_eq_true hb39)))) ?_
            refine wp_skip ?_
            refine hK28 _ _ ?_
            refine wp_seq_k fun K41 hK41 => ?_
            refine reg ?_
            refine q_val F rfl rfl (by decide) (r_move F rfl) fun a F => ?_
            replace H := bind_some H
            obtain ⟨ob42, e43, H⟩ := H
            have z44 := h36
            rw [e43] at z44
            obtain ⟨ad45, p47, rfl, hat46, h48⟩ := BG.some z44
            refine q_val F rfl rfl (by decide) (r_nil F rfl) fun a F => ?_
            refine q_val F rfl rfl (by decide) (r_fieldAddr F rfl ff_67_2) fun a F => ?_
            refine q_val F rfl rfl (by decide) (r_fieldAddr2 F hat46 rfl ff_63_0) fun a F => ?_
            refine q_val F rfl rfl (by decide) (r_load F rfl ag_3 (AT.cell hat46 rfl)) fun a F => ?_
            refine q_val F rfl rfl (by decide) (r_add F rfl rfl) fun a F => ?_
            refine q_val F rfl rfl (by decide) (r_nil F rfl) fun a F => ?_
            refine q_val F rfl rfl (by decide) (r_fieldAddr F rfl ff_67_2) fun a F => ?_
            refine q_val F rfl rfl (by decide) (r_fieldAddr2 F hat46 rfl ff_63_0) fun a F => ?_
            refine q_eff0 F rfl rfl (e_store F rfl rfl sz_3 hat46 (Nat.le_of_ble_eq_true rfl) rfl) ?_
            rintro w50 a ⟨E51, hat46, Z52⟩ F
            replace B := B.size Z52
            replace h11 := SL.ev h11 E51 (ne_z bj4.1) (ne_z bj4.1)
            replace h48 := ML.ev h48 E51 bj5.2.2 (ne_z bj4.1)
            replace E := E.trans E51 (fun x (q : x = j4) => Or.inl (Or.inl q))
            replace hat46 : AT true j4 c32 w50 ad45 [.map (Option.map Addr.block p47), .int .i64 ob42.next, .int .i64 (IntKind.i64.wrap (ob42.told.Sent + 1)), .int .i64 ob42.told.Twice, .int .i64 ob42.told.Delivered, .int .i64 ob42.told.Dropped, .int .i64 ob42.told.Lost] := hat46
            refine nil ?_
            refine hK41 _ _ ?_
            replace F : Fr a 45 [(0, .pointer (some ad45)), (1, .int .i64 a6), (2, .int .i64 a7), (3, .slice A9 a8.length C10)] := F.sub ⟨rfl, rfl, rfl, rfl, trivial⟩
            refine wp_seq_k fun K53 hK53 => ?_
            refine reg ?_
            refine q_val F rfl rfl (by decide) (r_move F rfl) fun a F => ?_
            refine q_val F rfl rfl (by decide) (r_move F rfl) fun a F => ?_
            refine q_val F rfl rfl (by decide) (r_move F rfl) fun a F => ?_
            refine q_val F rfl rfl (by decide) (r_move F rfl) fun a F => ?_
            refine q_val F rfl rfl (by decide) (r_build (v := .agg #[.int .i64 0, .int .i64 a6, .int .i64 a7, .slice A9 a8.length C10]) F [(1, .int .i64 a6), (2, .int .i64 a7), (3, .slice A9 a8.length C10)] (by exact ⟨rfl, rfl, rfl, rfl, rfl, rfl, trivial⟩) (fun w => by kernel_rfl)) fun a F => ?_
            have h54 : BG j4 j5 c32 w50 (some ad45) (some (Bag.mk ob42.under ob42.next (api_Traffic.mk (IntKind.i64.wrap (ob42.told.Sent + 1)) ob42.told.Twice ob42.told.Delivered ob42.told.Dropped ob42.told.Lost))) := BG.mk hat46 h48
            replace H := bind_some H
            obtain ⟨t55, q56, H⟩ := H
            refine q_call F rfl rfl (by decide) (r_call F Try.func31 rfl (by kernel_rfl) rfl) (bag_Bag_put.calls (m := m + 1) (a6 := api_Letter.mk 0 a6 a7 a8) (Nat.add_pos_left hm0 _) B h54 h11 ⟨bj4.1, (Nat.lt_add_right _ bj4.2)⟩ ⟨bj5.1, (Nat.lt_add_right _ bj5.2.1), bj5.2.2⟩ _ q56) ?_
            rintro e w58 ⟨c57, rfl, E59, B60, h61⟩
            refine ⟨_, rfl, fun a F => ?_⟩
            have B := B60
            replace h11 := SL.ev h11 E59 (nor (ne_z bj4.1) (ne_z bj5.1)) (nor (ne_z bj4.1) (ne_z bj5.1))
            replace E := E.trans E59 (fun x (q : x = j4 ∨ x = j5) => q.elim (fun q => Or.inl (Or.inl q)) (fun q => Or.inl (Or.inr (q))))
            refine q_val F rfl rfl (by decide) (r_assign F rfl) fun a F => ?_
            refine q_val F rfl rfl (by decide) (r_assign F rfl) fun a F => ?_
            refine nil ?_
            refine hK53 _ _ ?_
            replace F : Fr a 45 [(8, .int .i64 t55.1), (9, .int .i64 0)] := F.sub ⟨rfl, rfl, trivial⟩
            refine wp_ret ?_
            replace H := Option.some.inj H
            subst H
            refine out2 F rfl rfl rfl ?_
            exact ⟨fun b_ => (fun x_ => if x_ < m then x_ else 0) (c57 b_), rfl, E.leave B0 (fun x_ => if x_ < m then x_ else 0) (by intro x_ hx_; show (if x_ < m then x_ else 0) = x_; ((repeat' split) <;> omega)), (fun b_ hb_ => by show (if (c57 b_) < m then (c57 b_) else 0) < m; ((repeat' split) <;> omega)), BG.rc h61 (fun k_ hk_ => by show (if (c57 k_) < m then (c57 k_) else 0) = _; rw [hk_]; ((repeat' split) <;> omega)) (fun k_ hk_ => by show (if (c57 k_) < m then (c57 k_) else 0) = _; rw [hk_]; ((repeat' split) <;> omega)) (fun k_ hk_ => by show (if (c57 k_) < m then (c57 k_) else 0) = _; rw [hk_]; ((repeat' split) <;> omega))⟩
          · replace H := (if_neg hb39).symm.trans H
            refine wp_cond_true ((F.ev rfl).trans (congrArg Value.bool (congrArg not (decide_eq_false hb39)))) ?_
            refine wp_seq_k fun K40 hK40 => ?_
            refine reg ?_
            refine q_val F rfl rfl (by decide) (r_move F rfl) fun a F => ?_
            refine q_val F rfl rfl (by decide) (r_assign F rfl) fun a F => ?_
            refine q_val F rfl rfl (by decide) (r_assign F rfl) fun a F => ?_
            refine nil ?_
            refine hK40 _ _ ?_
            refine wp_ret ?_
            refine thenR ?_
            replace H := Option.some.inj H
            subst H
            refine out2 F rfl rfl rfl ?_
            exact ⟨fun b_ => (fun x_ => if x_ < m then x_ else 0) (c32 b_), rfl, E.leave B0 (fun x_ => if x_ < m then x_ else 0) (by intro x_ hx_; show (if x_ < m then x_ else 0) = x_; ((repeat' split) <;> omega)), (fun b_ hb_ => by show (if (c32 b_) < m then (c32 b_) else 0) < m; ((repeat' split) <;> omega)), BG.rc h36 (fun k_ hk_ => by show (if (c32 k_) < m then (c32 k_) else 0) = _; rw [hk_]; ((repeat' split) <;> omega)) (fun k_ hk_ => by show (if (c32 k_) < m then (c32 k_) else 0) = _; rw [hk_]; ((repeat' split) <;> omega)) (fun k_ hk_ => by show (if (c32 k_) < m then (c32 k_) else 0) = _; rw [hk_]; ((repeat' split) <;> omega))⟩
    refine reg ?_
    refine q_val F rfl rfl (by decide) (r_move F rfl) fun a F => ?_
    refine q_val F rfl rfl (by decide) (r_lss F rfl rfl) fun a F => ?_
    refine q_val F rfl rfl (by decide) (r_move F rfl) fun a F => ?_
    by_cases hb18 : a6 < 0
    · replace H := (if_pos hb18).symm.trans H
      refine q_no F rfl (by decide) rfl (decide_eq_true hb18) (by decide) fun a F => ?_
      refine q_no F rfl (by decide) rfl (decide_eq_true hb18) (by decide) fun a F => ?_
      refine q_val F rfl rfl (by decide) (r_pick_t F rfl (decide_eq_true hb18) rfl) fun a F => ?_
      refine q_val F rfl rfl (by decide) (r_assign F rfl) fun a F => ?_
      refine nil ?_
      exact J20 c0 w0 a true (F.sub ⟨rfl, rfl, rfl, rfl, rfl, trivial⟩) E B h3 h11 H
    · replace H := (if_neg hb18).symm.trans H
      refine q_yes F rfl (by decide) rfl (decide_eq_false hb18) ?_
      refine q_val F rfl rfl (by decide) (r_move F rfl) fun a F => ?_
      refine q_yes F rfl (by decide) rfl (decide_eq_false hb18) ?_
      refine q_val F rfl rfl (by decide) (r_lss F rfl rfl) fun a F => ?_
      refine q_val F rfl rfl (by decide) (r_pick_f F rfl (decide_eq_false hb18) rfl) fun a F => ?_
      refine q_val F rfl rfl (by decide) (r_assign F rfl) fun a F => ?_
      refine nil ?_
      exact J20 c0 w0 a (decide (a7 < 0)) (F.sub ⟨rfl, rfl, rfl, rfl, rfl, trivial⟩) E B h3 h11 H
end Go.Proofs.Ytdlokohmdnkdoaa.G
namespace Go.Proofs.Ytdlokohmdnkdoaa.G
open Go Go.RowKit
set_option linter.unusedVariables false
set_option linter.unusedSimpArgs false
set_option maxRecDepth 100000 in
set_option maxHeartbeats 4000000 in
theorem bag_Bag_Twice.calls {m : Nat} {c0 : Nat → Nat} {w0 : World} {j4 : Nat} {j5 : Nat} {p2 : Option Addr} {a1 : Option Bag} {a6 : Int} (hm0 : 0 < m) (B0 : CB m c0 w0) (h3 : BG j4 j5 c0 w0 p2 a1) (bj4 : 0 < j4 ∧ j4 < m) (bj5 : 0 < j5 ∧ j5 < m ∧ j5 ≠ j4) (r : Int × Int × (Option Bag)) (H : bag_Bag_Twice.f a1 a6 = some r) : Calls Try.prog 17 #[.pointer p2, .int .i64 a6] w0 (fun e w_ => ∃ (c_ : Nat → Nat), e = .returned (.tuple #[.int .i64 r.1, .int .i64 r.2.1]) ∧ Ev (fun x => (x = j4 ∨ x = j5)) c0 w0 c_ w_ ∧ CB m c_ w_ ∧ BG j4 j5 c_ w_ p2 r.2.2) := by
  unfold bag_Bag_Twice.f at H
  have B := B0.mono (show m ≤ m + 2 by omega)
  have E : Ev (fun x => (x = j4 ∨ x = j5) ∨ m ≤ x) c0 w0 c0 w0 := Ev.refl
  refine enter (N := 35) (l := [.pointer p2, .int .i64 a6]) Try.func17 rfl rfl (Nat.le_of_ble_eq_true rfl) fun a F => ?_
  refine wp_seq_k fun K7 hK7 => ?_
  refine reg ?_
  refine q_val F rfl rfl (by decide) (r_assign F rfl) fun a F => ?_
  refine q_val F rfl rfl (by decide) (r_assign F rfl) fun a F => ?_
  refine nil ?_
  refine hK7 _ _ ?_
  refine wp_seq_k fun K8 hK8 => ?_
  refine reg ?_
  refine q_val F rfl rfl (by decide) (r_move F rfl) fun a F => ?_
  refine q_val F rfl rfl (by decide) (r_move F rfl) fun a F => ?_
  replace H := bind_some H
  obtain ⟨t9, q10, H⟩ := H
  refine q_call F rfl rfl (by decide) (r_call F Try.func36 rfl (by kernel_rfl) rfl) (bag_Bag_find.calls (m := m + 2) (Nat.add_pos_left hm0 _) B h3 (Nat.lt_add_right _ bj4.2) ⟨(Nat.lt_add_right _ bj5.2.1), bj5.2.2⟩ _ q10) ?_
  rintro e w12 ⟨c11, A15, C16, rfl, E13, B14, h17⟩
  refine ⟨_, rfl, fun a F => ?_⟩
  have B := B14
  replace h3 := BG.ev h3 E13 (fun q => q.elim) (fun q => q.elim) (fun q => q.elim)
  replace E := E.trans E13 (fun x q => q.elim)
  refine q_val F rfl rfl (by decide) (r_move F rfl) fun a F => ?_
  refine q_val F rfl rfl (by decide) (r_extract F rfl rfl) fun a F => ?_
  refine q_val F rfl rfl (by decide) (r_extract F rfl rfl) fun a F => ?_
  refine q_eff F rfl rfl (by decide) (e_alloc F zv_40 c11 (m + 1)) ?_
  rintro v w20 a ⟨c19, qa21, rfl, E22, h23, B24⟩ F
  replace B := B24 _ B (Nat.add_lt_add_left (by decide) m)
  replace h3 := BG.ev h3 E22 (fun q => q.elim) (fun q => q.elim) (fun q => q.elim)
  replace h17 := SL.ev h17 E22 (fun q => q.elim) (fun q => q.elim)
  replace E := E.trans E22 (fun x q => q.elim)
  replace h23 : AT true (m + 1) c19 w20 qa21 [.int .i64 0, .int .i64 0, .int .i64 0, .slice none 0 0] := h23
  refine q_eff0 F rfl rfl (e_storeN0 (us := [.int .i64 t9.1.Number, .int .i64 t9.1.From, .int .i64 t9.1.To, .slice A15 t9.1.Data.length C16]) F rfl rfl sz_40 h23 (Nat.le_of_ble_eq_true rfl) (one_all rfl)) ?_
  rintro w26 a ⟨E27, h23, Z28⟩ F
  replace B := B.size Z28
  replace h3 := BG.ev h3 E27 (ne_pm bj4.2) (ne_pm bj5.2.1) ne_zm
  replace h17 := SL.ev h17 E27 ne_zm ne_zm
  replace E := E.trans E27 (fun x (q : x = m + 1) => Or.inr (le_col q))
  replace h23 : AT true (m + 1) c19 w26 qa21 [.int .i64 t9.1.Number, .int .i64 t9.1.From, .int .i64 t9.1.To, .slice A15 t9.1.Data.length C16] := h23
  refine q_val F rfl rfl (by decide) (r_assign F rfl) fun a F => ?_
  refine nil ?_
  refine hK8 _ _ ?_
  replace F : Fr a 35 [(0, .pointer p2), (6, .pointer (some qa21)), (7, .int .i64 t9.2)] := F.sub ⟨rfl, rfl, rfl, trivial⟩
  refine wp_seq_k fun K29 hK29 => ?_
  refine wp_seq_k fun K30 hK30 => ?_
  refine reg ?_
  refine q_val F rfl rfl (by decide) (r_move F rfl) fun a F => ?_
  refine q_val F rfl rfl (by decide) (r_neq F rfl rfl) fun a F => ?_
  refine nil ?_
  refine hK30 _ _ ?_
  by_cases hb31 : t9.2 = 0
  · replace H := (if_pos hb31).symm.trans H
    refine wp_cond_false ((F.ev rfl).trans (congrArg Value.bool (congrArg not (decide_eq_true hb31)))) ?_
    refine wp_skip ?_
    refine hK29 _ _ ?_
    refine wp_seq_k fun K33 hK33 => ?_
    refine wp_seq_k fun K34 hK34 => ?_
    refine reg ?_
    refine q_val F rfl rfl (by decide) (r_move F rfl) fun a F => ?_
    replace H := bind_some H
    obtain ⟨t35, q36, H⟩ := H
    refine q_call F rfl rfl (by decide) (r_call F Try.func30 rfl (by kernel_rfl) rfl) (bag_Bag_room.calls (m := m + 2) (Nat.add_pos_left hm0 _) B h3 ⟨bj4.1, (Nat.lt_add_right _ bj4.2)⟩ ⟨bj5.1, (Nat.lt_add_right _ bj5.2.1), bj5.2.2⟩ _ q36) ?_
    rintro e w38 ⟨c37, rfl, E39, B40, h41⟩
    refine ⟨_, rfl, fun a F => ?_⟩
    have B := B40
    replace h17 := SL.ev h17 E39 (nor (ne_z bj4.1) (ne_z bj5.1)) (nor (ne_z bj4.1) (ne_z bj5.1))
    replace h23 := AT.ev h23 E39 (nor (ne_mp bj4.2) (ne_mp bj5.2.1))
    replace E := E.trans E39 (fun x (q : x = j4 ∨ x = j5) => q.elim (fun q => Or.inl (Or.inl q)) (fun q => Or.inl (Or.inr (q))))
    refine q_val F rfl rfl (by decide) (r_assign F rfl) fun a F => ?_
    refine nil ?_
    refine hK34 _ _ ?_
    refine wp_seq_k fun K43 hK43 => ?_
    refine reg ?_
    refine q_val F rfl rfl (by decide) (r_move F rfl) fun a F => ?_
    refine q_val F rfl rfl (by decide) (r_neq F rfl rfl) fun a F => ?_
    refine nil ?_
    refine hK43 _ _ ?_
    by_cases hb44 : t35.1 = 0
    · replace H := (if_pos hb44).symm.trans H
      refine wp_cond_false ((F.ev rfl).trans (congrArg Value.bool (congrArg not (decide_eq_true hb44)))) ?_
      refine wp_skip ?_
      refine hK33 _ _ ?_
      replace F : Fr a 35 [(0, .pointer p2), (6, .pointer (some qa21))] := F.sub ⟨rfl, rfl, trivial⟩
      refine wp_seq_k fun K46 hK46 => ?_
      refine reg ?_
      refine q_val F rfl rfl (by decide) (r_move F rfl) fun a F => ?_
      replace H := bind_some H
      obtain ⟨ob47, e48, H⟩ := H
      have z49 := h41
      rw [e48] at z49
      obtain ⟨ad50, p52, rfl, hat51, h53⟩ := BG.some z49
      refine q_val F rfl rfl (by decide) (r_nil F rfl) fun a F => ?_
      refine q_val F rfl rfl (by decide) (r_fieldAddr F rfl ff_67_2) fun a F => ?_
      refine q_val F rfl rfl (by decide) (r_fieldAddr2 F hat51 rfl ff_63_1) fun a F => ?_
      refine q_val F rfl rfl (by decide) (r_load F rfl ag_3 (AT.cell hat51 rfl)) fun a F => ?_
      refine q_val F rfl rfl (by decide) (r_add F rfl rfl) fun a F => ?_
      refine q_val F rfl rfl (by decide) (r_nil F rfl) fun a F => ?_
      refine q_val F rfl rfl (by decide) (r_fieldAddr F rfl ff_67_2) fun a F => ?_
      refine q_val F rfl rfl (by decide) (r_fieldAddr2 F hat51 rfl ff_63_1) fun a F => ?_
      refine q_eff0 F rfl rfl (e_store F rfl rfl sz_3 hat51 (Nat.le_of_ble_eq_true rfl) rfl) ?_
      rintro w55 a ⟨E56, hat51, Z57⟩ F
      replace B := B.size Z57
      replace h17 := SL.ev h17 E56 (ne_z bj4.1) (ne_z bj4.1)
      replace h23 := AT.ev h23 E56 (ne_mp bj4.2)
      replace h53 := ML.ev h53 E56 bj5.2.2 (ne_z bj4.1)
      replace E := E.trans E56 (fun x (q : x = j4) => Or.inl (Or.inl q))
      replace hat51 : AT true j4 c37 w55 ad50 [.map (Option.map Addr.block p52), .int .i64 ob47.next, .int .i64 ob47.told.Sent, .int .i64 (IntKind.i64.wrap (ob47.told.Twice + 1)), .int .i64 ob47.told.Delivered, .int .i64 ob47.told.Dropped, .int .i64 ob47.told.Lost] := hat51
      refine nil ?_
      refine hK46 _ _ ?_
      replace F : Fr a 35 [(0, .pointer (some ad50)), (6, .pointer (some qa21))] := F.sub ⟨rfl, rfl, trivial⟩
      refine wp_seq_k fun K58 hK58 => ?_
      refine reg ?_
      refine q_val F rfl rfl (by decide) (r_move F rfl) fun a F => ?_
      refine q_val F rfl rfl (by decide) (r_loads (cs := [.int .i64 t9.1.Number, .int .i64 t9.1.From, .int .i64 t9.1.To, .slice A15 t9.1.Data.length C16]) F rfl ag_40 sz_40 h23) fun a F => ?_
      have h59 : BG j4 j5 c37 w55 (some ad50) (some (Bag.mk ob47.under ob47.next (api_Traffic.mk ob47.told.Sent (IntKind.i64.wrap (ob47.told.Twice + 1)) ob47.told.Delivered ob47.told.Dropped ob47.told.Lost))) := BG.mk hat51 h53
      replace H := bind_some H
      obtain ⟨t60, q61, H⟩ := H
      refine q_call F rfl rfl (by decide) (r_call F Try.func31 rfl (by kernel_rfl) rfl) (bag_Bag_put.calls (m := m + 2) (Nat.add_pos_left hm0 _) B h59 h17 ⟨bj4.1, (Nat.lt_add_right _ bj4.2)⟩ ⟨bj5.1, (Nat.lt_add_right _ bj5.2.1), bj5.2.2⟩ _ q61) ?_
      rintro e w63 ⟨c62, rfl, E64, B65, h66⟩
      refine ⟨_, rfl, fun a F => ?_⟩
      have B := B65
      replace h17 := SL.ev h17 E64 (nor (ne_z bj4.1) (ne_z bj5.1)) (nor (ne_z bj4.1) (ne_z bj5.1))
      replace h23 := AT.ev h23 E64 (nor (ne_mp bj4.2) (ne_mp bj5.2.1))
      replace E := E.trans E64 (fun x (q : x = j4 ∨ x = j5) => q.elim (fun q => Or.inl (Or.inl q)) (fun q => Or.inl (Or.inr (q))))
      refine q_val F rfl rfl (by decide) (r_assign F rfl) fun a F => ?_
      refine q_val F rfl rfl (by decide) (r_assign F rfl) fun a F => ?_
      refine nil ?_
      refine hK58 _ _ ?_
      refine wp_ret ?_
      replace H := Option.some.inj H
      subst H
      refine out2 F rfl rfl rfl ?_
      exact ⟨fun b_ => (fun x_ => if x_ < m then x_ else 0) (c62 b_), rfl, E.leave B0 (fun x_ => if x_ < m then x_ else 0) (by intro x_ hx_; show (if x_ < m then x_ else 0) = x_; ((repeat' split) <;> omega)), (fun b_ hb_ => by show (if (c62 b_) < m then (c62 b_) else 0) < m; ((repeat' split) <;> omega)), BG.rc h66 (fun k_ hk_ => by show (if (c62 k_) < m then (c62 k_) else 0) = _; rw [hk_]; ((repeat' split) <;> omega)) (fun k_ hk_ => by show (if (c62 k_) < m then (c62 k_) else 0) = _; rw [hk_]; ((repeat' split) <;> omega)) (fun k_ hk_ => by show (if (c62 k_) < m then (c62 k_) else 0) = _; rw [hk_]; ((repeat' split) <;> omega))⟩
    · replace H := (if_neg hb44).symm.trans H
      refine wp_cond_true ((F.ev rfl).trans (congrArg Value.bool (congrArg not (decide_eq_false hb44)))) ?_
      refine wp_seq_k fun K45 hK45 => ?_
      refine reg ?_
      refine q_val F rfl rfl (by decide) (r_move F rfl) fun a F => ?_
      refine q_val F rfl rfl (by decide) (r_assign F rfl) fun a F => ?_
      refine q_val F rfl rfl (by decide) (r_assign F rfl) fun a F => ?_
      refine nil ?_
      refine hK45 _ _ ?_
      replace F : Fr a 35 [(4, .int .i64 0), (5, .int .i64 t35.1)] := F.sub ⟨rfl, rfl, trivial⟩
      refine wp_ret ?_
      refine thenR ?_
      replace H := Option.some.inj H
      subst H
      refine out2 F rfl rfl rfl ?_
      exact ⟨fun b_ => (fun x_ => if x_ < m then x_ else 0) (c37 b_), rfl, E.leave B0 (fun x_ => if x_ < m then x_ else 0) (by intro x_ hx_; show (if x_ < m then x_ else 0) = x_; ((repeat' split) <;> omega)), (fun b_ hb_ => by show (if (c37 b_) < m then (c37 b_) else 0) < m; ((repeat' split) <;> omega)), BG.rc h41 (fun k_ hk_ => by show (if (c37 k_) < m then (c37 k_) else 0) = _; rw [hk_]; ((repeat' split) <;> omega)) (fun k_ hk_ => by show (if (c37 k_) < m then (c37 k_) else 0) = _; rw [hk_]; ((repeat' split) <;> omega)) (fun k_ hk_ => by show (if (c37 k_) < m then (c37 k_) else 0) = _; rw [hk_]; ((repeat' split) <;> omega))⟩
  · replace H := (if_neg hb31).symm.trans H
    refine wp_cond_true ((F.ev rfl).trans (congrArg Value.bool (congrArg not (decide_eq_false hb31)))) ?_
    refine wp_seq_k fun K32 hK32 => ?_
    refine reg ?_
    refine q_val F rfl rfl (by decide) (r_move F rfl) fun a F => ?_
    refine q_val F rfl rfl (by decide) (r_assign F rfl) fun a F => ?_
    refine q_val F rfl rfl (by decide) (r_assign F rfl) fun a F => ?_
    refine nil ?_
    refine hK32 _ _ ?_
    refine wp_ret ?_
    refine thenR ?_
    replace H := Option.some.inj H
    subst H
    refine out2 F rfl rfl rfl ?_
    exact ⟨fun b_ => (fun x_ => if x_ < m then x_ else 0) (c19 b_), rfl, E.leave B0 (fun x_ => if x_ < m then x_ else 0) (by intro x_ hx_; show (if x_ < m then x_ else 0) = x_; ((repeat' split) <;> omega)), (fun b_ hb_ => by show (if (c19 b_) < m then (c19 b_) else 0) < m; ((repeat' split) <;> omega)), BG.rc h3 (fun k_ hk_ => by show (if (c19 k_) < m then (c19 k_) else 0) = _; rw [hk_]; ((repeat' split) <;> omega)) (fun k_ hk_ => by show (if (c19 k_) < m then (c19 k_) else 0) = _; rw [hk_]; ((repeat' split) <;> omega)) (fun k_ hk_ => by show (if (c19 k_) < m then (c19 k_) else 0) = _; rw [hk_]; ((repeat' split) <;> omega))⟩
end Go.Proofs.Ytdlokohmdnkdoaa.G
namespace Go.Proofs.Ytdlokohmdnkdoaa.G
open Go Go.RowKit
set_option linter.unusedVariables false
set_option linter.unusedSimpArgs false
set_option maxRecDepth 100000 in
set_option maxHeartbeats 4000000 in
theorem bag_New.calls {m : Nat} {c0 : Nat → Nat} {w0 : World} (hm0 : 0 < m) (B0 : CB m c0 w0) (jr17 : Nat) (bjr17 : jr17 < m) (jr18 : Nat) (bjr18 : jr18 < m) (r : (Option Bag)) (H : bag_New.f = some r) : Calls Try.prog 9 #[] w0 (fun e w_ => ∃ (c_ : Nat → Nat) (P0_ : Option Addr), e = .returned (.pointer P0_) ∧ Ev (fun x => False) c0 w0 c_ w_ ∧ CB m c_ w_ ∧ BG jr17 jr18 c_ w_ P0_ r) := by
  unfold bag_New.f at H
  have B := B0.mono (show m ≤ m + 3 by omega)
  have E : Ev (fun x => False ∨ m ≤ x) c0 w0 c0 w0 := Ev.refl
  refine enter (N := 4) (l := []) Try.func9 rfl rfl (Nat.le_of_ble_eq_true rfl) fun a F => ?_
  refine wp_seq_k fun K1 hK1 => ?_
  refine reg ?_
  refine q_val F rfl rfl (by decide) (r_assign F rfl) fun a F => ?_
  refine nil ?_
  refine hK1 _ _ ?_
  refine wp_seq_k fun K2 hK2 => ?_
  refine reg ?_
  refine q_eff F rfl rfl (by decide) (e_makeMapK (q := .i64) (K := 3) (e := K_api_Letter) (mk := (fun cs => .agg cs.toArray)) (i := 0) F c0 (m + 1) (fun w => by kernel_rfl)) ?_
  rintro v w4 a ⟨c3, qa5, rfl, E6, h7, B8⟩ F
  replace B := B8 _ B (Nat.add_lt_add_left (by decide) m)
  replace E := E.trans E6 (fun x q => q.elim)
  replace h7 : ML (m + 1) c3 w4 (some qa5) (MkV.mk (fun _ => none) 0 0) := h7
  refine q_val F rfl rfl (by decide) (r_build (v := .agg #[.map (Option.map Addr.block (some qa5)), .int .i64 0, .int .i64 0, .int .i64 0, .int .i64 0, .int .i64 0, .int .i64 0]) F [(0, .map (Option.map Addr.block (some qa5)))] (by exact ⟨rfl, rfl, trivial⟩) (fun w => by kernel_rfl)) fun a F => ?_
  refine q_eff F rfl rfl (by decide) (e_box F (v := .agg #[.map (Option.map Addr.block (some qa5)), .int .i64 0, .int .i64 0, .int .i64 0, .int .i64 0, .int .i64 0, .int .i64 0]) rfl c3 (m + 2)) ?_
  rintro v w10 a ⟨c9, qa11, rfl, E12, h13, B14⟩ F
  replace B := B14 _ B (Nat.add_lt_add_left (by decide) m)
  replace h7 := ML.ev h7 E12 (fun q => q.elim) (fun q => q.elim)
  replace E := E.trans E12 (fun x q => q.elim)
  replace h13 : AT true (m + 2) c9 w10 qa11 [.map (Option.map Addr.block (some qa5)), .int .i64 0, .int .i64 0, .int .i64 0, .int .i64 0, .int .i64 0, .int .i64 0] := h13
  refine q_val F rfl rfl (by decide) (r_assign F rfl) fun a F => ?_
  refine nil ?_
  refine hK2 _ _ ?_
  refine wp_ret ?_
  have h16 : BG (m + 2) (m + 1) c9 w10 (some qa11) (some (Bag.mk (MkV.mk (fun _ => none) 0 0) 0 (api_Traffic.mk 0 0 0 0 0))) := BG.mk h13 h7
  replace H := Option.some.inj H
  subst H
  refine out1 F rfl rfl ?_
  exact ⟨fun b_ => (fun x_ => if x_ = m + 2 then jr17 else if x_ = m + 1 then jr18 else if x_ < m then x_ else 0) (c9 b_), (some qa11), rfl, E.leave B0 (fun x_ => if x_ = m + 2 then jr17 else if x_ = m + 1 then jr18 else if x_ < m then x_ else 0) (by intro x_ hx_; show (if x_ = m + 2 then jr17 else if x_ = m + 1 then jr18 else if x_ < m then x_ else 0) = x_; ((repeat' split) <;> omega)), (fun b_ hb_ => by show (if (c9 b_) = m + 2 then jr17 else if (c9 b_) = m + 1 then jr18 else if (c9 b_) < m then (c9 b_) else 0) < m; ((repeat' split) <;> omega)), BG.rc h16 (fun k_ hk_ => by show (if (c9 k_) = m + 2 then jr17 else if (c9 k_) = m + 1 then jr18 else if (c9 k_) < m then (c9 k_) else 0) = _; rw [hk_]; ((repeat' split) <;> omega)) (fun k_ hk_ => by show (if (c9 k_) = m + 2 then jr17 else if (c9 k_) = m + 1 then jr18 else if (c9 k_) < m then (c9 k_) else 0) = _; rw [hk_]; ((repeat' split) <;> omega)) (fun k_ hk_ => by show (if (c9 k_) = m + 2 then jr17 else if (c9 k_) = m + 1 then jr18 else if (c9 k_) < m then (c9 k_) else 0) = _; rw [hk_]; ((repeat' split) <;> omega))⟩
end Go.Proofs.Ytdlokohmdnkdoaa.G
namespace Go.Proofs.Ytdlokohmdnkdoaa.G
open Go Go.RowKit
set_option linter.unusedVariables false
set_option linter.unusedSimpArgs false
set_option maxRecDepth 100000 in
set_option maxHeartbeats 4000000 in
theorem haulagelaw20_same.calls (k : Nat) {m : Nat} {c0 : Nat → Nat} {w0 : World} {A2 : Option Addr} {C3 : Nat} {A6 : Option Addr} {C7 : Nat} {a1 : List Int} {a5 : List Int} (hm0 : 0 < m) (B0 : CB m c0 w0) (h4 : SL false (Kint .u8) 0 0 c0 w0 A2 C3 a1) (h8 : SL false (Kint .u8) 0 0 c0 w0 A6 C7 a5) (r : Bool) (H : haulagelaw20_same.f k a1 a5 = some r) : Calls Try.prog 19 #[.slice A2 a1.length C3, .slice A6 a5.length C7] w0 (fun e w_ => ∃ (c_ : Nat → Nat), e = .returned (.bool r) ∧ Ev (fun x => False) c0 w0 c_ w_ ∧ CB m c_ w_) := by
  unfold haulagelaw20_same.f at H
  have B := B0.mono (show m ≤ m + 1 by omega)
  have E : Ev (fun x => False ∨ m ≤ x) c0 w0 c0 w0 := Ev.refl
  refine enter (N := 26) (l := [.slice A2 a1.length C3, .slice A6 a5.length C7]) Try.func19 rfl rfl (Nat.le_of_ble_eq_true rfl) fun a F => ?_
  refine wp_seq_k fun K9 hK9 => ?_
  refine reg ?_
  refine q_val F rfl rfl (by decide) (r_assign F rfl) fun a F => ?_
  refine nil ?_
  refine hK9 _ _ ?_
  refine wp_seq_k fun K10 hK10 => ?_
  refine wp_seq_k fun K11 hK11 => ?_
  refine reg ?_
  refine q_val F rfl rfl (by decide) (r_move F rfl) fun a F => ?_
  refine q_val F rfl rfl (by decide) (r_lensl F Try.underlying27 rfl) fun a F => ?_
  refine q_val F rfl rfl (by decide) (r_move F rfl) fun a F => ?_
  refine q_val F rfl rfl (by decide) (r_lensl F Try.underlying27 rfl) fun a F => ?_
  refine q_val F rfl rfl (by decide) (r_neq F rfl rfl) fun a F => ?_
  refine nil ?_
  refine hK11 _ _ ?_
  by_cases hb12 : (a1.length : Int) = (a5.length : Int)
  · replace H := (if_pos hb12).symm.trans H
    refine wp_cond_false ((F.ev rfl).trans (congrArg Value.bool (congrArg not (decide_eq_true hb12)))) ?_
    refine wp_skip ?_
    refine hK10 _ _ ?_
    refine wp_seq_k fun K14 hK14 => ?_
    refine wp_seq_k fun K15 hK15 => ?_
    refine reg ?_
    refine q_val F rfl rfl (by decide) (r_assign F rfl) fun a F => ?_
    refine nil ?_
    refine hK15 _ _ ?_
    refine wp_block ?_
    obtain ⟨x26, HL, HR25⟩ := bind_some H
    have J53 : ∀ (c54 : Nat → Nat) (w55 : World) (a : Act), Fr a 26 [] → Ev (fun x => False ∨ m ≤ x) c0 w0 c54 w55 → CB (m + 1) c54 w55 → haulagelaw20_same.j2 = some r → K14 a w55 := by
      intro c54 w55 a  F E B  H
      unfold haulagelaw20_same.j2 at H
      refine hK14 _ _ ?_
      refine wp_seq_k fun K56 hK56 => ?_
      refine reg ?_
      refine q_val F rfl rfl (by decide) (r_assign F rfl) fun a F => ?_
      refine nil ?_
      refine hK56 _ _ ?_
      refine wp_ret ?_
      replace H := Option.some.inj H
      subst H
      refine out1 F rfl rfl ?_
      exact ⟨fun b_ => (fun x_ => if x_ < m then x_ else 0) (c54 b_), rfl, E.leave B0 (fun x_ => if x_ < m then x_ else 0) (by intro x_ hx_; show (if x_ < m then x_ else 0) = x_; ((repeat' split) <;> omega)), (fun b_ hb_ => by show (if (c54 b_) < m then (c54 b_) else 0) < m; ((repeat' split) <;> omega))⟩
    refine loop_fuel (I := fun n a w => ∃ (i16 : Int) (c : Nat → Nat), Fr a 26 [(0, .slice A2 a1.length C3), (1, .slice A6 a5.length C7), (5, .int .i64 i16)] ∧ Ev (fun x => False ∨ m ≤ x) c0 w0 c w ∧ CB (m + 1) c w ∧ SL false (Kint .u8) 0 0 c w A2 C3 a1 ∧ SL false (Kint .u8) 0 0 c w A6 C7 a5 ∧ loop (fun (s_ : Int) => haulagelaw20_same.b1 a1 a5 s_) n i16 = some x26) (k := k) ⟨0, c0, F.sub ⟨rfl, rfl, rfl, trivial⟩, E, B, h4, h8, HL⟩ ?_
    clear HL H E F B
    intro n23 X19 hX19 a w18 ⟨i16, c17, F, E, B, h4, h8, HL⟩
    obtain ⟨n24, ctl22, rfl, HB, HN20, HD21⟩ := loop_some HL
    have H : haulagelaw20_same.b1 a1 a5 i16 = some ctl22 := HB
    clear HB HL
    unfold haulagelaw20_same.b1 at H
    refine wp_seq_k fun K27 hK27 => ?_
    refine wp_seq_k fun K28 hK28 => ?_
    refine reg ?_
    refine q_val F rfl rfl (by decide) (r_move F rfl) fun a F => ?_
    refine q_val F rfl rfl (by decide) (r_move F rfl) fun a F => ?_
    refine q_val F rfl rfl (by decide) (r_lensl F Try.underlying27 rfl) fun a F => ?_
    refine q_val F rfl rfl (by decide) (r_lss F rfl rfl) fun a F => ?_
    refine nil ?_
    refine hK28 _ _ ?_
    by_cases hb29 : i16 < (a1.length : Int)
    · replace H := (if_pos hb29).symm.trans H
      refine wp_cond_true ((F.ev rfl).trans (congrArg Value.bool (decide_eq_true hb29))) ?_
      refine wp_skip ?_
      refine hK27 _ _ ?_
      refine wp_seq_k fun K30 hK30 => ?_
      refine wp_block ?_
      refine wp_seq_k fun K31 hK31 => ?_
      refine regD (SB No c17 w18) 9 (.q 0 (.q 1 (.q 2 (.q 3 (.q 4 (.q 5 (.q 6 (.q 7 (.q 8 .nil))))))))) Try_hm (by decide +kernel) ?_
      intro w32 w1_ w2_ w3_ w4_
      have E33 : Ev No c17 w18 c17 w32 := Ev.same w1_ w2_ w3_ w4_
      replace B := B.same w1_
      have zh4 := h4
      have zh8 := h8
      have ER : Ev No c17 w18 c17 w32 := Ev.same w1_ w2_ w3_ w4_
      replace h4 := SL.ev h4 E33 (fun q => q.elim) (fun q => q.elim)
      replace h8 := SL.ev h8 E33 (fun q => q.elim) (fun q => q.elim)
      replace E := E.trans E33 (fun x q => q.elim)
      refine d_q F rfl rfl rfl (by decide) (fun wq hS => r_move F rfl) ER.sb fun a F => ?_
      refine d_q F rfl rfl rfl (by decide) (fun wq hS => r_move F rfl) ER.sb fun a F => ?_
      replace H := ifN H
      obtain ⟨g34, H⟩ := H
      obtain ⟨ad35, cs36, e37, h38, r39⟩ := SL.at zh4 i16 g34.1 g34.2
      obtain rfl : cs36 = [.int .u8 (rd a1 i16)] := r39
      obtain ⟨qa40, qqa40⟩ : ∃ q, q = (ad35.add (i16.toNat * 1)) := ⟨_, rfl⟩
      have h38 : AT false 0 c17 w18 qa40 [.int .u8 (rd a1 i16)] := by rw [qqa40]; exact h38
      have zh38 := h38
      replace h38 := AT.ev h38 ER (fun q => q.elim)
      refine d_q F rfl rfl rfl (by decide) (fun wq hS => r_indexAddr' F Try.underlying27 sz_5 rfl rfl g34.1 g34.2 e37 qqa40) ER.sb fun a F => ?_
      refine d_q F rfl rfl rfl (by decide) (fun wq hS => r_load F rfl ag_5 (AT.cell0 (AT.sb zh38 hS (fun q => q.elim)) rfl)) ER.sb fun a F => ?_
      refine d_q F rfl rfl rfl (by decide) (fun wq hS => r_move F rfl) ER.sb fun a F => ?_
      refine d_q F rfl rfl rfl (by decide) (fun wq hS => r_move F rfl) ER.sb fun a F => ?_
      replace H := ifN H
      obtain ⟨g42, H⟩ := H
      obtain ⟨ad43, cs44, e45, h46, r47⟩ := SL.at zh8 i16 g42.1 g42.2
      obtain rfl : cs44 = [.int .u8 (rd a5 i16)] := r47
      obtain ⟨qa48, qqa48⟩ : ∃ q, q = (ad43.add (i16.toNat * 1)) := ⟨_, rfl⟩
      have h46 : AT false 0 c17 w18 qa48 [.int .u8 (rd a5 i16)] := by rw [qqa48]; exact h46
      have zh46 := h46
      replace h46 := AT.ev h46 ER (fun q => q.elim)
      refine d_q F rfl rfl rfl (by decide) (fun wq hS => r_indexAddr' F Try.underlying27 sz_5 rfl rfl g42.1 g42.2 e45 qqa48) ER.sb fun a F => ?_
      refine d_q F rfl rfl rfl (by decide) (fun wq hS => r_load F rfl ag_5 (AT.cell0 (AT.sb zh46 hS (fun q => q.elim)) rfl)) ER.sb fun a F => ?_
      refine d_q F rfl rfl rfl (by decide) (fun wq hS => r_neq F rfl rfl) ER.sb fun a F => ?_
      refine d_nil ?_
      refine hK31 _ _ ?_
      replace F : Fr a 26 [(0, .slice A2 a1.length C3), (1, .slice A6 a5.length C7), (5, .int .i64 i16), (25, .bool (!decide ((rd a1 i16) = (rd a5 i16))))] := F.sub ⟨rfl, rfl, rfl, rfl, trivial⟩
      by_cases hb50 : (rd a1 i16) = (rd a5 i16)
      · replace H := (if_pos hb50).symm.trans H
        refine wp_cond_false ((F.ev rfl).trans (congrArg Value.bool (congrArg not (decide_eq_true hb50)))) ?_
        refine wp_skip ?_
        refine hK30 _ _ ?_
        refine reg ?_
        refine q_val F rfl rfl (by decide) (r_move F rfl) fun a F => ?_
        refine q_val F rfl rfl (by decide) (r_add F rfl rfl) fun a F => ?_
        refine q_val F rfl rfl (by decide) (r_assign F rfl) fun a F => ?_
        refine nil ?_
        replace H := HN20 _ (Option.some.inj H).symm
        exact hX19 _ _ _ (Nat.lt_succ_self _) ⟨(IntKind.i64.wrap (i16 + 1)), c17, F.sub ⟨rfl, rfl, rfl, trivial⟩, E, B, h4, h8, H⟩
      · replace H := (if_neg hb50).symm.trans H
        refine wp_cond_true ((F.ev rfl).trans (congrArg Value.bool (congrArg not (decide_eq_false hb50)))) ?_
        refine wp_seq_k fun K51 hK51 => ?_
        refine reg ?_
        refine q_val F rfl rfl (by decide) (r_assign F rfl) fun a F => ?_
        refine nil ?_
        refine hK51 _ _ ?_
        refine wp_ret ?_
        refine inbR ?_
        refine thenR ?_
        refine thenR ?_
        refine inbR ?_
        refine thenR ?_
        have hx_ := HD21 _ (Option.some.inj H).symm
        have H := HR25
        rw [← hx_] at H
        replace H : some false = some r := H
        replace H := Option.some.inj H
        subst H
        refine out1 F rfl rfl ?_
        exact ⟨fun b_ => (fun x_ => if x_ < m then x_ else 0) (c17 b_), rfl, E.leave B0 (fun x_ => if x_ < m then x_ else 0) (by intro x_ hx_; show (if x_ < m then x_ else 0) = x_; ((repeat' split) <;> omega)), (fun b_ hb_ => by show (if (c17 b_) < m then (c17 b_) else 0) < m; ((repeat' split) <;> omega))⟩
    · replace H := (if_neg hb29).symm.trans H
      refine wp_cond_false ((F.ev rfl).trans (congrArg Value.bool (decide_eq_false hb29))) ?_
      refine wp_exit ?_
      refine thenE ?_
      refine thenE ?_
      refine inbE ?_
      have hx_ := HD21 _ (Option.some.inj H).symm
      have H := HR25
      rw [← hx_] at H
      exact J53 c17 w18 a  (F.sub trivial) E B  H
  · replace H := (if_neg hb12).symm.trans H
    refine wp_cond_true ((F.ev rfl).trans (congrArg Value.bool (congrArg not (decide_eq_false hb12)))) ?_
    refine wp_seq_k fun K13 hK13 => ?_
    refine reg ?_
    refine q_val F rfl rfl (by decide) (r_assign F rfl) fun a F => ?_
    refine nil ?_
    refine hK13 _ _ ?_
    refine wp_ret ?_
    refine thenR ?_
    replace H := Option.some.inj H
    subst H
    refine out1 F rfl rfl ?_
    exact ⟨fun b_ => (fun x_ => if x_ < m then x_ else 0) (c0 b_), rfl, E.leave B0 (fun x_ => if x_ < m then x_ else 0) (by intro x_ hx_; show (if x_ < m then x_ else 0) = x_; ((repeat' split) <;> omega)), (fun b_ hb_ => by show (if (c0 b_) < m then (c0 b_) else 0) < m; ((repeat' split) <;> omega))⟩
end Go.Proofs.Ytdlokohmdnkdoaa.G
namespace Go.Proofs.Ytdlokohmdnkdoaa.G
open Go Go.RowKit
set_option linter.unusedVariables false
set_option linter.unusedSimpArgs false
set_option maxRecDepth 100000 in
set_option maxHeartbeats 4000000 in
theorem haulagelaw20_alike.calls (k : Nat) {m : Nat} {c0 : Nat → Nat} {w0 : World} {A2 : Option Addr} {C3 : Nat} {A6 : Option Addr} {C7 : Nat} {a1 : api_Letter} {a5 : api_Letter} (hm0 : 0 < m) (B0 : CB m c0 w0) (h4 : SL false (Kint .u8) 0 0 c0 w0 A2 C3 a1.Data) (h8 : SL false (Kint .u8) 0 0 c0 w0 A6 C7 a5.Data) (r : Bool) (H : haulagelaw20_alike.f k a1 a5 = some r) : Calls Try.prog 28 #[.agg #[.int .i64 a1.Number, .int .i64 a1.From, .int .i64 a1.To, .slice A2 a1.Data.length C3], .agg #[.int .i64 a5.Number, .int .i64 a5.From, .int .i64 a5.To, .slice A6 a5.Data.length C7]] w0 (fun e w_ => ∃ (c_ : Nat → Nat), e = .returned (.bool r) ∧ Ev (fun x => False) c0 w0 c_ w_ ∧ CB m c_ w_) := by
  unfold haulagelaw20_alike.f at H
  have B := B0.mono (show m ≤ m + 3 by omega)
  have E : Ev (fun x => False ∨ m ≤ x) c0 w0 c0 w0 := Ev.refl
  refine enter (N := 31) (l := [.agg #[.int .i64 a1.Number, .int .i64 a1.From, .int .i64 a1.To, .slice A2 a1.Data.length C3], .agg #[.int .i64 a5.Number, .int .i64 a5.From, .int .i64 a5.To, .slice A6 a5.Data.length C7]]) Try.func28 rfl rfl (Nat.le_of_ble_eq_true rfl) fun a F => ?_
  refine wp_seq_k fun K9 hK9 => ?_
  refine reg ?_
  refine q_eff F rfl rfl (by decide) (e_box F (v := .agg #[.int .i64 a1.Number, .int .i64 a1.From, .int .i64 a1.To, .slice A2 a1.Data.length C3]) rfl c0 (m + 1)) ?_
  rintro v w11 a ⟨c10, qa12, rfl, E13, h14, B15⟩ F
  replace B := B15 _ B (Nat.add_lt_add_left (by decide) m)
  replace h4 := SL.ev h4 E13 (fun q => q.elim) (fun q => q.elim)
  replace h8 := SL.ev h8 E13 (fun q => q.elim) (fun q => q.elim)
  replace E := E.trans E13 (fun x q => q.elim)
  replace h14 : AT true (m + 1) c10 w11 qa12 [.int .i64 a1.Number, .int .i64 a1.From, .int .i64 a1.To, .slice A2 a1.Data.length C3] := h14
  refine q_eff F rfl rfl (by decide) (e_box F (v := .agg #[.int .i64 a5.Number, .int .i64 a5.From, .int .i64 a5.To, .slice A6 a5.Data.length C7]) rfl c10 (m + 2)) ?_
  rintro v w18 a ⟨c17, qa19, rfl, E20, h21, B22⟩ F
  replace B := B22 _ B (Nat.add_lt_add_left (by decide) m)
  replace h4 := SL.ev h4 E20 (fun q => q.elim) (fun q => q.elim)
  replace h8 := SL.ev h8 E20 (fun q => q.elim) (fun q => q.elim)
  replace h14 := AT.ev h14 E20 (fun q => q.elim)
  replace E := E.trans E20 (fun x q => q.elim)
  replace h21 : AT true (m + 2) c17 w18 qa19 [.int .i64 a5.Number, .int .i64 a5.From, .int .i64 a5.To, .slice A6 a5.Data.length C7] := h21
  refine q_val F rfl rfl (by decide) (r_assign F rfl) fun a F => ?_
  refine nil ?_
  refine hK9 _ _ ?_
  refine wp_seq_k fun K24 hK24 => ?_
  refine reg ?_
  refine q_val F rfl rfl (by decide) (r_fieldAddr F rfl ff_40_0) fun a F => ?_
  refine q_val F rfl rfl (by decide) (r_load F rfl ag_3 (AT.cell h14 rfl)) fun a F => ?_
  refine q_val F rfl rfl (by decide) (r_fieldAddr F rfl ff_40_0) fun a F => ?_
  refine q_val F rfl rfl (by decide) (r_load F rfl ag_3 (AT.cell h21 rfl)) fun a F => ?_
  refine q_val F rfl rfl (by decide) (r_eql F rfl rfl) fun a F => ?_
  refine q_val F rfl rfl (by decide) (r_move F rfl) fun a F => ?_
  by_cases hb25 : a1.Number = a5.Number
  · replace H := (if_pos hb25).symm.trans H
    refine q_yes F rfl (by decide) rfl (decide_eq_true hb25) ?_
    refine q_val F rfl rfl (by decide) (r_fieldAddr F rfl ff_40_1) fun a F => ?_
    refine q_yes F rfl (by decide) rfl (decide_eq_true hb25) ?_
    refine q_val F rfl rfl (by decide) (r_load F rfl ag_3 (AT.cell h14 rfl)) fun a F => ?_
    refine q_yes F rfl (by decide) rfl (decide_eq_true hb25) ?_
    refine q_val F rfl rfl (by decide) (r_fieldAddr F rfl ff_40_1) fun a F => ?_
    refine q_yes F rfl (by decide) rfl (decide_eq_true hb25) ?_
    refine q_val F rfl rfl (by decide) (r_load F rfl ag_3 (AT.cell h21 rfl)) fun a F => ?_
    refine q_yes F rfl (by decide) rfl (decide_eq_true hb25) ?_
    refine q_val F rfl rfl (by decide) (r_eql F rfl rfl) fun a F => ?_
    refine q_val F rfl rfl (by decide) (r_pick_t F rfl (decide_eq_true hb25) rfl) fun a F => ?_
    refine q_val F rfl rfl (by decide) (r_move F rfl) fun a F => ?_
    by_cases hb26 : a1.From = a5.From
    · replace H := (if_pos hb26).symm.trans H
      refine q_yes F rfl (by decide) rfl (decide_eq_true hb26) ?_
      refine q_val F rfl rfl (by decide) (r_fieldAddr F rfl ff_40_2) fun a F => ?_
      refine q_yes F rfl (by decide) rfl (decide_eq_true hb26) ?_
      refine q_val F rfl rfl (by decide) (r_load F rfl ag_3 (AT.cell h14 rfl)) fun a F => ?_
      refine q_yes F rfl (by decide) rfl (decide_eq_true hb26) ?_
      refine q_val F rfl rfl (by decide) (r_fieldAddr F rfl ff_40_2) fun a F => ?_
      refine q_yes F rfl (by decide) rfl (decide_eq_true hb26) ?_
      refine q_val F rfl rfl (by decide) (r_load F rfl ag_3 (AT.cell h21 rfl)) fun a F => ?_
      refine q_yes F rfl (by decide) rfl (decide_eq_true hb26) ?_
      refine q_val F rfl rfl (by decide) (r_eql F rfl rfl) fun a F => ?_
      refine q_val F rfl rfl (by decide) (r_pick_t F rfl (decide_eq_true hb26) rfl) fun a F => ?_
      refine q_val F rfl rfl (by decide) (r_move F rfl) fun a F => ?_
      by_cases hb27 : a1.To = a5.To
      · replace H := (if_pos hb27).symm.trans H
        refine q_yes F rfl (by decide) rfl (decide_eq_true hb27) ?_
        refine q_val F rfl rfl (by decide) (r_fieldAddr F rfl ff_40_3) fun a F => ?_
        refine q_yes F rfl (by decide) rfl (decide_eq_true hb27) ?_
        refine q_val F rfl rfl (by decide) (r_load F rfl ag_27 (AT.cell h14 rfl)) fun a F => ?_
        refine q_yes F rfl (by decide) rfl (decide_eq_true hb27) ?_
        refine q_val F rfl rfl (by decide) (r_fieldAddr F rfl ff_40_3) fun a F => ?_
        refine q_yes F rfl (by decide) rfl (decide_eq_true hb27) ?_
        refine q_val F rfl rfl (by decide) (r_load F rfl ag_27 (AT.cell h21 rfl)) fun a F => ?_
        replace H := bind_some H
        obtain ⟨t28, q29, H⟩ := H
        refine q_yes F rfl (by decide) rfl (decide_eq_true hb27) ?_
        refine q_call F rfl rfl (by decide) (r_call F Try.func19 rfl (by kernel_rfl) rfl) (haulagelaw20_same.calls k (m := m + 3) (Nat.add_pos_left hm0 _) B h4 h8 _ q29) ?_
        rintro e w31 ⟨c30, rfl, E32, B33⟩
        refine ⟨_, rfl, fun a F => ?_⟩
        have B := B33
        replace h4 := SL.ev h4 E32 (fun q => q.elim) (fun q => q.elim)
        replace h8 := SL.ev h8 E32 (fun q => q.elim) (fun q => q.elim)
        replace h14 := AT.ev h14 E32 (fun q => q.elim)
        replace h21 := AT.ev h21 E32 (fun q => q.elim)
        replace E := E.trans E32 (fun x q => q.elim)
        refine q_val F rfl rfl (by decide) (r_pick_t F rfl (decide_eq_true hb27) rfl) fun a F => ?_
        refine q_val F rfl rfl (by decide) (r_assign F rfl) fun a F => ?_
        refine nil ?_
        refine hK24 _ _ ?_
        replace F : Fr a 31 [(4, .bool t28)] := F.sub ⟨rfl, trivial⟩
        refine wp_ret ?_
        replace H := Option.some.inj H
        subst H
        refine out1 F rfl rfl ?_
        exact ⟨fun b_ => (fun x_ => if x_ < m then x_ else 0) (c30 b_), rfl, E.leave B0 (fun x_ => if x_ < m then x_ else 0) (by intro x_ hx_; show (if x_ < m then x_ else 0) = x_; ((repeat' split) <;> omega)), (fun b_ hb_ => by show (if (c30 b_) < m then (c30 b_) else 0) < m; ((repeat' split) <;> omega))⟩
      · replace H := (if_neg hb27).symm.trans H
        refine q_no F rfl (by decide) rfl (decide_eq_false hb27) (by decide) fun a F => ?_
        refine q_no F rfl (by decide) rfl (decide_eq_false hb27) (by decide) fun a F => ?_
        refine q_no F rfl (by decide) rfl (decide_eq_false hb27) (by decide) fun a F => ?_
        refine q_no F rfl (by decide) rfl (decide_eq_false hb27) (by decide) fun a F => ?_
        refine q_no F rfl (by decide) rfl (decide_eq_false hb27) (by decide) fun a F => ?_
        refine q_val F rfl rfl (by decide) (r_pick_f F rfl (decide_eq_false hb27) rfl) fun a F => ?_
        refine q_val F rfl rfl (by decide) (r_assign F rfl) fun a F => ?_
        refine nil ?_
        refine hK24 _ _ ?_
        replace F : Fr a 31 [(4, .bool false)] := F.sub ⟨rfl, trivial⟩
        refine wp_ret ?_
        replace H := Option.some.inj H
        subst H
        refine out1 F rfl rfl ?_
        exact ⟨fun b_ => (fun x_ => if x_ < m then x_ else 0) (c17 b_), rfl, E.leave B0 (fun x_ => if x_ < m then x_ else 0) (by intro x_ hx_; show (if x_ < m then x_ else 0) = x_; ((repeat' split) <;> omega)), (fun b_ hb_ => by show (if (c17 b_) < m then (c17 b_) else 0) < m; ((repeat' split) <;> omega))⟩
    · replace H := (if_neg hb26).symm.trans H
      refine q_no F rfl (by decide) rfl (decide_eq_false hb26) (by decide) fun a F => ?_
      refine q_no F rfl (by decide) rfl (decide_eq_false hb26) (by decide) fun a F => ?_
      refine q_no F rfl (by decide) rfl (decide_eq_false hb26) (by decide) fun a F => ?_
      refine q_no F rfl (by decide) rfl (decide_eq_false hb26) (by decide) fun a F => ?_
      refine q_no F rfl (by decide) rfl (decide_eq_false hb26) (by decide) fun a F => ?_
      refine q_val F rfl rfl (by decide) (r_pick_f F rfl (decide_eq_false hb26) rfl) fun a F => ?_
      refine q_val F rfl rfl (by decide) (r_move F rfl) fun a F => ?_
      refine q_no F rfl (by decide) rfl rfl (by decide) fun a F => ?_
      refine q_no F rfl (by decide) rfl rfl (by decide) fun a F => ?_
      refine q_no F rfl (by decide) rfl rfl (by decide) fun a F => ?_
      refine q_no F rfl (by decide) rfl rfl (by decide) fun a F => ?_
      refine q_no F rfl (by decide) rfl rfl (by decide) fun a F => ?_
      refine q_val F rfl rfl (by decide) (r_pick_f F rfl rfl rfl) fun a F => ?_
      refine q_val F rfl rfl (by decide) (r_assign F rfl) fun a F => ?_
      refine nil ?_
      refine hK24 _ _ ?_
      replace F : Fr a 31 [(4, .bool false)] := F.sub ⟨rfl, trivial⟩
      refine wp_ret ?_
      replace H := Option.some.inj H
      subst H
      refine out1 F rfl rfl ?_
      exact ⟨fun b_ => (fun x_ => if x_ < m then x_ else 0) (c17 b_), rfl, E.leave B0 (fun x_ => if x_ < m then x_ else 0) (by intro x_ hx_; show (if x_ < m then x_ else 0) = x_; ((repeat' split) <;> omega)), (fun b_ hb_ => by show (if (c17 b_) < m then (c17 b_) else 0) < m; ((repeat' split) <;> omega))⟩
  · replace H := (if_neg hb25).symm.trans H
    refine q_no F rfl (by decide) rfl (decide_eq_false hb25) (by decide) fun a F => ?_
    refine q_no F rfl (by decide) rfl (decide_eq_false hb25) (by decide) fun a F => ?_
    refine q_no F rfl (by decide) rfl (decide_eq_false hb25) (by decide) fun a F => ?_
    refine q_no F rfl (by decide) rfl (decide_eq_false hb25) (by decide) fun a F => ?_
    refine q_no F rfl (by decide) rfl (decide_eq_false hb25) (by decide) fun a F => ?_
    refine q_val F rfl rfl (by decide) (r_pick_f F rfl (decide_eq_false hb25) rfl) fun a F => ?_
    refine q_val F rfl rfl (by decide) (r_move F rfl) fun a F => ?_
    refine q_no F rfl (by decide) rfl rfl (by decide) fun a F => ?_
    refine q_no F rfl (by decide) rfl rfl (by decide) fun a F => ?_
    refine q_no F rfl (by decide) rfl rfl (by decide) fun a F => ?_
    refine q_no F rfl (by decide) rfl rfl (by decide) fun a F => ?_
    refine q_no F rfl (by decide) rfl rfl (by decide) fun a F => ?_
    refine q_val F rfl rfl (by decide) (r_pick_f F rfl rfl rfl) fun a F => ?_
    refine q_val F rfl rfl (by decide) (r_move F rfl) fun a F => ?_
    refine q_no F rfl (by decide) rfl rfl (by decide) fun a F => ?_
    refine q_no F rfl (by decide) rfl rfl (by decide) fun a F => ?_
    refine q_no F rfl (by decide) rfl rfl (by decide) fun a F => ?_
    refine q_no F rfl (by decide) rfl rfl (by decide) fun a F => ?_
    refine q_no F rfl (by decide) rfl rfl (by decide) fun a F => ?_
    refine q_val F rfl rfl (by decide) (r_pick_f F rfl rfl rfl) fun a F => ?_
    refine q_val F rfl rfl (by decide) (r_assign F rfl) fun a F => ?_
    refine nil ?_
    refine hK24 _ _ ?_
    replace F : Fr a 31 [(4, .bool false)] := F.sub ⟨rfl, trivial⟩
    refine wp_ret ?_
    replace H := Option.some.inj H
    subst H
    refine out1 F rfl rfl ?_
    exact ⟨fun b_ => (fun x_ => if x_ < m then x_ else 0) (c17 b_), rfl, E.leave B0 (fun x_ => if x_ < m then x_ else 0) (by intro x_ hx_; show (if x_ < m then x_ else 0) = x_; ((repeat' split) <;> omega)), (fun b_ hb_ => by show (if (c17 b_) < m then (c17 b_) else 0) < m; ((repeat' split) <;> omega))⟩
end Go.Proofs.Ytdlokohmdnkdoaa.G
namespace Go.Proofs.Ytdlokohmdnkdoaa.G
open Go Go.RowKit
set_option linter.unusedVariables false
set_option linter.unusedSimpArgs false
set_option maxRecDepth 100000 in
set_option maxHeartbeats 4000000 in
theorem haulagelaw20_ints.calls (k : Nat) {m : Nat} {c0 : Nat → Nat} {w0 : World} {A2 : Option Addr} {C3 : Nat} {A6 : Option Addr} {C7 : Nat} {a1 : List Int} {a5 : List Int} (hm0 : 0 < m) (B0 : CB m c0 w0) (h4 : SL false (Kint .i64) 0 0 c0 w0 A2 C3 a1) (h8 : SL false (Kint .i64) 0 0 c0 w0 A6 C7 a5) (r : Bool) (H : haulagelaw20_ints.f k a1 a5 = some r) : Calls Try.prog 20 #[.slice A2 a1.length C3, .slice A6 a5.length C7] w0 (fun e w_ => ∃ (c_ : Nat → Nat), e = .returned (.bool r) ∧ Ev (fun x => False) c0 w0 c_ w_ ∧ CB m c_ w_) := by
  unfold haulagelaw20_ints.f at H
  have B := B0.mono (show m ≤ m + 1 by omega)
  have E : Ev (fun x => False ∨ m ≤ x) c0 w0 c0 w0 := Ev.refl
  refine enter (N := 26) (l := [.slice A2 a1.length C3, .slice A6 a5.length C7]) Try.func20 rfl rfl (Nat.le_of_ble_eq_true rfl) fun a F => ?_
  refine wp_seq_k fun K9 hK9 => ?_
  refine reg ?_
  refine q_val F rfl rfl (by decide) (r_assign F rfl) fun a F => ?_
  refine nil ?_
  refine hK9 _ _ ?_
  refine wp_seq_k fun K10 hK10 => ?_
  refine wp_seq_k fun K11 hK11 => ?_
  refine reg ?_
  refine q_val F rfl rfl (by decide) (r_move F rfl) fun a F => ?_
  refine q_val F rfl rfl (by decide) (r_lensl F Try.underlying36 rfl) fun a F => ?_
  refine q_val F rfl rfl (by decide) (r_move F rfl) fun a F => ?_
  refine q_val F rfl rfl (by decide) (r_lensl F Try.underlying36 rfl) fun a F => ?_
  refine q_val F rfl rfl (by decide) (r_neq F rfl rfl) fun a F => ?_
  refine nil ?_
  refine hK11 _ _ ?_
  by_cases hb12 : (a1.length : Int) = (a5.length : Int)
  · replace H := (if_pos hb12).symm.trans H
    refine wp_cond_false ((F.ev rfl).trans (congrArg Value.bool (congrArg not (decide_eq_true hb12)))) ?_
    refine wp_skip ?_
    refine hK10 _ _ ?_
    refine wp_seq_k fun K14 hK14 => ?_
    refine wp_seq_k fun K15 hK15 => ?_
    refine reg ?_
    refine q_val F rfl rfl (by decide) (r_assign F rfl) fun a F => ?_
    refine nil ?_
    refine hK15 _ _ ?_
    refine wp_block ?_
    obtain ⟨x26, HL, HR25⟩ := bind_some H
    have J53 : ∀ (c54 : Nat → Nat) (w55 : World) (a : Act), Fr a 26 [] → Ev (fun x => False ∨ m ≤ x) c0 w0 c54 w55 → CB (m + 1) c54 w55 → haulagelaw20_ints.j2 = some r → K14 a w55 := by
      intro c54 w55 a  F E B  H
      unfold haulagelaw20_ints.j2 at H
      refine hK14 _ _ ?_
      refine wp_seq_k fun K56 hK56 => ?_
      refine reg ?_
      refine q_val F rfl rfl (by decide) (r_assign F rfl) fun a F => ?_
      refine nil ?_
      refine hK56 _ _ ?_
      refine wp_ret ?_
      replace H := Option.some.inj H
      subst H
      refine out1 F rfl rfl ?_
      exact ⟨fun b_ => (fun x_ => if x_ < m then x_ else 0) (c54 b_), rfl, E.leave B0 (fun x_ => if x_ < m then x_ else 0) (by intro x_ hx_; show (if x_ < m then x_ else 0) = x_; ((repeat' split) <;> omega)), (fun b_ hb_ => by show (if (c54 b_) < m then (c54 b_) else 0) < m; ((repeat' split) <;> omega))⟩
    refine loop_fuel (I := fun n a w => ∃ (i16 : Int) (c : Nat → Nat), Fr a 26 [(0, .slice A2 a1.length C3), (1, .slice A6 a5.length C7), (5, .int .i64 i16)] ∧ Ev (fun x => False ∨ m ≤ x) c0 w0 c w ∧ CB (m + 1) c w ∧ SL false (Kint .i64) 0 0 c w A2 C3 a1 ∧ SL false (Kint .i64) 0 0 c w A6 C7 a5 ∧ loop (fun (s_ : Int) => haulagelaw20_ints.b1 a1 a5 s_) n i16 = some x26) (k := k) ⟨0, c0, F.sub ⟨rfl, rfl, rfl, trivial⟩, E, B, h4, h8, HL⟩ ?_
    clear HL H E F B
    intro n23 X19 hX19 a w18 ⟨i16, c17, F, E, B, h4, h8, HL⟩
    obtain ⟨n24, ctl22, rfl, HB, HN20, HD21⟩ := loop_some HL
    have H : haulagelaw20_ints.b1 a1 a5 i16 = some ctl22 := HB
    clear HB HL
    unfold haulagelaw20_ints.b1 at H
    refine wp_seq_k fun K27 hK27 => ?_
    refine wp_seq_k fun K28 hK28 => ?_
    refine reg ?_
    refine q_val F rfl rfl (by decide) (r_move F rfl) fun a F => ?_
    refine q_val F rfl rfl (by decide) (r_move F rfl) fun a F => ?_
    refine q_val F rfl rfl (by decide) (r_lensl F Try.underlying36 rfl) fun a F => ?_
    refine q_val F rfl rfl (by decide) (r_lss F rfl rfl) fun a F => ?_
    refine nil ?_
    refine hK28 _ _ ?_
    by_cases hb29 : i16 < (a1.length : Int)
    · replace H := (if_pos hb29).symm.trans H
      refine wp_cond_true ((F.ev rfl).trans (congrArg Value.bool (decide_eq_true hb29))) ?_
      refine wp_skip ?_
      refine hK27 _ _ ?_
      refine wp_seq_k fun K30 hK30 => ?_
      refine wp_block ?_
      refine wp_seq_k fun K31 hK31 => ?_
      refine regD (SB No c17 w18) 9 (.q 0 (.q 1 (.q 2 (.q 3 (.q 4 (.q 5 (.q 6 (.q 7 (.q 8 .nil))))))))) Try_hm (by decide +kernel) ?_
      intro w32 w1_ w2_ w3_ w4_
      have E33 : Ev No c17 w18 c17 w32 := Ev.same w1_ w2_ w3_ w4_
      replace B := B.same w1_
      have zh4 := h4
      have zh8 := h8
      have ER : Ev No c17 w18 c17 w32 := Ev.same w1_ w2_ w3_ w4_
      replace h4 := SL.ev h4 E33 (fun q => q.elim) (fun q => q.elim)
      replace h8 := SL.ev h8 E33 (fun q => q.elim) (fun q => q.elim)
      replace E := E.trans E33 (fun x q => q.elim)
      refine d_q F rfl rfl rfl (by decide) (fun wq hS => r_move F rfl) ER.sb fun a F => ?_
      refine d_q F rfl rfl rfl (by decide) (fun wq hS => r_move F rfl) ER.sb fun a F => ?_
      replace H := ifN H
      obtain ⟨g34, H⟩ := H
      obtain ⟨ad35, cs36, e37, h38, r39⟩ := SL.at zh4 i16 g34.1 g34.2
      obtain rfl : cs36 = [.int .i64 (rd a1 i16)] := r39
      obtain ⟨qa40, qqa40⟩ : ∃ q, q = (ad35.add (i16.toNat * 1)) := ⟨_, rfl⟩
      have h38 : AT false 0 c17 w18 qa40 [.int .i64 (rd a1 i16)] := by rw [qqa40]; exact h38
      have zh38 := h38
      replace h38 := AT.ev h38 ER (fun q => q.elim)
      refine d_q F rfl rfl rfl (by decide) (fun wq hS => r_indexAddr' F Try.underlying36 sz_3 rfl rfl g34.1 g34.2 e37 qqa40) ER.sb fun a F => ?_
      refine d_q F rfl rfl rfl (by decide) (fun wq hS => r_load F rfl ag_3 (AT.cell0 (AT.sb zh38 hS (fun q => q.elim)) rfl)) ER.sb fun a F => ?_
      refine d_q F rfl rfl rfl (by decide) (fun wq hS => r_move F rfl) ER.sb fun a F => ?_
      refine d_q F rfl rfl rfl (by decide) (fun wq hS => r_move F rfl) ER.sb fun a F => ?_
      replace H := ifN H
      obtain ⟨g42, H⟩ := H
      obtain ⟨ad43, cs44, e45, h46, r47⟩ := SL.at zh8 i16 g42.1 g42.2
      obtain rfl : cs44 = [.int .i64 (rd a5 i16)] := r47
      obtain ⟨qa48, qqa48⟩ : ∃ q, q = (ad43.add (i16.toNat * 1)) := ⟨_, rfl⟩
      have h46 : AT false 0 c17 w18 qa48 [.int .i64 (rd a5 i16)] := by rw [qqa48]; exact h46
      have zh46 := h46
      replace h46 := AT.ev h46 ER (fun q => q.elim)
      refine d_q F rfl rfl rfl (by decide) (fun wq hS => r_indexAddr' F Try.underlying36 sz_3 rfl rfl g42.1 g42.2 e45 qqa48) ER.sb fun a F => ?_
      refine d_q F rfl rfl rfl (by decide) (fun wq hS => r_load F rfl ag_3 (AT.cell0 (AT.sb zh46 hS (fun q => q.elim)) rfl)) ER.sb fun a F => ?_
      refine d_q F rfl rfl rfl (by decide) (fun wq hS => r_neq F rfl rfl) ER.sb fun a F => ?_
      refine d_nil ?_
      refine hK31 _ _ ?_
      replace F : Fr a 26 [(0, .slice A2 a1.length C3), (1, .slice A6 a5.length C7), (5, .int .i64 i16), (25, .bool (!decide ((rd a1 i16) = (rd a5 i16))))] := F.sub ⟨rfl, rfl, rfl, rfl, trivial⟩
      by_cases hb50 : (rd a1 i16) = (rd a5 i16)
      · replace H := (if_pos hb50).symm.trans H
        refine wp_cond_false ((F.ev rfl).trans (congrArg Value.bool (congrArg not (decide_eq_true hb50)))) ?_
        refine wp_skip ?_
        refine hK30 _ _ ?_
        refine reg ?_
        refine q_val F rfl rfl (by decide) (r_move F rfl) fun a F => ?_
        refine q_val F rfl rfl (by decide) (r_add F rfl rfl) fun a F => ?_
        refine q_val F rfl rfl (by decide) (r_assign F rfl) fun a F => ?_
        refine nil ?_
        replace H := HN20 _ (Option.some.inj H).symm
        exact hX19 _ _ _ (Nat.lt_succ_self _) ⟨(IntKind.i64.wrap (i16 + 1)), c17, F.sub ⟨rfl, rfl, rfl, trivial⟩, E, B, h4, h8, H⟩
      · replace H := (if_neg hb50).symm.trans H
        refine wp_cond_true ((F.ev rfl).trans (congrArg Value.bool (congrArg not (decide_eq_false hb50)))) ?_
        refine wp_seq_k fun K51 hK51 => ?_
        refine reg ?_
        refine q_val F rfl rfl (by decide) (r_assign F rfl) fun a F => ?_
        refine nil ?_
        refine hK51 _ _ ?_
        refine wp_ret ?_
        refine inbR ?_
        refine thenR ?_
        refine thenR ?_
        refine inbR ?_
        refine thenR ?_
        have hx_ := HD21 _ (Option.some.inj H).symm
        have H := HR25
        rw [← hx_] at H
        replace H : some false = some r := H
        replace H := Option.some.inj H
        subst H
        refine out1 F rfl rfl ?_
        exact ⟨fun b_ => (fun x_ => if x_ < m then x_ else 0) (c17 b_), rfl, E.leave B0 (fun x_ => if x_ < m then x_ else 0) (by intro x_ hx_; show (if x_ < m then x_ else 0) = x_; ((repeat' split) <;> omega)), (fun b_ hb_ => by show (if (c17 b_) < m then (c17 b_) else 0) < m; ((repeat' split) <;> omega))⟩
    · replace H := (if_neg hb29).symm.trans H
      refine wp_cond_false ((F.ev rfl).trans (congrArg Value.bool (decide_eq_false hb29))) ?_
      refine wp_exit ?_
      refine thenE ?_
      refine thenE ?_
      refine inbE ?_
      have hx_ := HD21 _ (Option.some.inj H).symm
      have H := HR25
      rw [← hx_] at H
      exact J53 c17 w18 a  (F.sub trivial) E B  H
  · replace H := (if_neg hb12).symm.trans H
    refine wp_cond_true ((F.ev rfl).trans (congrArg Value.bool (congrArg not (decide_eq_false hb12)))) ?_
    refine wp_seq_k fun K13 hK13 => ?_
    refine reg ?_
    refine q_val F rfl rfl (by decide) (r_assign F rfl) fun a F => ?_
    refine nil ?_
    refine hK13 _ _ ?_
    refine wp_ret ?_
    refine thenR ?_
    replace H := Option.some.inj H
    subst H
    refine out1 F rfl rfl ?_
    exact ⟨fun b_ => (fun x_ => if x_ < m then x_ else 0) (c0 b_), rfl, E.leave B0 (fun x_ => if x_ < m then x_ else 0) (by intro x_ hx_; show (if x_ < m then x_ else 0) = x_; ((repeat' split) <;> omega)), (fun b_ hb_ => by show (if (c0 b_) < m then (c0 b_) else 0) < m; ((repeat' split) <;> omega))⟩
end Go.Proofs.Ytdlokohmdnkdoaa.G
namespace Go.Proofs.Ytdlokohmdnkdoaa.G
open Go Go.RowKit
set_option linter.unusedVariables false
set_option linter.unusedSimpArgs false
set_option maxRecDepth 100000 in
set_option maxHeartbeats 4000000 in
theorem haulagelaw20_num.calls {m : Nat} {c0 : Nat → Nat} {w0 : World} {a1 : Int} (hm0 : 0 < m) (B0 : CB m c0 w0) (r : Int) (H : haulagelaw20_num.f a1 = some r) : Calls Try.prog 13 #[.int .i64 a1] w0 (fun e w_ => ∃ (c_ : Nat → Nat), e = .returned (.int .i64 r) ∧ Ev (fun x => False) c0 w0 c_ w_ ∧ CB m c_ w_) := by
  unfold haulagelaw20_num.f at H
  have B := B0.mono (show m ≤ m + 1 by omega)
  have E : Ev (fun x => False ∨ m ≤ x) c0 w0 c0 w0 := Ev.refl
  refine enter (N := 4) (l := [.int .i64 a1]) Try.func13 rfl rfl (Nat.le_of_ble_eq_true rfl) fun a F => ?_
  refine wp_seq_k fun K2 hK2 => ?_
  refine reg ?_
  refine q_val F rfl rfl (by decide) (r_assign F rfl) fun a F => ?_
  refine nil ?_
  refine hK2 _ _ ?_
  refine wp_seq_k fun K3 hK3 => ?_
  refine reg ?_
  refine q_val F rfl rfl (by decide) (r_move F rfl) fun a F => ?_
  refine q_val F rfl rfl (by decide) (r_assign F rfl) fun a F => ?_
  refine nil ?_
  refine hK3 _ _ ?_
  refine wp_ret ?_
  replace H := Option.some.inj H
  subst H
  refine out1 F rfl rfl ?_
  exact ⟨fun b_ => (fun x_ => if x_ < m then x_ else 0) (c0 b_), rfl, E.leave B0 (fun x_ => if x_ < m then x_ else 0) (by intro x_ hx_; show (if x_ < m then x_ else 0) = x_; ((repeat' split) <;> omega)), (fun b_ hb_ => by show (if (c0 b_) < m then (c0 b_) else 0) < m; ((repeat' split) <;> omega))⟩
end Go.Proofs.Ytdlokohmdnkdoaa.G
namespace Go.Proofs.Ytdlokohmdnkdoaa.G
open Go Go.RowKit
set_option linter.unusedVariables false
set_option linter.unusedSimpArgs false
set_option maxRecDepth 100000 in
set_option maxHeartbeats 4000000 in
theorem haulagelaw20_known.calls {m : Nat} {c0 : Nat → Nat} {w0 : World} (hm0 : 0 < m) (B0 : CB m c0 w0) (r : Bool) (H : haulagelaw20_known.f = some r) : Calls Try.prog 8 #[] w0 (fun e w_ => ∃ (c_ : Nat → Nat), e = .returned (.bool r) ∧ Ev (fun x => False) c0 w0 c_ w_ ∧ CB m c_ w_) := by
  unfold haulagelaw20_known.f at H
  have B := B0.mono (show m ≤ m + 5 by omega)
  have E : Ev (fun x => False ∨ m ≤ x) c0 w0 c0 w0 := Ev.refl
  refine enter (N := 76) (l := []) Try.func8 rfl rfl (Nat.le_of_ble_eq_true rfl) fun a F => ?_
  refine wp_seq_k fun K1 hK1 => ?_
  refine reg ?_
  refine q_val F rfl rfl (by decide) (r_assign F rfl) fun a F => ?_
  refine nil ?_
  refine hK1 _ _ ?_
  refine wp_seq_k fun K2 hK2 => ?_
  refine reg ?_
  replace H := bind_some H
  obtain ⟨t3, q4, H⟩ := H
  refine q_call F rfl rfl (by decide) (r_call F Try.func9 rfl (by kernel_rfl) rfl) (bag_New.calls (m := m + 5) (Nat.add_pos_left hm0 _) B (m + 1) (Nat.add_lt_add_left (by decide) m) (m + 2) (Nat.add_lt_add_left (by decide) m) _ q4) ?_
  rintro e w6 ⟨c5, p9, rfl, E7, B8, h10⟩
  refine ⟨_, rfl, fun a F => ?_⟩
  have B := B8
  replace E := E.trans E7 (fun x q => q.elim)
  refine q_val F rfl rfl (by decide) (r_assign F rfl) fun a F => ?_
  refine nil ?_
  refine hK2 _ _ ?_
  refine wp_seq_k fun K12 hK12 => ?_
  refine wp_seq_k fun K13 hK13 => ?_
  refine reg ?_
  refine q_val F rfl rfl (by decide) (r_move F rfl) fun a F => ?_
  refine q_val F rfl rfl (by decide) (r_peqlA F Try.underlying24 rfl rfl (BG.isNone h10)) fun a F => ?_
  refine nil ?_
  refine hK13 _ _ ?_
  by_cases hb14 : (Option.isNone t3) = true
  · replace H := (if_pos hb14).symm.trans H
    refine wp_cond_true ((F.ev rfl).trans (congrArg Value.bool hb14)) ?_
    refine wp_seq_k fun K15 hK15 => ?_
    refine reg ?_
    refine q_val F rfl rfl (by decide) (r_assign F rfl) fun a F => ?_
    refine nil ?_
    refine hK15 _ _ ?_
    refine wp_ret ?_
    refine thenR ?_
    replace H := Option.some.inj H
    subst H
    refine out1 F rfl rfl ?_
    exact ⟨fun b_ => (fun x_ => if x_ < m then x_ else 0) (c5 b_), rfl, E.leave B0 (fun x_ => if x_ < m then x_ else 0) (by intro x_ hx_; show (if x_ < m then x_ else 0) = x_; ((repeat' split) <;> omega)), (fun b_ hb_ => by show (if (c5 b_) < m then (c5 b_) else 0) < m; ((repeat' split) <;> omega))⟩
  · replace H := (if_neg hb14).symm.trans H
    refine wp_cond_false ((F.ev rfl).trans (congrArg Value.bool (bfalse hb14))) ?_
    refine wp_skip ?_
    refine hK12 _ _ ?_
    refine wp_seq_k fun K16 hK16 => ?_
    refine reg ?_
    refine q_val F rfl rfl (by decide) (r_move F rfl) fun a F => ?_
    refine q_eff F rfl rfl (by decide) (e_buildSliceF (n := 1) (e := 5) (c := c5) (k := (Kint .u8)) (i := 0) F [(0, .int .u8 97)] [.int .u8 97] ([97] : List Int) (by exact ⟨rfl, rfl, trivial⟩) (fun w => by kernel_rfl) rfl (by decide) rfl ⟨rfl, trivial⟩ (fun q => q) (m + 3)) ?_
    rintro v w19 a ⟨c18, A20, C21, rfl, E22, h23, B24, hf17⟩ F
    replace B := B24 _ B (Nat.add_lt_add_left (by decide) m)
    replace h10 := BG.ev h10 E22 (fun q => q.elim) (fun q => q.elim) (fun q => q.elim)
    replace E := E.trans E22 (fun x q => q.elim)
    refine q_eff F rfl rfl (by decide) (e_convb F Try.underlying27 Try.underlying5 rfl h23 hf17) ?_
    rintro v w25 a ⟨rfl, E26, h23, Z27⟩ F
    replace B := B.size Z27
    replace h10 := BG.ev h10 E26 (ne_mm (by decide)) (ne_mm (by decide)) ne_zm
    replace E := E.trans E26 (fun x (q : x = m + 3) => Or.inr (le_col q))
    obtain ⟨c28, hc28⟩ : ∃ c', c' = fun k => if c18 k = m + 3 then 0 else c18 k := ⟨_, rfl⟩
    replace h10 := BG.rc (c' := c28) (j' := m + 1) (i' := m + 2) h10 (fun k_ hk_ => by rw [hc28]; show (if c18 k_ = m + 3 then 0 else c18 k_) = _; rw [hk_]; ((repeat' split) <;> omega)) (fun k_ hk_ => by rw [hc28]; show (if c18 k_ = m + 3 then 0 else c18 k_) = _; rw [hk_]; ((repeat' split) <;> omega)) (fun k_ hk_ => by rw [hc28]; show (if c18 k_ = m + 3 then 0 else c18 k_) = _; rw [hk_]; ((repeat' split) <;> omega))
    replace h23 := SL.rc (c' := c28) (j' := 0) (i' := 0) h23.r (fun k_ hk_ => by rw [hc28]; show (if c18 k_ = m + 3 then 0 else c18 k_) = _; rw [hk_]; ((repeat' split) <;> omega)) (fun k_ hk_ => by rw [hc28]; show (if c18 k_ = m + 3 then 0 else c18 k_) = _; rw [hk_]; ((repeat' split) <;> omega))
    have E : Ev (fun x => False ∨ m ≤ x) c0 w0 c28 w25 := by rw [hc28]; exact E.freeze B0 (by omega)
    have B : CB (m + 5) c28 w25 := by rw [hc28]; exact B.freeze (by omega)
    replace H := bind_some H
    obtain ⟨t29, q30, H⟩ := H
    refine q_call F rfl rfl (by decide) (r_call F Try.func12 rfl (by kernel_rfl) rfl) (bag_Bag_Send.calls (m := m + 5) (Nat.add_pos_left hm0 _) B h10 h23 ⟨(Nat.add_pos_left hm0 _), (Nat.add_lt_add_left (by decide) m)⟩ ⟨(Nat.add_pos_left hm0 _), (Nat.add_lt_add_left (by decide) m), (ne_mm (by decide))⟩ _ q30) ?_
    rintro e w32 ⟨c31, rfl, E33, B34, h35⟩
    refine ⟨_, rfl, fun a F => ?_⟩
    have B := B34
    replace h23 := SL.ev h23 E33 (nor ne_zm ne_zm) (nor ne_zm ne_zm)
    replace E := E.trans E33 (fun x (q : x = m + 1 ∨ x = m + 2) => q.elim (fun q => Or.inr (le_col q)) (fun q => Or.inr (le_col q)))
    refine q_val F rfl rfl (by decide) (r_move F rfl) fun a F => ?_
    refine q_val F rfl rfl (by decide) (r_extract F rfl rfl) fun a F => ?_
    refine q_val F rfl rfl (by decide) (r_extract F rfl rfl) fun a F => ?_
    refine q_val F rfl rfl (by decide) (r_assign F rfl) fun a F => ?_
    refine q_val F rfl rfl (by decide) (r_assign F rfl) fun a F => ?_
    refine nil ?_
    refine hK16 _ _ ?_
    replace F : Fr a 76 [(1, .pointer p9), (2, .int .i64 t29.1), (3, .int .i64 t29.2.1)] := F.sub ⟨rfl, rfl, rfl, trivial⟩
    refine wp_seq_k fun K37 hK37 => ?_
    refine reg ?_
    refine q_val F rfl rfl (by decide) (r_move F rfl) fun a F => ?_
    refine q_eff F rfl rfl (by decide) (e_buildSliceF (n := 1) (e := 5) (c := c31) (k := (Kint .u8)) (i := 0) F [(0, .int .u8 98)] [.int .u8 98] ([98] : List Int) (by exact ⟨rfl, rfl, trivial⟩) (fun w => by kernel_rfl) rfl (by decide) rfl ⟨rfl, trivial⟩ (fun q => q) (m + 4)) ?_
    rintro v w40 a ⟨c39, A41, C42, rfl, E43, h44, B45, hf38⟩ F
    replace B := B45 _ B (Nat.add_lt_add_left (by decide) m)
    replace h23 := SL.ev h23 E43 (fun q => q.elim) (fun q => q.elim)
    replace h35 := BG.ev h35 E43 (fun q => q.elim) (fun q => q.elim) (fun q => q.elim)
    replace E := E.trans E43 (fun x q => q.elim)
    refine q_eff F rfl rfl (by decide) (e_convb F Try.underlying27 Try.underlying5 rfl h44 hf38) ?_
    rintro v w46 a ⟨rfl, E47, h44, Z48⟩ F
    replace B := B.size Z48
    replace h23 := SL.ev h23 E47 ne_zm ne_zm
    replace h35 := BG.ev h35 E47 (ne_mm (by decide)) (ne_mm (by decide)) ne_zm
    replace E := E.trans E47 (fun x (q : x = m + 4) => Or.inr (le_col q))
    obtain ⟨c49, hc49⟩ : ∃ c', c' = fun k => if c39 k = m + 4 then 0 else c39 k := ⟨_, rfl⟩
    replace h23 := SL.rc (c' := c49) (j' := 0) (i' := 0) h23 (fun k_ hk_ => by rw [hc49]; show (if c39 k_ = m + 4 then 0 else c39 k_) = _; rw [hk_]; ((repeat' split) <;> omega)) (fun k_ hk_ => by rw [hc49]; show (if c39 k_ = m + 4 then 0 else c39 k_) = _; rw [hk_]; ((repeat' split) <;> omega))
    replace h35 := BG.rc (c' := c49) (j' := m + 1) (i' := m + 2) h35 (fun k_ hk_ => by rw [hc49]; show (if c39 k_ = m + 4 then 0 else c39 k_) = _; rw [hk_]; ((repeat' split) <;> omega)) (fun k_ hk_ => by rw [hc49]; show (if c39 k_ = m + 4 then 0 else c39 k_) = _; rw [hk_]; ((repeat' split) <;> omega)) (fun k_ hk_ => by rw [hc49]; show (if c39 k_ = m + 4 then 0 else c39 k_) = _; rw [hk_]; ((repeat' split) <;> omega))
    replace h44 := SL.rc (c' := c49) (j' := 0) (i' := 0) h44.r (fun k_ hk_ => by rw [hc49]; show (if c39 k_ = m + 4 then 0 else c39 k_) = _; rw [hk_]; ((repeat' split) <;> omega)) (fun k_ hk_ => by rw [hc49]; show (if c39 k_ = m + 4 then 0 else c39 k_) = _; rw [hk_]; ((repeat' split) <;> omega))
    have E : Ev (fun x => False ∨ m ≤ x) c0 w0 c49 w46 := by rw [hc49]; exact E.freeze B0 (by omega)
    have B : CB (m + 5) c49 w46 := by rw [hc49]; exact B.freeze (by omega)
    replace H := bind_some H
    obtain ⟨t50, q51, H⟩ := H
    refine q_call F rfl rfl (by decide) (r_call F Try.func12 rfl (by kernel_rfl) rfl) (bag_Bag_Send.calls (m := m + 5) (Nat.add_pos_left hm0 _) B h35 h44 ⟨(Nat.add_pos_left hm0 _), (Nat.add_lt_add_left (by decide) m)⟩ ⟨(Nat.add_pos_left hm0 _), (Nat.add_lt_add_left (by decide) m), (ne_mm (by decide))⟩ _ q51) ?_
    rintro e w53 ⟨c52, rfl, E54, B55, h56⟩
    refine ⟨_, rfl, fun a F => ?_⟩
    have B := B55
    replace h23 := SL.ev h23 E54 (nor ne_zm ne_zm) (nor ne_zm ne_zm)
    replace h44 := SL.ev h44 E54 (nor ne_zm ne_zm) (nor ne_zm ne_zm)
    replace E := E.trans E54 (fun x (q : x = m + 1 ∨ x = m + 2) => q.elim (fun q => Or.inr (le_col q)) (fun q => Or.inr (le_col q)))
    refine q_val F rfl rfl (by decide) (r_move F rfl) fun a F => ?_
    refine q_val F rfl rfl (by decide) (r_extract F rfl rfl) fun a F => ?_
    refine q_val F rfl rfl (by decide) (r_extract F rfl rfl) fun a F => ?_
    refine q_val F rfl rfl (by decide) (r_assign F rfl) fun a F => ?_
    refine q_val F rfl rfl (by decide) (r_assign F rfl) fun a F => ?_
    refine nil ?_
    refine hK37 _ _ ?_
    refine wp_seq_k fun K58 hK58 => ?_
    refine reg ?_
    refine q_val F rfl rfl (by decide) (r_move F rfl) fun a F => ?_
    replace H := bind_some H
    obtain ⟨t59, q60, H⟩ := H
    refine q_call F rfl rfl (by decide) (r_call F Try.func12 rfl (by kernel_rfl) rfl) (bag_Bag_Send.calls (m := m + 5) (Nat.add_pos_left hm0 _) B h56 SL.nil ⟨(Nat.add_pos_left hm0 _), (Nat.add_lt_add_left (by decide) m)⟩ ⟨(Nat.add_pos_left hm0 _), (Nat.add_lt_add_left (by decide) m), (ne_mm (by decide))⟩ _ q60) ?_
    rintro e w62 ⟨c61, rfl, E63, B64, h65⟩
    refine ⟨_, rfl, fun a F => ?_⟩
    have B := B64
    replace h23 := SL.ev h23 E63 (nor ne_zm ne_zm) (nor ne_zm ne_zm)
    replace h44 := SL.ev h44 E63 (nor ne_zm ne_zm) (nor ne_zm ne_zm)
    replace E := E.trans E63 (fun x (q : x = m + 1 ∨ x = m + 2) => q.elim (fun q => Or.inr (le_col q)) (fun q => Or.inr (le_col q)))
    refine q_val F rfl rfl (by decide) (r_move F rfl) fun a F => ?_
    refine q_val F rfl rfl (by decide) (r_extract F rfl rfl) fun a F => ?_
    refine q_val F rfl rfl (by decide) (r_extract F rfl rfl) fun a F => ?_
    refine q_val F rfl rfl (by decide) (r_assign F rfl) fun a F => ?_
    refine q_val F rfl rfl (by decide) (r_assign F rfl) fun a F => ?_
    refine nil ?_
    refine hK58 _ _ ?_
    replace F : Fr a 76 [(1, .pointer p9), (2, .int .i64 t29.1), (3, .int .i64 t29.2.1), (4, .int .i64 t50.1), (5, .int .i64 t50.2.1), (6, .int .i64 t59.1), (7, .int .i64 t59.2.1)] := F.sub ⟨rfl, rfl, rfl, rfl, rfl, rfl, rfl, trivial⟩
    refine wp_seq_k fun K67 hK67 => ?_
    refine reg ?_
    refine q_val F rfl rfl (by decide) (r_move F rfl) fun a F => ?_
    replace H := bind_some H
    obtain ⟨t68, q69, H⟩ := H
    refine q_call F rfl rfl (by decide) (r_call F Try.func17 rfl (by kernel_rfl) rfl) (bag_Bag_Twice.calls (m := m + 5) (Nat.add_pos_left hm0 _) B h65 ⟨(Nat.add_pos_left hm0 _), (Nat.add_lt_add_left (by decide) m)⟩ ⟨(Nat.add_pos_left hm0 _), (Nat.add_lt_add_left (by decide) m), (ne_mm (by decide))⟩ _ q69) ?_
    rintro e w71 ⟨c70, rfl, E72, B73, h74⟩
    refine ⟨_, rfl, fun a F => ?_⟩
    have B := B73
    replace h23 := SL.ev h23 E72 (nor ne_zm ne_zm) (nor ne_zm ne_zm)
    replace h44 := SL.ev h44 E72 (nor ne_zm ne_zm) (nor ne_zm ne_zm)
    replace E := E.trans E72 (fun x (q : x = m + 1 ∨ x = m + 2) => q.elim (fun q => Or.inr (le_col q)) (fun q => Or.inr (le_col q)))
    refine q_val F rfl rfl (by decide) (r_move F rfl) fun a F => ?_
    refine q_val F rfl rfl (by decide) (r_extract F rfl rfl) fun a F => ?_
    refine q_val F rfl rfl (by decide) (r_extract F rfl rfl) fun a F => ?_
    refine q_val F rfl rfl (by decide) (r_assign F rfl) fun a F => ?_
    refine q_val F rfl rfl (by decide) (r_assign F rfl) fun a F => ?_
    refine nil ?_
    refine hK67 _ _ ?_
    refine wp_seq_k fun K76 hK76 => ?_
    refine reg ?_
    refine q_val F rfl rfl (by decide) (r_move F rfl) fun a F => ?_
    refine q_val F rfl rfl (by decide) (r_eql F rfl rfl) fun a F => ?_
    refine q_val F rfl rfl (by decide) (r_move F rfl) fun a F => ?_
    by_cases hb77 : t29.1 = 0
    · replace H := (if_pos hb77).symm.trans H
      refine q_yes F rfl (by decide) rfl (decide_eq_true hb77) ?_
      refine q_val F rfl rfl (by decide) (r_move F rfl) fun a F => ?_
      refine q_yes F rfl (by decide) rfl (decide_eq_true hb77) ?_
      refine q_val F rfl rfl (by decide) (r_eql F rfl rfl) fun a F => ?_
      refine q_val F rfl rfl (by decide) (r_pick_t F rfl (decide_eq_true hb77) rfl) fun a F => ?_
      refine q_val F rfl rfl (by decide) (r_move F rfl) fun a F => ?_
      by_cases hb78 : t50.1 = 1
      · replace H := (if_pos hb78).symm.trans H
        refine q_yes F rfl (by decide) rfl (decide_eq_true hb78) ?_
        refine q_val F rfl rfl (by decide) (r_move F rfl) fun a F => ?_
        refine q_yes F rfl (by decide) rfl (decide_eq_true hb78) ?_
        refine q_val F rfl rfl (by decide) (r_eql F rfl rfl) fun a F => ?_
        refine q_val F rfl rfl (by decide) (r_pick_t F rfl (decide_eq_true hb78) rfl) fun a F => ?_
        refine q_val F rfl rfl (by decide) (r_move F rfl) fun a F => ?_
        by_cases hb79 : t59.1 = 2
        · replace H := (if_pos hb79).symm.trans H
          refine q_yes F rfl (by decide) rfl (decide_eq_true hb79) ?_
          refine q_val F rfl rfl (by decide) (r_move F rfl) fun a F => ?_
          refine q_yes F rfl (by decide) rfl (decide_eq_true hb79) ?_
          refine q_val F rfl rfl (by decide) (r_eql F rfl rfl) fun a F => ?_
          refine q_val F rfl rfl (by decide) (r_pick_t F rfl (decide_eq_true hb79) rfl) fun a F => ?_
          refine q_val F rfl rfl (by decide) (r_move F rfl) fun a F => ?_
          by_cases hb80 : t68.1 = 3
          · replace H := (if_pos hb80).symm.trans H
            refine q_yes F rfl (by decide) rfl (decide_eq_true hb80) ?_
            refine q_val F rfl rfl (by decide) (r_move F rfl) fun a F => ?_
            replace H := bind_some H
            obtain ⟨t81, q82, H⟩ := H
            refine q_yes F rfl (by decide) rfl (decide_eq_true hb80) ?_
            refine q_call F rfl rfl (by decide) (r_call F Try.func13 rfl (by kernel_rfl) rfl) (haulagelaw20_num.calls (m := m + 5) (Nat.add_pos_left hm0 _) B _ q82) ?_
            rintro e w84 ⟨c83, rfl, E85, B86⟩
            refine ⟨_, rfl, fun a F => ?_⟩
            have B := B86
            replace h23 := SL.ev h23 E85 (fun q => q.elim) (fun q => q.elim)
            replace h44 := SL.ev h44 E85 (fun q => q.elim) (fun q => q.elim)
            replace h74 := BG.ev h74 E85 (fun q => q.elim) (fun q => q.elim) (fun q => q.elim)
            replace E := E.trans E85 (fun x q => q.elim)
            refine q_yes F rfl (by decide) rfl (decide_eq_true hb80) ?_
            refine q_val F rfl rfl (by decide) (r_eql F rfl rfl) fun a F => ?_
            refine q_val F rfl rfl (by decide) (r_pick_t F rfl (decide_eq_true hb80) rfl) fun a F => ?_
            refine q_val F rfl rfl (by decide) (r_move F rfl) fun a F => ?_
            by_cases hb88 : t81 = 0
            · replace H := (if_pos hb88).symm.trans H
              refine q_yes F rfl (by decide) rfl (decide_eq_true hb88) ?_
              refine q_val F rfl rfl (by decide) (r_move F rfl) fun a F => ?_
              replace H := bind_some H
              obtain ⟨t89, q90, H⟩ := H
              refine q_yes F rfl (by decide) rfl (decide_eq_true hb88) ?_
              refine q_call F rfl rfl (by decide) (r_call F Try.func13 rfl (by kernel_rfl) rfl) (haulagelaw20_num.calls (m := m + 5) (Nat.add_pos_left hm0 _) B _ q90) ?_
              rintro e w92 ⟨c91, rfl, E93, B94⟩
              refine ⟨_, rfl, fun a F => ?_⟩
              have B := B94
              replace h23 := SL.ev h23 E93 (fun q => q.elim) (fun q => q.elim)
              replace h44 := SL.ev h44 E93 (fun q => q.elim) (fun q => q.elim)
              replace h74 := BG.ev h74 E93 (fun q => q.elim) (fun q => q.elim) (fun q => q.elim)
              replace E := E.trans E93 (fun x q => q.elim)
              refine q_yes F rfl (by decide) rfl (decide_eq_true hb88) ?_
              refine q_val F rfl rfl (by decide) (r_eql F rfl rfl) fun a F => ?_
              refine q_val F rfl rfl (by decide) (r_pick_t F rfl (decide_eq_true hb88) rfl) fun a F => ?_
              refine q_val F rfl rfl (by decide) (r_move F rfl) fun a F => ?_
              by_cases hb96 : t89 = 0
              · replace H := (if_pos hb96).symm.trans H
                refine q_yes F rfl (by decide) rfl (decide_eq_true hb96) ?_
                refine q_val F rfl rfl (by decide) (r_move F rfl) fun a F => ?_
                replace H := bind_some H
                obtain ⟨t97, q98, H⟩ := H
                refine q_yes F rfl (by decide) rfl (decide_eq_true hb96) ?_
                refine q_call F rfl rfl (by decide) (r_call F Try.func13 rfl (by kernel_rfl) rfl) (haulagelaw20_num.calls (m := m + 5) (Nat.add_pos_left hm0 _) B _ q98) ?_
                rintro e w100 ⟨c99, rfl, E101, B102⟩
                refine ⟨_, rfl, fun a F => ?_⟩
                have B := B102
                replace h23 := SL.ev h23 E101 (fun q => q.elim) (fun q => q.elim)
                replace h44 := SL.ev h44 E101 (fun q => q.elim) (fun q => q.elim)
                replace h74 := BG.ev h74 E101 (fun q => q.elim) (fun q => q.elim) (fun q => q.elim)
                replace E := E.trans E101 (fun x q => q.elim)
                refine q_yes F rfl (by decide) rfl (decide_eq_true hb96) ?_
                refine q_val F rfl rfl (by decide) (r_eql F rfl rfl) fun a F => ?_
                refine q_val F rfl rfl (by decide) (r_pick_t F rfl (decide_eq_true hb96) rfl) fun a F => ?_
                refine q_val F rfl rfl (by decide) (r_move F rfl) fun a F => ?_
                by_cases hb104 : t97 = 0
                · replace H := (if_pos hb104).symm.trans H
                  refine q_yes F rfl (by decide) rfl (decide_eq_true hb104) ?_
                  refine q_val F rfl rfl (by decide) (r_move F rfl) fun a F => ?_
                  replace H := bind_some H
                  obtain ⟨t105, q106, H⟩ := H
                  refine q_yes F rfl (by decide) rfl (decide_eq_true hb104) ?_
                  refine q_call F rfl rfl (by decide) (r_call F Try.func13 rfl (by kernel_rfl) rfl) (haulagelaw20_num.calls (m := m + 5) (Nat.add_pos_left hm0 _) B _ q106) ?_
                  rintro e w108 ⟨c107, rfl, E109, B110⟩
                  refine ⟨_, rfl, fun a F => ?_⟩
                  have B := B110
                  replace h23 := SL.ev h23 E109 (fun q => q.elim) (fun q => q.elim)
                  replace h44 := SL.ev h44 E109 (fun q => q.elim) (fun q => q.elim)
                  replace h74 := BG.ev h74 E109 (fun q => q.elim) (fun q => q.elim) (fun q => q.elim)
                  replace E := E.trans E109 (fun x q => q.elim)
                  refine q_yes F rfl (by decide) rfl (decide_eq_true hb104) ?_
                  refine q_val F rfl rfl (by decide) (r_eql F rfl rfl) fun a F => ?_
                  refine q_val F rfl rfl (by decide) (r_pick_t F rfl (decide_eq_true hb104) rfl) fun a F => ?_
                  refine q_val F rfl rfl (by decide) (r_move F rfl) fun a F => ?_
                  by_cases hb112 : t105 = 0
                  · replace H := (if_pos hb112).symm.trans H
                    refine q_yes F rfl (by decide) rfl (decide_eq_true hb112) ?_
                    refine q_val F rfl rfl (by decide) (r_move F rfl) fun a F => ?_
                    replace H := bind_some H
                    obtain ⟨t113, q114, H⟩ := H
                    refine q_yes F rfl (by decide) rfl (decide_eq_true hb112) ?_
                    refine q_call F rfl rfl (by decide) (r_call F Try.func10 rfl (by kernel_rfl) rfl) (bag_Bag_Len.calls (m := m + 5) (Nat.add_pos_left hm0 _) B h74 (Nat.add_lt_add_left (by decide) m) ⟨(Nat.add_lt_add_left (by decide) m), (ne_mm (by decide))⟩ _ q114) ?_
                    rintro e w116 ⟨c115, rfl, E117, B118⟩
                    refine ⟨_, rfl, fun a F => ?_⟩
                    have B := B118
                    replace h23 := SL.ev h23 E117 (fun q => q.elim) (fun q => q.elim)
                    replace h44 := SL.ev h44 E117 (fun q => q.elim) (fun q => q.elim)
                    replace h74 := BG.ev h74 E117 (fun q => q.elim) (fun q => q.elim) (fun q => q.elim)
                    replace E := E.trans E117 (fun x q => q.elim)
                    refine q_yes F rfl (by decide) rfl (decide_eq_true hb112) ?_
                    refine q_val F rfl rfl (by decide) (r_eql F rfl rfl) fun a F => ?_
                    refine q_val F rfl rfl (by decide) (r_pick_t F rfl (decide_eq_true hb112) rfl) fun a F => ?_
                    refine q_val F rfl rfl (by decide) (r_assign F rfl) fun a F => ?_
                    refine nil ?_
                    refine hK76 _ _ ?_
                    replace F : Fr a 76 [(0, .bool (decide (t113 = 4)))] := F.sub ⟨rfl, trivial⟩
                    refine wp_ret ?_
                    replace H := Option.some.inj H
                    subst H
                    refine out1 F rfl rfl ?_
                    exact ⟨fun b_ => (fun x_ => if x_ < m then x_ else 0) (c115 b_), rfl, E.leave B0 (fun x_ => if x_ < m then x_ else 0) (by intro x_ hx_; show (if x_ < m then x_ else 0) = x_; ((repeat' split) <;> omega)), (fun b_ hb_ => by show (if (c115 b_) < m then (c115 b_) else 0) < m; ((repeat' split) <;> omega))⟩
                  · replace H := (if_neg hb112).symm.trans H
                    refine q_no F rfl (by decide) rfl (decide_eq_false hb112) (by decide) fun a F => ?_
                    refine q_no F rfl (by decide) rfl (decide_eq_false hb112) (by decide) fun a F => ?_
                    refine q_no F rfl (by decide) rfl (decide_eq_false hb112) (by decide) fun a F => ?_
                    refine q_val F rfl rfl (by decide) (r_pick_f F rfl (decide_eq_false hb112) rfl) fun a F => ?_
                    refine q_val F rfl rfl (by decide) (r_assign F rfl) fun a F => ?_
                    refine nil ?_
                    refine hK76 _ _ ?_
                    replace F : Fr a 76 [(0, .bool false)] := F.sub ⟨rfl, trivial⟩
                    refine wp_ret ?_
                    replace H := Option.some.inj H
                    subst H
                    refine out1 F rfl rfl ?_
                    exact ⟨fun b_ => (fun x_ => if x_ < m then x_ else 0) (c107 b_), rfl, E.leave B0 (fun x_ => if x_ < m then x_ else 0) (by intro x_ hx_; show (if x_ < m then x_ else 0) = x_; ((repeat' split) <;> omega)), (fun b_ hb_ => by show (if (c107 b_) < m then (c107 b_) else 0) < m; ((repeat' split) <;> omega))⟩
                · replace H := (if_neg hb104).symm.trans H
                  refine q_no F rfl (by decide) rfl (decide_eq_false hb104) (by decide) fun a F => ?_
                  refine q_no F rfl (by decide) rfl (decide_eq_false hb104) (by decide) fun a F => ?_
                  refine q_no F rfl (by decide) rfl (decide_eq_false hb104) (by decide) fun a F => ?_
                  refine q_val F rfl rfl (by decide) (r_pick_f F rfl (decide_eq_false hb104) rfl) fun a F => ?_
                  refine q_val F rfl rfl (by decide) (r_move F rfl) fun a F => ?_
                  refine q_no F rfl (by decide) rfl rfl (by decide) fun a F => ?_
                  refine q_no F rfl (by decide) rfl rfl (by decide) fun a F => ?_
                  refine q_no F rfl (by decide) rfl rfl (by decide) fun a F => ?_
                  refine q_val F rfl rfl (by decide) (r_pick_f F rfl rfl rfl) fun a F => ?_
                  refine q_val F rfl rfl (by decide) (r_assign F rfl) fun a F => ?_
                  refine nil ?_
                  refine hK76 _ _ ?_
                  replace F : Fr a 76 [(0, .bool false)] := F.sub ⟨rfl, trivial⟩
                  refine wp_ret ?_
                  replace H := Option.some.inj H
                  subst H
                  refine out1 F rfl rfl ?_
                  exact ⟨fun b_ => (fun x_ => if x_ < m then x_ else 0) (c99 b_), rfl, E.leave B0 (fun x_ => if x_ < m then x_ else 0) (by intro x_ hx_; show (if x_ < m then x_ else 0) = x_; ((repeat' split) <;> omega)), (fun b_ hb_ => by show (if (c99 b_) < m then (c99 b_) else 0) < m; ((repeat' split) <;> omega))⟩
              · replace H := (if_neg hb96).symm.trans H
                refine q_no F rfl (by decide) rfl (decide_eq_false hb96) (by decide) fun a F => ?_
                refine q_no F rfl (by decide) rfl (decide_eq_false hb96) (by decide) fun a F => ?_
                refine q_no F rfl (by decide) rfl (decide_eq_false hb96) (by decide) fun a F => ?_
                refine q_val F rfl rfl (by decide) (r_pick_f F rfl (decide_eq_false hb96) rfl) fun a F => ?_
                refine q_val F rfl rfl (by decide) (r_move F rfl) fun a F => ?_
                refine q_no F rfl (by decide) rfl rfl (by decide) fun a F => ?_
                refine q_no F rfl (by decide) rfl rfl (by decide) fun a F => ?_
                refine q_no F rfl (by decide) rfl rfl (by decide) fun a F => ?_
                refine q_val F rfl rfl (by decide) (r_pick_f F rfl rfl rfl) fun a F => ?_
                refine q_val F rfl rfl (by decide) (r_move F rfl) fun a F => ?_
                refine q_no F rfl (by decide) rfl rfl (by decide) fun a F => ?_
                refine q_no F rfl (by decide) rfl rfl (by decide) fun a F => ?_
                refine q_no F rfl (by decide) rfl rfl (by decide) fun a F => ?_
                refine q_val F rfl rfl (by decide) (r_pick_f F rfl rfl rfl) fun a F => ?_
                refine q_val F rfl rfl (by decide) (r_assign F rfl) fun a F => ?_
                refine nil ?_
                refine hK76 _ _ ?_
                replace F : Fr a 76 [(0, .bool false)] := F.sub ⟨rfl, trivial⟩
                refine wp_ret ?_
                replace H := Option.some.inj H
                subst H
                refine out1 F rfl rfl ?_
                exact ⟨fun b_ => (fun x_ => if x_ < m then x_ else 0) (c91 b_), rfl, E.leave B0 (fun x_ => if x_ < m then x_ else 0) (by intro x_ hx_; show (if x_ < m then x_ else 0) = x_; ((repeat' split) <;> omega)), (fun b_ hb_ => by show (if (c91 b_) < m then (c91 b_) else 0) < m; ((repeat' split) <;> omega))⟩
            · replace H := (if_neg hb88).symm.trans H
              refine q_no F rfl (by decide) rfl (decide_eq_false hb88) (by decide) fun a F => ?_
              refine q_no F rfl (by decide) rfl (decide_eq_false hb88) (by decide) fun a F => ?_
              refine q_no F rfl (by decide) rfl (decide_eq_false hb88) (by decide) fun a F => ?_
              refine q_val F rfl rfl (by decide) (r_pick_f F rfl (decide_eq_false hb88) rfl) fun a F => ?_
              refine q_val F rfl rfl (by decide) (r_move F rfl) fun a F => ?_
              refine q_no F rfl (by decide) rfl rfl (by decide) fun a F => ?_
              refine q_no F rfl (by decide) rfl rfl (by decide) fun a F => ?_
              refine q_no F rfl (by decide) rfl rfl (by decide) fun a F => ?_
              refine q_val F rfl rfl (by decide) (r_pick_f F rfl rfl rfl) fun a F => ?_
              refine q_val F rfl rfl (by decide) (r_move F rfl) fun a F => ?_
              refine q_no F rfl (by decide) rfl rfl (by decide) fun a F => ?_
              refine q_no F rfl (by decide) rfl rfl (by decide) fun a F => ?_
              refine q_no F rfl (by decide) rfl rfl (by decide) fun a F => ?_
              refine q_val F rfl rfl (by decide) (r_pick_f F rfl rfl rfl) fun a F => ?_
              refine q_val F rfl rfl (by decide) (r_move F rfl) fun a F => ?_
              refine q_no F rfl (by decide) rfl rfl (by decide) fun a F => ?_
              refine q_no F rfl (by decide) rfl rfl (by decide) fun a F => ?_
              refine q_no F rfl (by decide) rfl rfl (by decide) fun a F => ?_
              refine q_val F rfl rfl (by decide) (r_pick_f F rfl rfl rfl) fun a F => ?_
              refine q_val F rfl rfl (by decide) (r_assign F rfl) fun a F => ?_
              refine nil ?_
              refine hK76 _ _ ?_
              replace F : Fr a 76 [(0, .bool false)] := F.sub ⟨rfl, trivial⟩
              refine wp_ret ?_
              replace H := Option.some.inj H
              subst H
              refine out1 F rfl rfl ?_
              exact ⟨fun b_ => (fun x_ => if x_ < m then x_ else 0) (c83 b_), rfl, E.leave B0 (fun x_ => if x_ < m then x_ else 0) (by intro x_ hx_; show (if x_ < m then x_ else 0) = x_; ((repeat' split) <;> omega)), (fun b_ hb_ => by show (if (c83 b_) < m then (c83 b_) else 0) < m; ((repeat' split) <;> omega))⟩
          · replace H := (if_neg hb80).symm.trans H
            refine q_no F rfl (by decide) rfl (decide_eq_false hb80) (by decide) fun a F => ?_
            refine q_no F rfl (by decide) rfl (decide_eq_false hb80) (by decide) fun a F => ?_
            refine q_no F rfl (by decide) rfl (decide_eq_false hb80) (by decide) fun a F => ?_
            refine q_val F rfl rfl (by decide) (r_pick_f F rfl (decide_eq_false hb80) rfl) fun a F => ?_
            refine q_val F rfl rfl (by decide) (r_move F rfl) fun a F => ?_
            refine q_no F rfl (by decide) rfl rfl (by decide) fun a F => ?_
            refine q_no F rfl (by decide) rfl rfl (by decide) fun a F => ?_
            refine q_no F rfl (by decide) rfl rfl (by decide) fun a F => ?_
            refine q_val F rfl rfl (by decide) (r_pick_f F rfl rfl rfl) fun a F => ?_
            refine q_val F rfl rfl (by decide) (r_move F rfl) fun a F => ?_
            refine q_no F rfl (by decide) rfl rfl (by decide) fun a F => ?_
            refine q_no F rfl (by decide) rfl rfl (by decide) fun a F => ?_
            refine q_no F rfl (by decide) rfl rfl (by decide) fun a F => ?_
            refine q_val F rfl rfl (by decide) (r_pick_f F rfl rfl rfl) fun a F => ?_
            refine q_val F rfl rfl (by decide) (r_move F rfl) fun a F => ?_
            refine q_no F rfl (by decide) rfl rfl (by decide) fun a F => ?_
            refine q_no F rfl (by decide) rfl rfl (by decide) fun a F => ?_
            refine q_no F rfl (by decide) rfl rfl (by decide) fun a F => ?_
            refine q_val F rfl rfl (by decide) (r_pick_f F rfl rfl rfl) fun a F => ?_
            refine q_val F rfl rfl (by decide) (r_move F rfl) fun a F => ?_
            refine q_no F rfl (by decide) rfl rfl (by decide) fun a F => ?_
            refine q_no F rfl (by decide) rfl rfl (by decide) fun a F => ?_
            refine q_no F rfl (by decide) rfl rfl (by decide) fun a F => ?_
            refine q_val F rfl rfl (by decide) (r_pick_f F rfl rfl rfl) fun a F => ?_
            refine q_val F rfl rfl (by decide) (r_assign F rfl) fun a F => ?_
            refine nil ?_
            refine hK76 _ _ ?_
            replace F : Fr a 76 [(0, .bool false)] := F.sub ⟨rfl, trivial⟩
            refine wp_ret ?_
            replace H := Option.some.inj H
            subst H
            refine out1 F rfl rfl ?_
            exact ⟨fun b_ => (fun x_ => if x_ < m then x_ else 0) (c70 b_), rfl, E.leave B0 (fun x_ => if x_ < m then x_ else 0) (by intro x_ hx_; show (if x_ < m then x_ else 0) = x_; ((repeat' split) <;> omega)), (fun b_ hb_ => by show (if (c70 b_) < m then (c70 b_) else 0) < m; ((repeat' split) <;> omega))⟩
        · replace H := (if_neg hb79).symm.trans H
          refine q_no F rfl (by decide) rfl (decide_eq_false hb79) (by decide) fun a F => ?_
          refine q_no F rfl (by decide) rfl (decide_eq_false hb79) (by decide) fun a F => ?_
          refine q_val F rfl rfl (by decide) (r_pick_f F rfl (decide_eq_false hb79) rfl) fun a F => ?_
          refine q_val F rfl rfl (by decide) (r_move F rfl) fun a F => ?_
          refine q_no F rfl (by decide) rfl rfl (by decide) fun a F => ?_
          refine q_no F rfl (by decide) rfl rfl (by decide) fun a F => ?_
          refine q_no F rfl (by decide) rfl rfl (by decide) fun a F => ?_
          refine q_val F rfl rfl (by decide) (r_pick_f F rfl rfl rfl) fun a F => ?_
          refine q_val F rfl rfl (by decide) (r_move F rfl) fun a F => ?_
          refine q_no F rfl (by decide) rfl rfl (by decide) fun a F => ?_
          refine q_no F rfl (by decide) rfl rfl (by decide) fun a F => ?_
          refine q_no F rfl (by decide) rfl rfl (by decide) fun a F => ?_
          refine q_val F rfl rfl (by decide) (r_pick_f F rfl rfl rfl) fun a F => ?_
          refine q_val F rfl rfl (by decide) (r_move F rfl) fun a F => ?_
          refine q_no F rfl (by decide) rfl rfl (by decide) fun a F => ?_
          refine q_no F rfl (by decide) rfl rfl (by decide) fun a F => ?_
          refine q_no F rfl (by decide) rfl rfl (by decide) fun a F => ?_
          refine q_val F rfl rfl (by decide) (r_pick_f F rfl rfl rfl) fun a F => ?_
          refine q_val F rfl rfl (by decide) (r_move F rfl) fun a F => ?_
          refine q_no F rfl (by decide) rfl rfl (by decide) fun a F => ?_
          refine q_no F rfl (by decide) rfl rfl (by decide) fun a F => ?_
          refine q_no F rfl (by decide) rfl rfl (by decide) fun a F => ?_
          refine q_val F rfl rfl (by decide) (r_pick_f F rfl rfl rfl) fun a F => ?_
          refine q_val F rfl rfl (by decide) (r_move F rfl) fun a F => ?_
          refine q_no F rfl (by decide) rfl rfl (by decide) fun a F => ?_
          refine q_no F rfl (by decide) rfl rfl (by decide) fun a F => ?_
          refine q_no F rfl (by decide) rfl rfl (by decide) fun a F => ?_
          refine q_val F rfl rfl (by decide) (r_pick_f F rfl rfl rfl) fun a F => ?_
          refine q_val F rfl rfl (by decide) (r_assign F rfl) fun a F => ?_
          refine nil ?_
          refine hK76 _ _ ?_
          replace F : Fr a 76 [(0, .bool false)] := F.sub ⟨rfl, trivial⟩
          refine wp_ret ?_
          replace H := Option.some.inj H
          subst H
          refine out1 F rfl rfl ?_
          exact ⟨fun b_ => (fun x_ => if x_ < m then x_ else 0) (c70 b_), rfl, E.leave B0 (fun x_ => if x_ < m then x_ else 0) (by intro x_ hx_; show (if x_ < m then x_ else 0) = x_; ((repeat' split) <;> omega)), (fun b_ hb_ => by show (if (c70 b_) < m then (c70 b_) else 0) < m; ((repeat' split) <;> omega))⟩
      · replace H := (if_neg hb78).symm.trans H
        refine q_no F rfl (by decide) rfl (decide_eq_false hb78) (by decide) fun a F => ?_
        refine q_no F rfl (by decide) rfl (decide_eq_false hb78) (by decide) fun a F => ?_
        refine q_val F rfl rfl (by decide) (r_pick_f F rfl (decide_eq_false hb78) rfl) fun a F => ?_
        refine q_val F rfl rfl (by decide) (r_move F rfl) fun a F => ?_
        refine q_no F rfl (by decide) rfl rfl (by decide) fun a F => ?_
        refine q_no F rfl (by decide) rfl rfl (by decide) fun a F => ?_
        refine q_val F rfl rfl (by decide) (r_pick_f F rfl rfl rfl) fun a F => ?_
        refine q_val F rfl rfl (by decide) (r_move F rfl) fun a F => ?_
        refine q_no F rfl (by decide) rfl rfl (by decide) fun a F => ?_
        refine q_no F rfl (by decide) rfl rfl (by decide) fun a F => ?_
        refine q_no F rfl (by decide) rfl rfl (by decide) fun a F => ?_
        refine q_val F rfl rfl (by decide) (r_pick_f F rfl rfl rfl) fun a F => ?_
        refine q_val F rfl rfl (by decide) (r_move F rfl) fun a F => ?_
        refine q_no F rfl (by decide) rfl rfl (by decide) fun a F => ?_
        refine q_no F rfl (by decide) rfl rfl (by decide) fun a F => ?_
        refine q_no F rfl (by decide) rfl rfl (by decide) fun a F => ?_
        refine q_val F rfl rfl (by decide) (r_pick_f F rfl rfl rfl) fun a F => ?_
        refine q_val F rfl rfl (by decide) (r_move F rfl) fun a F => ?_
        refine q_no F rfl (by decide) rfl rfl (by decide) fun a F => ?_
        refine q_no F rfl (by decide) rfl rfl (by decide) fun a F => ?_
        refine q_no F rfl (by decide) rfl rfl (by decide) fun a F => ?_
        refine q_val F rfl rfl (by decide) (r_pick_f F rfl rfl rfl) fun a F => ?_
        refine q_val F rfl rfl (by decide) (r_move F rfl) fun a F => ?_
        refine q_no F rfl (by decide) rfl rfl (by decide) fun a F => ?_
        refine q_no F rfl (by decide) rfl rfl (by decide) fun a F => ?_
        refine q_no F rfl (by decide) rfl rfl (by decide) fun a F => ?_
        refine q_val F rfl rfl (by decide) (r_pick_f F rfl rfl rfl) fun a F => ?_
        refine q_val F rfl rfl (by decide) (r_move F rfl) fun a F => ?_
        refine q_no F rfl (by decide) rfl rfl (by decide) fun a F => ?_
        refine q_no F rfl (by decide) rfl rfl (by decide) fun a F => ?_
        refine q_no F rfl (by decide) rfl rfl (by decide) fun a F => ?_
        refine q_val F rfl rfl (by decide) (r_pick_f F rfl rfl rfl) fun a F => ?_
        refine q_val F rfl rfl (by decide) (r_assign F rfl) fun a F => ?_
        refine nil ?_
        refine hK76 _ _ ?_
        replace F : Fr a 76 [(0, .bool false)] := F.sub ⟨rfl, trivial⟩
        refine wp_ret ?_
        replace H := Option.some.inj H
        subst H
        refine out1 F rfl rfl ?_
        exact ⟨fun b_ => (fun x_ => if x_ < m then x_ else 0) (c70 b_), rfl, E.leave B0 (fun x_ => if x_ < m then x_ else 0) (by intro x_ hx_; show (if x_ < m then x_ else 0) = x_; ((repeat' split) <;> omega)), (fun b_ hb_ => by show (if (c70 b_) < m then (c70 b_) else 0) < m; ((repeat' split) <;> omega))⟩
    · replace H := (if_neg hb77).symm.trans H
      refine q_no F rfl (by decide) rfl (decide_eq_false hb77) (by decide) fun a F => ?_
      refine q_no F rfl (by decide) rfl (decide_eq_false hb77) (by decide) fun a F => ?_
      refine q_val F rfl rfl (by decide) (r_pick_f F rfl (decide_eq_false hb77) rfl) fun a F => ?_
      refine q_val F rfl rfl (by decide) (r_move F rfl) fun a F => ?_
      refine q_no F rfl (by decide) rfl rfl (by decide) fun a F => ?_
      refine q_no F rfl (by decide) rfl rfl (by decide) fun a F => ?_
      refine q_val F rfl rfl (by decide) (r_pick_f F rfl rfl rfl) fun a F => ?_
      refine q_val F rfl rfl (by decide) (r_move F rfl) fun a F => ?_
      refine q_no F rfl (by decide) rfl rfl (by decide) fun a F => ?_
      refine q_no F rfl (by decide) rfl rfl (by decide) fun a F => ?_
      refine q_val F rfl rfl (by decide) (r_pick_f F rfl rfl rfl) fun a F => ?_
      refine q_val F rfl rfl (by decide) (r_move F rfl) fun a F => ?_
      refine q_no F rfl (by decide) rfl rfl (by decide) fun a F => ?_
      refine q_no F rfl (by decide) rfl rfl (by decide) fun a F => ?_
      refine q_no F rfl (by decide) rfl rfl (by decide) fun a F => ?_
      refine q_val F rfl rfl (by decide) (r_pick_f F rfl rfl rfl) fun a F => ?_
      refine q_val F rfl rfl (by decide) (r_move F rfl) fun a F => ?_
      refine q_no F rfl (by decide) rfl rfl (by decide) fun a F => ?_
      refine q_no F rfl (by decide) rfl rfl (by decide) fun a F => ?_
      refine q_no F rfl (by decide) rfl rfl (by decide) fun a F => ?_
      refine q_val F rfl rfl (by decide) (r_pick_f F rfl rfl rfl) fun a F => ?_
      refine q_val F rfl rfl (by decide) (r_move F rfl) fun a F => ?_
      refine q_no F rfl (by decide) rfl rfl (by decide) fun a F => ?_
      refine q_no F rfl (by decide) rfl rfl (by decide) fun a F => ?_
      refine q_no F rfl (by decide) rfl rfl (by decide) fun a F => ?_
      refine q_val F rfl rfl (by decide) (r_pick_f F rfl rfl rfl) fun a F => ?_
      refine q_val F rfl rfl (by decide) (r_move F rfl) fun a F => ?_
      refine q_no F rfl (by decide) rfl rfl (by decide) fun a F => ?_
      refine q_no F rfl (by decide) rfl rfl (by decide) fun a F => ?_
      refine q_no F rfl (by decide) rfl rfl (by decide) fun a F => ?_
      refine q_val F rfl rfl (by decide) (r_pick_f F rfl rfl rfl) fun a F => ?_
      refine q_val F rfl rfl (by decide) (r_move F rfl) fun a F => ?_
      refine q_no F rfl (by decide) rfl rfl (by decide) fun a F => ?_
      refine q_no F rfl (by decide) rfl rfl (by decide) fun a F => ?_
      refine q_no F rfl (by decide) rfl rfl (by decide) fun a F => ?_
      refine q_val F rfl rfl (by decide) (r_pick_f F rfl rfl rfl) fun a F => ?_
      refine q_val F rfl rfl (by decide) (r_assign F rfl) fun a F => ?_
      refine nil ?_
      refine hK76 _ _ ?_
      replace F : Fr a 76 [(0, .bool false)] := F.sub ⟨rfl, trivial⟩
      refine wp_ret ?_
      replace H := Option.some.inj H
      subst H
      refine out1 F rfl rfl ?_
      exact ⟨fun b_ => (fun x_ => if x_ < m then x_ else 0) (c70 b_), rfl, E.leave B0 (fun x_ => if x_ < m then x_ else 0) (by intro x_ hx_; show (if x_ < m then x_ else 0) = x_; ((repeat' split) <;> omega)), (fun b_ hb_ => by show (if (c70 b_) < m then (c70 b_) else 0) < m; ((repeat' split) <;> omega))⟩
end Go.Proofs.Ytdlokohmdnkdoaa.G
