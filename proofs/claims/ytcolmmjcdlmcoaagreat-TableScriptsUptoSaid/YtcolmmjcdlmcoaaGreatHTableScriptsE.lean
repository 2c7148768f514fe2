/- Words and laws on which the row of 'TableScripts' hangs (its '..UptoSaid': bulk at most 1048576). -/
import Derived.Test.YtcolmmjcdlmcoaaGreatHTableScriptsB
import Derived.Laws.Panics
import Derived.Recover
import Derived.WideLaws
import Derived.Test.YtcolmmjcdlmcoaaGreatHTableScriptsC
import Derived.Test.YtcolmmjcdlmcoaaGreatHTableScriptsD
import Derived.Test.YtcolmmjcdlmcoaaGreatHTableScriptsA
import Derived.Test.YtcolmmjcdlmcoaaGreatRows
import Derived.Deep.Slices
import Derived.ChangeArms
import Derived.KernelRfl
import Derived.Laws.OwnMore
import Derived.Laws.Strings
namespace Go.Proofs.YtcolmmjcdlmcoaaGreat.G
open Go Go.RowKit
set_option linter.unusedVariables false
set_option linter.unusedSimpArgs false
section
variable {P : Program} {ops : Array Oper} {Q : Exit → Act → World → Prop} {a : Act} {N : Nat} {L : List (Nat × Value)} {D : List Deferred} {w w' : World} {v : Value} {rest : List Oper} {o : Oper} {d : Nat}
theorem preg {id : Nat} {l : List Oper} (h : wpList P l.toArray Q l a w) : (Code.region id l.toArray false).wp P Q a w := wp_region_lit h
theorem pnil (h : Q .normal a w) : wpList P ops Q [] a w := h
theorem p_upon (hg : o.guard = none) {r : Result Next} (hr : (execOp a.eval o).run P w = r) (h : o.upon P a (wpList P ops Q rest) Q r) : wpList P ops Q (o :: rest) a w := by
 unfold wpList; rw [if_pos (by simp [Region.wanted, hg])]
 left; show o.upon P a _ Q _; rw [hr]; exact h
theorem p_val (F : Fr a N L D) (hg : o.guard = none) (hd : o.dst = some d) (hN : d < N) (hr : (execOp a.eval o).run P w = .ok (.value v) w')
  (k : ∀ a', Fr a' N ((d, v) :: L) D → wpList P ops Q rest a' w') : wpList P ops Q (o :: rest) a w :=
 p_upon hg hr (by show wpList P ops Q rest (a.put o.dst v) w'; rw [hd]; exact k _ (F.put v hN))
theorem p_skip (F : Fr a N L D) (hg : o.guard = none) (hd : o.dst = none) (hr : (execOp a.eval o).run P w = .ok .skip w')
  (k : ∀ a', Fr a' N L D → wpList P ops Q rest a' w') : wpList P ops Q (o :: rest) a w :=
 p_upon hg hr (by show wpList P ops Q rest (a.put o.dst undef) w'; rw [hd]; exact k _ F)
theorem p_eff0 {R0 : World → Prop} (F : Fr a N L D) (hg : o.guard = none) (hd : o.dst = none) (h : ∃ w', (execOp a.eval o).run P w = .ok .skip w' ∧ R0 w')
  (k : ∀ w' a', R0 w' → Fr a' N L D → wpList P ops Q rest a' w') : wpList P ops Q (o :: rest) a w := by
 obtain ⟨w', hr, hR⟩ := h; exact p_skip F hg hd hr fun a' F' => k w' a' hR F'
theorem p_call (F : Fr a N L D) (hg : o.guard = none) (hd : o.dst = some d) (hN : d < N) {f : FuncId} {args : Array Value} {R : Ending → World → Prop} (hr : (execOp a.eval o).run P w = .ok (.enter f args) w) (hc : Calls P f args w R)
  (k : ∀ e w', R e w' → (∃ v, e = .returned v ∧ ∀ a', Fr a' N ((d, v) :: L) D → wpList P ops Q rest a' w') ∨ (∃ ch, e = .panicked ch ∧ ∀ a', Fr a' N L D → Q (.panic ch) a' w')) : wpList P ops Q (o :: rest) a w :=
 p_upon hg hr (hc.mono fun e w' hR => by
  rcases k e w' hR with ⟨v, rfl, hk⟩ | ⟨ch, rfl, hk⟩
  ·show wpList P ops Q rest (a.put o.dst v) w'; rw [hd]; exact hk _ (F.put v hN)
  ·exact hk _ F)
theorem p_halt (F : Fr a N L D) (hg : o.guard = none) (hr : (execOp a.eval o).run P w = .halt (.panic v) w') (k : ∀ a', Fr a' N L D → Q (.panic [{ v, recovered := false }]) a' w') : wpList P ops Q (o :: rest) a w :=
 p_upon hg hr (k _ F)
theorem thenP {K : Act → World → Prop} {ch : List PanicEntry} (h : Q (.panic ch) a w) : Exit.then K Q (.panic ch) a w := h
theorem inbP {id : Nat} {ch : List PanicEntry} (h : Q (.panic ch) a w) : Exit.inBlock id Q (.panic ch) a w := h
theorem outP {fn : Func} {R : Ending → World → Prop} {ch : List PanicEntry} (F : Fr a N L) (h : R (.panicked ch) w) : bodyPost P fn R (.panic ch) a w := ⟨F.dfr, h⟩
end
def Still (w w' : World) : Prop := w'.heap = w.heap ∧ w'.os = w.os ∧ w'.tape = w.tape ∧ w'.output = w.output
theorem Still.ev {M : Nat → Prop} {w w' : World} (h : Still w w') (c : Nat → Nat) : Ev M c w c w' := Ev.same h.1 h.2.1 h.2.2.1 h.2.2.2
theorem bounds_still {α : Type} {P : Program} (k : IntKind) (x y : Int) (code : BoundsCode) (w : World) : ∃ t u w', (boundsPanic k x y code : Sem α).run P w = .halt (.panic (.iface t u)) w' ∧ Still w w' := by
 unfold boundsPanic
 split
 ·simp only [runtimePanic, goPanic, go_sem]
  exact ⟨_, _, _, rfl, rfl, rfl, rfl, rfl⟩
 ·simp only [runtimePanic, goPanic, go_sem]
  exact ⟨_, _, _, rfl, rfl, rfl, rfl, rfl⟩
section
variable {P : Program} {a : Act} {N : Nat} {L : List (Nat × Value)} {D : List Deferred} {w w' : World} {x : Operand} {d : Option Tmp} {t e ty : TypeId} {pos : String} {af : Array Edge} {gd : Option (Nat × Bool)} {A : Option Addr} {cap n0 : Nat} {h : Halt}
theorem r_sliceH (F : Fr a N L D) {lo hi mx : Option Operand} {vl vh vm : Option Value} (hx : ev L x = some (.slice A n0 cap)) (h1 : lo.map (ev L) = vl.map some) (h2 : hi.map (ev L) = vh.map some) (h3 : mx.map (ev L) = vm.map some)
  (hr : (Instr.sliceAt t (.slice A n0 cap) vl vh vm).run P w = .halt h w') :
  (execOp a.eval { dst := d, op := .slice t x lo hi mx, type := ty, pos := pos, after := af, guard := gd }).run P w = .halt h w' := by
 have e1 : lo.map a.eval = vl := by
  cases lo <;> cases vl <;> simp at h1 ⊢; rw [F.ev h1]
 have e2 : hi.map a.eval = vh := by
  cases hi <;> cases vh <;> simp at h2 ⊢; rw [F.ev h2]
 have e3 : mx.map a.eval = vm := by
  cases mx <;> cases vm <;> simp at h3 ⊢; rw [F.ev h3]
 simp [execOp, F.ev hx, e1, e2, e3, hr]
theorem pan_nn {n : Int} (hu : P.underlying t = some (.slice e)) (g : ¬ (0 ≤ n ∧ n ≤ (cap : Int))) (w : World) :
  ∃ t1 u w', (Instr.sliceAt t (.slice A n0 cap) none (some (.int .i64 n)) (some (.int .i64 n))).run P w = .halt (.panic (.iface t1 u)) w' ∧ Still w w' := by
 obtain ⟨t1, u, w', h1, h2⟩ := bounds_still (α := Nat) (P := P) .i64 n cap .slice3Acap w; refine ⟨t1, u, w', ?_, h2⟩
 simp [Instr.sliceAt, run_underlying hu, Instr.slice, Instr.sliceBounds, Instr.sliceBound, asIntOf, g, h1]
theorem ok_nn {n : Int} {sz : Nat} (hu : P.underlying t = some (.slice e)) (hs : ∀ w, (sizeOf e).run P w = .ok sz w) (g : 0 ≤ n ∧ n ≤ (cap : Int)) :
  ∃ v, ∀ w, (Instr.sliceAt t (.slice A n0 cap) none (some (.int .i64 n)) (some (.int .i64 n))).run P w = .ok v w := by
 obtain ⟨k, rfl⟩ := Int.eq_ofNat_of_zero_le g.1; have g2 : k ≤ cap := by omega
 exact ⟨_, run_cut hu hs none (some (.int .i64 (k : Int))) (some (.int .i64 (k : Int))) (l := 0) (r := k) (m := k) (fun w => by simp [Instr.sliceBounds, Instr.sliceBound, asIntOf, g2])⟩
theorem pan_l {n : Int} (hu : P.underlying t = some (.slice e)) (g : ¬ (0 ≤ n ∧ n ≤ (n0 : Int))) (w : World) :
  ∃ t1 u w', (Instr.sliceAt t (.slice A n0 cap) (some (.int .i64 n)) none none).run P w = .halt (.panic (.iface t1 u)) w' ∧ Still w w' := by
 obtain ⟨t1, u, w', h1, h2⟩ := bounds_still (α := Nat) (P := P) .i64 n n0 .sliceB w; refine ⟨t1, u, w', ?_, h2⟩
 simp [Instr.sliceAt, run_underlying hu, Instr.slice, Instr.sliceBounds, Instr.sliceBound, asIntOf, g, h1]
theorem cut_nn {α : Type} {k : K α} {own : Bool} {j i : Nat} {c : Nat → Nat} {xs : List α} {n : Int} (hu : P.underlying t = some (.slice e)) (hs : ∀ w, (sizeOf e).run P w = .ok k.sz w) (hx : SL own k j i c w A cap xs) (g : 0 ≤ n ∧ n ≤ (xs.length : Int)) :
  ∃ A' cap', (∀ w, (Instr.sliceAt t (.slice A xs.length cap) none (some (.int .i64 n)) (some (.int .i64 n))).run P w = .ok (.slice A' (xs.take n.toNat).length cap') w) ∧ SL own k j i c w A' cap' (xs.take n.toNat) := by
 have hc : xs.length ≤ cap := by obtain ⟨cs, h2, _⟩ := hx; exact h2
 obtain ⟨q, rfl⟩ := Int.eq_ofNat_of_zero_le g.1; have g1 : q ≤ xs.length := by omega
 have hcut := hx.cut 0 q q (by omega) (by omega) (by omega) (Nat.le_refl _); rw [List.drop_zero] at hcut; refine ⟨_, _, fun w => ?_, by simpa using hcut⟩; have g2 : q ≤ cap := by omega
 rw [run_cut hu hs none (some (.int .i64 (q : Int))) (some (.int .i64 (q : Int))) (l := 0) (r := q) (m := q) (fun w => by simp [Instr.sliceBounds, Instr.sliceBound, asIntOf, g2]) w]
 simp [Nat.min_eq_left g1]
end
def RX {α : Type} (m j : Nat) (c0 : Nat → Nat) (w0 : World) (p : Option Addr) (ou : List (List Int)) (res : (List Int × Int) ⊕ (α × List Int × Int)) (ret : α → (Nat → Nat) → World → Value → Prop) (e : Ending) (w_ : World) : Prop :=
 ∃ c_, Ev (fun x => x = j) c0 w0 c_ w_ ∧ CB m c_ w_ ∧ match res with
  | .inl (l, f) => (∃ t u, e = .panicked [{ v := .iface t u, recovered := false }]) ∧ RD j c_ w_ p (some ⟨l, ou, f⟩)
  | .inr (x, l, f) => (∃ v, e = .returned v ∧ ret x c_ w_ v) ∧ RD j c_ w_ p (some ⟨l, ou, f⟩)
def retS (x : List Int) (c : Nat → Nat) (w : World) (v : Value) : Prop := ∃ A C, v = .slice A x.length C ∧ SL false (Kint .u8) 0 0 c w A C x
def rnext (l : List Int) (f n : Int) : (List Int × Int) ⊕ (List Int × List Int × Int) := if 0 ≤ n ∧ n ≤ (l.length : Int) then .inr (l.take n.toNat, l.drop n.toNat, f) else .inl (l, f)
set_option maxHeartbeats 1000000 in
theorem next_calls {m : Nat} {c0 : Nat → Nat} {w0 : World} {j : Nat} {p : Option Addr} {r : Rdr} {n : Int} (B0 : CB m c0 w0) (h : RD j c0 w0 p (some r)) (hj : 0 < j) :
  Calls Tryz.prog 87 #[.pointer p, .int .i64 n] w0 (RX m j c0 w0 p r.outer (rnext r.left r.fault n) retS) := by
 obtain ⟨ad, A1, C1, A2, C2, rfl, hat, hl, ho⟩ := RD.some h; refine enter (N := 23) (l := [.pointer (some ad), .int .i64 n]) Tryz.func87 rfl rfl (nb rfl) fun a F => ?_; refine sr fun K1 hK1 => ?_; refine G.qa F fun a F => ?_; refine nil (hK1 _ _ ?_); refine wp_seq_k fun K2 hK2 => ?_; refine preg ?_; refine p_val F rfl rfl (by decide) (r_move F rfl) fun a F => ?_; refine p_val F rfl rfl (by decide) (r_nil F rfl) fun a F => ?_; refine p_val F rfl rfl (by decide) (r_fieldAddr F rfl ff_122_0) fun a F => ?_; refine p_val F rfl rfl (by decide) (r_load F rfl ag_29 (AT.cell hat rfl)) fun a F => ?_; refine p_val F rfl rfl (by decide) (r_move F rfl) fun a F => ?_; refine p_val F rfl rfl (by decide) (r_move F rfl) fun a F => ?_
 by_cases g : 0 ≤ n ∧ n ≤ (r.left.length : Int)
 ·obtain ⟨A3, C3, hr3, h3⟩ := cut_nn (n := n) Tryz.underlying29 sz_5 hl g
  refine p_val F rfl rfl (by decide) (r_slice (vl := none) (vh := some (.int .i64 n)) (vm := some (.int .i64 n)) F rfl rfl rfl rfl hr3) fun a F => ?_; refine p_val F rfl rfl (by decide) (r_assign F rfl) fun a F => ?_; refine pnil ?_; refine hK2 _ _ ?_; refine sr fun K3 hK3 => ?_; refine G.qm F fun a F => ?_; refine G.qm F fun a F => ?_; refine G.qv F (r_nil F rfl) fun a F => ?_; refine G.qv F (r_fieldAddr F rfl ff_122_0) fun a F => ?_; refine G.qv F (r_load F rfl ag_29 (AT.cell hat rfl)) fun a F => ?_; refine G.qm F fun a F => ?_; obtain ⟨A4, C4, hr4, h4⟩ := cut_l (kl := .i64) (l := n) Tryz.underlying29 sz_5 hl g; refine G.qv F (r_slice (vl := some (.int .i64 n)) (vh := none) (vm := none) F rfl rfl rfl rfl hr4) fun a F => ?_; refine G.qv F (r_nil F rfl) fun a F => ?_; refine G.qv F (r_fieldAddr F rfl ff_122_0) fun a F => ?_; refine q_eff0 F rfl rfl (e_store F rfl rfl sz_29 hat (by simp) rfl) ?_; rintro w1 a ⟨E1, hat1, hz⟩ F; refine nil (hK3 _ _ ?_); refine sr fun K4 hK4 => ?_; refine G.qm F fun a F => ?_; refine G.qa F fun a F => ?_; refine nil (hK4 _ _ ?_); refine wp_ret ?_; refine out1 F rfl rfl ?_; have n0 : ¬ ((0 : Nat) = j) := by omega
  refine ⟨c0, E1, B0.size hz, ?_⟩; unfold rnext; rw [if_pos g]; exact ⟨⟨_, rfl, A3, C3, rfl, h3.ev E1 n0 n0⟩, RD.mk hat1 (h4.ev E1 n0 n0) (ho.ev E1 n0 n0)⟩
 ·have fin : ∀ (w' : World) (t : TypeId) (u : Value), Still w0 w' → RX m j c0 w0 (some ad) r.outer (rnext r.left r.fault n) retS (.panicked [{ v := .iface t u, recovered := false }]) w' := by
   intro w' t u hS; refine ⟨c0, hS.ev c0, B0.same hS.1, ?_⟩; unfold rnext; rw [if_neg g]; exact ⟨⟨t, u, rfl⟩, h.ev (hS.ev (M := No) c0) (fun q => q) (fun q => q)⟩
  by_cases g2 : 0 ≤ n ∧ n ≤ (C1 : Int)
  ·obtain ⟨v, hv⟩ := ok_nn (P := Tryz.prog) (A := A1) (n0 := r.left.length) Tryz.underlying29 sz_5 g2
   refine p_val F rfl rfl (by decide) (r_slice (xs := r.left) (vl := none) (vh := some (.int .i64 n)) (vm := some (.int .i64 n)) F rfl rfl rfl rfl hv) fun a F => ?_; refine p_val F rfl rfl (by decide) (r_assign F rfl) fun a F => ?_; refine pnil ?_; refine hK2 _ _ ?_; refine wp_seq_k fun K3 hK3 => ?_; refine preg ?_; refine p_val F rfl rfl (by decide) (r_move F rfl) fun a F => ?_; refine p_val F rfl rfl (by decide) (r_move F rfl) fun a F => ?_; refine p_val F rfl rfl (by decide) (r_nil F rfl) fun a F => ?_; refine p_val F rfl rfl (by decide) (r_fieldAddr F rfl ff_122_0) fun a F => ?_; refine p_val F rfl rfl (by decide) (r_load F rfl ag_29 (AT.cell hat rfl)) fun a F => ?_; refine p_val F rfl rfl (by decide) (r_move F rfl) fun a F => ?_; obtain ⟨t1, u, w', hr, hS⟩ := pan_l (P := Tryz.prog) (A := A1) (cap := C1) (n0 := r.left.length) (n := n) Tryz.underlying29 g w0; refine p_halt F rfl (r_sliceH (vl := some (.int .i64 n)) (vh := none) (vm := none) F rfl rfl rfl rfl hr) fun a F => ?_
   repeat (refine thenP ?_)
   exact outP F (fin w' t1 u hS)
  ·obtain ⟨t1, u, w', hr, hS⟩ := pan_nn (P := Tryz.prog) (A := A1) (n0 := r.left.length) (n := n) Tryz.underlying29 g2 w0
   refine p_halt F rfl (r_sliceH (vl := none) (vh := some (.int .i64 n)) (vm := some (.int .i64 n)) F rfl rfl rfl rfl hr) fun a F => ?_
   repeat (refine thenP ?_)
   exact outP F (fin w' t1 u hS)
theorem sl_one {c : Nat → Nat} {w : World} {A : Option Addr} {C : Nat} {x : Int} (h : SL false (Kint .u8) 0 0 c w A C [x]) : ∃ q, A = some q ∧ w.cell? (q.add 0) = some (.int .u8 x) := by
 obtain ⟨q, cs, hA, hat, hr⟩ := h.at 0 (by omega) (by simp); refine ⟨q, hA, ?_⟩; have hr' : cs = [.int .u8 x] := hr; subst hr'; have := hat.cell (n := 0) rfl
 simpa [Addr.add] using this
def retI (k : IntKind) (x : Int) (c : Nat → Nat) (w : World) (v : Value) : Prop := v = .int k x
set_option maxHeartbeats 2000000 in
theorem num_calls {m : Nat} {c0 : Nat → Nat} {w0 : World} {j : Nat} {p : Option Addr} {r : Rdr} (B0 : CB m c0 w0) (h : RD j c0 w0 p (some r)) (hj : 0 < j) :
  Calls Tryz.prog 82 #[.pointer p] w0 (RX m j c0 w0 p r.outer (rnum r.fault r.left 0 0) (retI .u64)) := by
 refine enter (N := 41) (l := [.pointer p]) Tryz.func82 rfl rfl (nb rfl) fun a F => ?_; refine sr fun K1 hK1 => ?_; refine G.qa F fun a F => ?_; refine nil (hK1 _ _ ?_); refine sr fun K2 hK2 => ?_; refine G.qa F fun a F => ?_; refine nil (hK2 _ _ ?_); refine sr fun K3 hK3 => ?_; refine G.qa F fun a F => ?_; refine nil (hK3 _ _ ?_); refine wp_block ?_; refine loop_fuel (I := fun q a w => ∃ (xs : List Int) (i : Nat) (n : Int) (c : Nat → Nat), q = xs.length ∧ i ≤ 9 ∧ Fr a 41 [(0, .pointer p), (3, .int .u64 n), (4, .int .i64 i)] ∧ Ev (fun x => x = j) c0 w0 c w ∧ CB m c w ∧ RD j c w p (some ⟨xs, r.outer, r.fault⟩) ∧ rnum r.fault xs i n = rnum r.fault r.left 0 0) (k := r.left.length)
  ⟨r.left, 0, 0, c0, rfl, by omega, F.sub ⟨rfl, rfl, rfl, trivial⟩, Ev.refl, B0, h, rfl⟩ ?_
 clear F; intro q X hX a w ⟨xs, i, n, c, hq, hi, F, E, B, hR, hres⟩; subst hq; refine wp_seq_k fun K4 hK4 => ?_; refine wp_block ?_; refine wp_seq_k fun K5 hK5 => ?_; refine preg ?_; refine p_val F rfl rfl (by decide) (r_move F rfl) fun a F => ?_; refine p_call F rfl rfl (by decide) (r_call (vs := [.pointer p, .int .i64 1]) F Tryz.func87 rfl rfl rfl) (next_calls B hR hj) ?_; rintro e w1 ⟨c1, E1, B1, hx⟩
 cases xs with
 | nil =>
  right
  have e0 : rnext ([] : List Int) r.fault 1 = .inl ([], r.fault) := rfl; rw [show (⟨[], r.outer, r.fault⟩ : Rdr).left = [] from rfl, show (⟨[], r.outer, r.fault⟩ : Rdr).fault = r.fault from rfl, e0] at hx; obtain ⟨⟨t, u, rfl⟩, hR1⟩ := hx; refine ⟨_, rfl, fun a F => ?_⟩
  repeat (first | refine thenP ?_ | refine inbP ?_)
  refine outP (F.sub (L' := []) trivial) ?_; refine ⟨c1, E.trans E1 (fun _ q => q), B1, ?_⟩; rw [← hres]; exact ⟨⟨t, u, rfl⟩, hR1⟩
 | cons x xs =>
  left
  have e0 : rnext (x :: xs) r.fault 1 = .inr ([x], xs, r.fault) := by
   unfold rnext; rw [if_pos (by simp; omega)]; rfl
  rw [show (⟨x :: xs, r.outer, r.fault⟩ : Rdr).left = x :: xs from rfl, show (⟨x :: xs, r.outer, r.fault⟩ : Rdr).fault = r.fault from rfl, e0] at hx; obtain ⟨⟨v, rfl, A, C, rfl, hs⟩, hR1⟩ := hx; obtain ⟨qa, rfl, hcell⟩ := sl_one hs; refine ⟨_, rfl, fun a F => ?_⟩; have E := E.trans E1 (fun _ q => q); refine p_val F rfl rfl (by decide) (r_indexAddr F Tryz.underlying29 sz_5 rfl rfl (by omega) (by simp)) fun a F => ?_; refine p_val F rfl rfl (by decide) (r_load F rfl ag_5 hcell) fun a F => ?_; refine p_val F rfl rfl (by decide) (r_assign F rfl) fun a F => ?_; refine pnil ?_; refine hK5 _ _ ?_; have hi9 : ((i : Int) = 9) = (i = 9) := by simp; omega
  have hi0 : (0 < (i : Int)) = (0 < i) := by simp
  refine wp_seq_k fun K6 hK6 => ?_; refine wp_seq_k fun K7 hK7 => ?_; have bad : ∀ a, Fr a 41 [(0, .pointer p), (25, .bool true)] → ((i = 9 ∧ 1 < x) ∨ (0 < i ∧ x = 0)) → K7 a w1 := by
   intro a F hc; refine hK7 _ _ ?_; refine wp_cond_true (F.ev rfl) ?_; obtain ⟨ad, A1, C1, A2, C2, rfl, hat, hl, ho⟩ := RD.some hR1; refine sr fun K8 hK8 => ?_; refine G.qm F fun a F => ?_; refine G.qv F (r_nil F rfl) fun a F => ?_; refine G.qv F (r_fieldAddr F rfl ff_122_2) fun a F => ?_; refine q_eff0 F rfl rfl (e_store F rfl rfl sz_40 hat (by simp) rfl) ?_; rintro w2 a ⟨E2, hat2, hz⟩ F; refine nil (hK8 _ _ ?_); refine sr fun K9 hK9 => ?_; refine G.qa F fun a F => ?_; refine nil (hK9 _ _ ?_); refine wp_ret ?_
   repeat (first | refine thenR ?_ | refine inbR ?_)
   refine out1 F rfl rfl ?_; have n0 : ¬ ((0 : Nat) = j) := by omega
   refine ⟨c1, E.trans E2 (fun _ q => q), B1.size hz, ?_⟩; rw [← hres]; unfold rnum; rw [if_pos hc]; exact ⟨⟨_, rfl, rfl⟩, RD.mk (t := ⟨xs, r.outer, 11⟩) hat2 (hl.ev E2 n0 n0) (ho.ev E2 n0 n0)⟩
  have good : ∀ a, Fr a 41 [(0, .pointer p), (3, .int .u64 n), (4, .int .i64 i), (5, .int .u8 x), (25, .bool false)] → ¬ ((i = 9 ∧ 1 < x) ∨ (0 < i ∧ x = 0)) → K7 a w1 := by
   intro a F hc; refine hK7 _ _ ?_; refine wp_cond_false (F.ev rfl) ?_; refine wp_skip ?_; refine hK6 _ _ ?_; refine sr fun K8 hK8 => ?_; refine G.qm F fun a F => ?_; refine G.qm F fun a F => ?_; refine G.qv F (r_and F rfl rfl) fun a F => ?_; refine G.qv F (r_convi F Tryz.underlying82 (by kernel_rfl) rfl) fun a F => ?_; refine G.qm F fun a F => ?_; refine G.qv F (r_mul F rfl rfl) fun a F => ?_; refine G.qv F (r_convi F Tryz.underlying136 (by kernel_rfl) rfl) fun a F => ?_; have hw : IntKind.u64.wrap (IntKind.i64.wrap (7 * (i : Int))) = 7 * (i : Int) := by
    simp only [IntKind.wrap, IntKind.bits, IntKind.signed]; simp; omega
   rw [hw] at F; refine G.qv F (r_shl F rfl rfl (by omega)) fun a F => ?_; refine G.qv F (r_or F rfl rfl) fun a F => ?_; refine G.qa F fun a F => ?_; refine nil (hK8 _ _ ?_); refine sr fun K9 hK9 => ?_; refine G.qm F fun a F => ?_; refine G.qv F (r_lss F rfl rfl) fun a F => ?_; refine nil (hK9 _ _ ?_)
   by_cases hb : x < 128
   ·refine wp_cond_true ((F.ev rfl).trans (congrArg Value.bool (decide_eq_true hb))) ?_
    refine sr fun K10 hK10 => ?_; refine G.qm F fun a F => ?_; refine G.qa F fun a F => ?_; refine nil (hK10 _ _ ?_); refine wp_ret ?_
    repeat (first | refine thenR ?_ | refine inbR ?_)
    refine out1 F rfl rfl ?_; refine ⟨c1, E, B1, ?_⟩; rw [← hres]; unfold rnum; rw [if_neg hc, if_pos hb]; exact ⟨⟨_, rfl, rfl⟩, hR1⟩
   ·refine wp_cond_false ((F.ev rfl).trans (congrArg Value.bool (decide_eq_false hb))) ?_
    refine wp_skip ?_
    repeat (first | refine inbN ?_ | refine hK4 _ _ ?_)
    refine reg ?_; refine G.qm F fun a F => ?_; refine G.qv F (r_add F rfl rfl) fun a F => ?_; refine G.qa F fun a F => ?_; refine nil ?_; have hw1 : IntKind.i64.wrap ((i : Int) + 1) = ((i + 1 : Nat) : Int) := by
     simp only [IntKind.wrap_i64]; omega
    rw [hw1] at F; refine hX xs.length _ _ (by simp) ⟨xs, i + 1, _, c1, rfl, ?_, F.sub ⟨rfl, rfl, rfl, trivial⟩, E, B1, hR1, ?_⟩
    ·have : i ≠ 9 := fun e => hb (by have : ¬ (1 < x) := fun q => hc (Or.inl ⟨e, q⟩); omega)
     omega
    ·rw [← hres]
     conv => rhs; unfold rnum
     rw [if_neg hc, if_neg hb]
  refine reg ?_; refine G.qm F fun a F => ?_; refine G.qv F (r_eql F rfl rfl) fun a F => ?_; refine G.qm F fun a F => ?_
  by_cases b9 : i = 9
  ·have b9' : (i : Int) = 9 := by omega
   refine q_yes F rfl (by decide) rfl (decide_eq_true b9') ?_; refine G.qm F fun a F => ?_; refine q_yes F rfl (by decide) rfl (decide_eq_true b9') ?_; refine G.qv F (r_gtr F rfl rfl) fun a F => ?_; refine G.qv F (r_pick_t F rfl (decide_eq_true b9') rfl) fun a F => ?_; refine G.qm F fun a F => ?_
   by_cases b1 : 1 < x
   ·refine q_no F rfl (by decide) rfl (decide_eq_true b1) (by decide) fun a F => ?_
    refine q_no F rfl (by decide) rfl (decide_eq_true b1) (by decide) fun a F => ?_; refine q_no F rfl (by decide) rfl (decide_eq_true b1) (by decide) fun a F => ?_; refine q_nu F rfl (by decide) rfl (by decide) fun a F => ?_; refine q_nu F rfl (by decide) rfl (by decide) fun a F => ?_; refine q_no F rfl (by decide) rfl (decide_eq_true b1) (by decide) fun a F => ?_; refine G.qv F (r_pick_t F rfl (decide_eq_true b1) rfl) fun a F => ?_; refine nil ?_; exact bad a (F.sub ⟨rfl, rfl, trivial⟩) (Or.inl ⟨b9, b1⟩)
   ·refine q_yes F rfl (by decide) rfl (decide_eq_false b1) ?_
    refine G.qm F fun a F => ?_; refine q_yes F rfl (by decide) rfl (decide_eq_false b1) ?_; refine G.qv F (r_gtr F rfl rfl) fun a F => ?_; refine q_yes F rfl (by decide) rfl (decide_eq_false b1) ?_; refine G.qm F fun a F => ?_; have b0 : 0 < (i : Int) := by omega
    refine q_yes F rfl (by decide) rfl (decide_eq_true b0) ?_; refine G.qm F fun a F => ?_; refine q_yes F rfl (by decide) rfl (decide_eq_true b0) ?_; refine G.qv F (r_eql F rfl rfl) fun a F => ?_; refine q_yes F rfl (by decide) rfl (decide_eq_false b1) ?_; refine G.qv F (r_pick_t F rfl (decide_eq_true b0) rfl) fun a F => ?_; refine G.qv F (r_pick_f F rfl (decide_eq_false b1) rfl) fun a F => ?_; refine nil ?_
    by_cases bz : x = 0
    ·rw [decide_eq_true bz] at F
     exact bad a (F.sub ⟨rfl, rfl, trivial⟩) (Or.inr ⟨by omega, bz⟩)
    ·rw [decide_eq_false bz] at F
     exact good a (F.sub ⟨rfl, rfl, rfl, rfl, rfl, trivial⟩) (by rintro (⟨_, q⟩ | ⟨_, q⟩); exact b1 q; exact bz q)
  ·have b9' : ¬ (i : Int) = 9 := by omega
   refine q_no F rfl (by decide) rfl (decide_eq_false b9') (by decide) fun a F => ?_; refine q_no F rfl (by decide) rfl (decide_eq_false b9') (by decide) fun a F => ?_; refine G.qv F (r_pick_f F rfl (decide_eq_false b9') rfl) fun a F => ?_; refine G.qm F fun a F => ?_; refine q_yes F rfl (by decide) rfl rfl ?_; refine G.qm F fun a F => ?_; refine q_yes F rfl (by decide) rfl rfl ?_; refine G.qv F (r_gtr F rfl rfl) fun a F => ?_; refine q_yes F rfl (by decide) rfl rfl ?_; refine G.qm F fun a F => ?_
   by_cases b0 : 0 < (i : Int)
   ·refine q_yes F rfl (by decide) rfl (decide_eq_true b0) ?_
    refine G.qm F fun a F => ?_; refine q_yes F rfl (by decide) rfl (decide_eq_true b0) ?_; refine G.qv F (r_eql F rfl rfl) fun a F => ?_; refine q_yes F rfl (by decide) rfl rfl ?_; refine G.qv F (r_pick_t F rfl (decide_eq_true b0) rfl) fun a F => ?_; refine G.qv F (r_pick_f F rfl rfl rfl) fun a F => ?_; refine nil ?_
    by_cases bz : x = 0
    ·rw [decide_eq_true bz] at F
     exact bad a (F.sub ⟨rfl, rfl, trivial⟩) (Or.inr ⟨by omega, bz⟩)
    ·rw [decide_eq_false bz] at F
     exact good a (F.sub ⟨rfl, rfl, rfl, rfl, rfl, trivial⟩) (by rintro (⟨q, _⟩ | ⟨_, q⟩); exact b9 q; exact bz q)
   ·refine q_no F rfl (by decide) rfl (decide_eq_false b0) (by decide) fun a F => ?_
    refine q_no F rfl (by decide) rfl (decide_eq_false b0) (by decide) fun a F => ?_; refine q_yes F rfl (by decide) rfl rfl ?_; refine G.qv F (r_pick_f F rfl (decide_eq_false b0) rfl) fun a F => ?_; refine G.qv F (r_pick_f F rfl rfl rfl) fun a F => ?_; refine nil ?_; exact good a (F.sub ⟨rfl, rfl, rfl, rfl, rfl, trivial⟩) (by rintro (⟨q, _⟩ | ⟨q, _⟩); exact b9 q; omega)
set_option maxHeartbeats 2000000 in
theorem size_calls {m : Nat} {c0 : Nat → Nat} {w0 : World} {j : Nat} {p : Option Addr} {r : Rdr} {most : Int} (B0 : CB m c0 w0) (h : RD j c0 w0 p (some r)) (hj : 0 < j) :
  Calls Tryz.prog 85 #[.pointer p, .int .u64 most] w0 (RX m j c0 w0 p r.outer (rsize r.left r.fault most) (retI .i64)) := by
 refine enter (N := 39) (l := [.pointer p, .int .u64 most]) Tryz.func85 rfl rfl (nb rfl) fun a F => ?_; refine sr fun K1 hK1 => ?_; refine G.qa F fun a F => ?_; refine nil (hK1 _ _ ?_); refine wp_seq_k fun K2 hK2 => ?_; refine preg ?_; refine p_val F rfl rfl (by decide) (r_move F rfl) fun a F => ?_; refine p_call F rfl rfl (by decide) (r_call (vs := [.pointer p]) F Tryz.func82 rfl rfl rfl) (num_calls B0 h hj) ?_; rintro e w1 ⟨c1, E, B, hx⟩
 generalize hn : rnum r.fault r.left 0 0 = res at hx
 match res with
 | .inl (l, f) =>
  right
  obtain ⟨⟨t, u, rfl⟩, hR1⟩ := hx; refine ⟨_, rfl, fun a F => ?_⟩
  repeat (first | refine thenP ?_ | refine inbP ?_)
  refine outP (F.sub (L' := []) trivial) ?_; refine ⟨c1, E, B, ?_⟩; rw [show rsize r.left r.fault most = .inl (l, f) from by unfold rsize; rw [hn]]; exact ⟨⟨t, u, rfl⟩, hR1⟩
 | .inr (n, l, f) =>
  left
  obtain ⟨⟨v, rfl, hv⟩, hR1⟩ := hx; have hv : v = .int .u64 n := hv; subst hv; refine ⟨_, rfl, fun a F => ?_⟩; refine p_val F rfl rfl (by decide) (r_assign F rfl) fun a F => ?_; refine pnil ?_; refine hK2 _ _ ?_; have hlm : l.length ≤ maxLen := by
   obtain ⟨ad, A1, C1, A2, C2, rfl, hat, hl, ho⟩ := RD.some hR1; exact hl.lenB
  obtain ⟨ad, A1, C1, A2, C2, rfl, hat, hl, ho⟩ := RD.some hR1; have n0 : ¬ ((0 : Nat) = j) := by omega
  refine wp_seq_k fun K3 hK3 => ?_; refine sr fun K4 hK4 => ?_; refine G.qm F fun a F => ?_; refine G.qv F (r_nil F rfl) fun a F => ?_; refine G.qv F (r_fieldAddr F rfl ff_122_2) fun a F => ?_; refine G.qv F (r_load F rfl ag_40 (AT.cell hat rfl)) fun a F => ?_; refine G.qv F (r_eql F rfl rfl) fun a F => ?_; refine G.qm F fun a F => ?_; have out : ∀ (a : Act) (w2 : World) (l : List Int) (f : Int), Fr a 39 [(4, .int .i64 0)] → f ≠ 0 → RX m j c0 w0 (some ad) r.outer (.inr (0, l, f)) (retI .i64) (.returned (.int .i64 0)) w2 → True := fun _ _ _ _ _ _ _ => trivial
  by_cases hf : f = 0
  ·subst hf
   refine q_yes F rfl (by decide) rfl (decide_eq_true rfl) ?_; refine G.qm F fun a F => ?_; refine q_yes F rfl (by decide) rfl (decide_eq_true rfl) ?_; refine G.qm F fun a F => ?_; refine q_yes F rfl (by decide) rfl (decide_eq_true rfl) ?_; refine G.qv F (r_gtr F rfl rfl) fun a F => ?_; refine G.qv F (r_pick_t F rfl (decide_eq_true rfl) rfl) fun a F => ?_; refine nil (hK4 _ _ ?_)
   by_cases hm : most < n
   ·refine wp_cond_true ((F.ev rfl).trans (congrArg Value.bool (decide_eq_true hm))) ?_
    refine reg ?_; refine G.qm F fun a F => ?_; refine G.qv F (r_nil F rfl) fun a F => ?_; refine G.qv F (r_fieldAddr F rfl ff_122_2) fun a F => ?_; refine q_eff0 F rfl rfl (e_store F rfl rfl sz_40 hat (by simp) rfl) ?_; rintro w2 a ⟨E2, hat2, hz⟩ F; refine nil (hK3 _ _ ?_); refine wp_seq_k fun K5 hK5 => ?_; refine sr fun K6 hK6 => ?_; refine G.qm F fun a F => ?_; refine G.qv F (r_nil F rfl) fun a F => ?_; refine G.qv F (r_fieldAddr F rfl ff_122_2) fun a F => ?_; refine G.qv F (r_load F rfl ag_40 (AT.cell hat2 rfl)) fun a F => ?_; refine G.qv F (r_neq F rfl rfl) fun a F => ?_; refine nil (hK6 _ _ ?_); refine wp_cond_true (F.ev rfl) ?_; refine sr fun K7 hK7 => ?_; refine G.qa F fun a F => ?_; refine nil (hK7 _ _ ?_); refine wp_ret ?_
    repeat (first | refine thenR ?_ | refine inbR ?_)
    refine out1 F rfl rfl ?_; refine ⟨c1, E.trans E2 (fun _ q => q), B.size hz, ?_⟩; rw [show rsize r.left r.fault most = .inr (0, l, 11) from by unfold rsize; rw [hn]; simp [hm]]; exact ⟨⟨_, rfl, rfl⟩, RD.mk (t := ⟨l, r.outer, 11⟩) hat2 (hl.ev E2 n0 n0) (ho.ev E2 n0 n0)⟩
   ·refine wp_cond_false ((F.ev rfl).trans (congrArg Value.bool (decide_eq_false hm))) ?_
    refine wp_skip ?_; refine hK3 _ _ ?_; refine wp_seq_k fun K5 hK5 => ?_; refine sr fun K6 hK6 => ?_; refine G.qm F fun a F => ?_; refine G.qv F (r_nil F rfl) fun a F => ?_; refine G.qv F (r_fieldAddr F rfl ff_122_2) fun a F => ?_; refine G.qv F (r_load F rfl ag_40 (AT.cell hat rfl)) fun a F => ?_; refine G.qv F (r_neq F rfl rfl) fun a F => ?_; refine nil (hK6 _ _ ?_); refine wp_cond_false (F.ev rfl) ?_; refine wp_skip ?_; refine hK5 _ _ ?_; refine wp_seq_k fun K7 hK7 => ?_; refine sr fun K8 hK8 => ?_; refine G.qm F fun a F => ?_; refine G.qm F fun a F => ?_; refine G.qv F (r_nil F rfl) fun a F => ?_; refine G.qv F (r_fieldAddr F rfl ff_122_0) fun a F => ?_; refine G.qv F (r_load F rfl ag_29 (AT.cell hat rfl)) fun a F => ?_; refine G.qv F (r_lensl F Tryz.underlying29 rfl) fun a F => ?_; refine G.qv F (r_convi F Tryz.underlying82 (by kernel_rfl) rfl) fun a F => ?_; have hw : IntKind.u64.wrap (l.length : Int) = (l.length : Int) := by
     unfold maxLen at hlm
     simp only [IntKind.wrap, IntKind.bits, IntKind.signed]; simp; omega
    rw [show ((⟨l, r.outer, 0⟩ : Rdr).left.length : Int) = (l.length : Int) from rfl, hw] at F; refine G.qv F (r_gtr F rfl rfl) fun a F => ?_; refine nil (hK8 _ _ ?_)
    by_cases hg : (l.length : Int) < n
    ·refine wp_cond_true ((F.ev rfl).trans (congrArg Value.bool (decide_eq_true hg))) ?_
     refine sr fun K9 hK9 => ?_; refine G.qm F fun a F => ?_; refine G.qv F (r_nil F rfl) fun a F => ?_; refine G.qv F (r_fieldAddr F rfl ff_122_2) fun a F => ?_; refine q_eff0 F rfl rfl (e_store F rfl rfl sz_40 hat (by simp) rfl) ?_; rintro w2 a ⟨E2, hat2, hz⟩ F; refine nil (hK9 _ _ ?_); refine sr fun K10 hK10 => ?_; refine G.qa F fun a F => ?_; refine nil (hK10 _ _ ?_); refine wp_ret ?_
     repeat (first | refine thenR ?_ | refine inbR ?_)
     refine out1 F rfl rfl ?_; refine ⟨c1, E.trans E2 (fun _ q => q), B.size hz, ?_⟩; rw [show rsize r.left r.fault most = .inr (0, l, 10) from by unfold rsize; rw [hn]; simp [hm, hg]]; exact ⟨⟨_, rfl, rfl⟩, RD.mk (t := ⟨l, r.outer, 10⟩) hat2 (hl.ev E2 n0 n0) (ho.ev E2 n0 n0)⟩
    ·refine wp_cond_false ((F.ev rfl).trans (congrArg Value.bool (decide_eq_false hg))) ?_
     refine wp_skip ?_; refine hK7 _ _ ?_; refine sr fun K9 hK9 => ?_; refine G.qm F fun a F => ?_; refine G.qv F (r_convi F Tryz.underlying3 (by kernel_rfl) rfl) fun a F => ?_; refine G.qa F fun a F => ?_; refine nil (hK9 _ _ ?_); refine wp_ret ?_
     repeat (first | refine thenR ?_ | refine inbR ?_)
     refine out1 F rfl rfl ?_; refine ⟨c1, E, B, ?_⟩; rw [show rsize r.left r.fault most = .inr (IntKind.i64.wrap n, l, 0) from by unfold rsize; rw [hn]; simp [hm, hg]]; exact ⟨⟨_, rfl, rfl⟩, RD.mk (t := ⟨l, r.outer, 0⟩) hat hl ho⟩
  ·refine q_no F rfl (by decide) rfl (decide_eq_false hf) (by decide) fun a F => ?_
   refine q_no F rfl (by decide) rfl (decide_eq_false hf) (by decide) fun a F => ?_; refine q_no F rfl (by decide) rfl (decide_eq_false hf) (by decide) fun a F => ?_; refine G.qv F (r_pick_f F rfl (decide_eq_false hf) rfl) fun a F => ?_; refine nil (hK4 _ _ ?_); refine wp_cond_false (F.ev rfl) ?_; refine wp_skip ?_; refine hK3 _ _ ?_; refine wp_seq_k fun K5 hK5 => ?_; refine sr fun K6 hK6 => ?_; refine G.qm F fun a F => ?_; refine G.qv F (r_nil F rfl) fun a F => ?_; refine G.qv F (r_fieldAddr F rfl ff_122_2) fun a F => ?_; refine G.qv F (r_load F rfl ag_40 (AT.cell hat rfl)) fun a F => ?_; refine G.qv F (r_neq F rfl rfl) fun a F => ?_; refine nil (hK6 _ _ ?_); refine wp_cond_true ((F.ev rfl).trans (congrArg Value.bool (congrArg not (decide_eq_false hf)))) ?_; refine sr fun K7 hK7 => ?_; refine G.qa F fun a F => ?_; refine nil (hK7 _ _ ?_); refine wp_ret ?_
   repeat (first | refine thenR ?_ | refine inbR ?_)
   refine out1 F rfl rfl ?_; refine ⟨c1, E, B, ?_⟩; rw [show rsize r.left r.fault most = .inr (0, l, f) from by unfold rsize; rw [hn]; simp [hf]]; exact ⟨⟨_, rfl, rfl⟩, RD.mk (t := ⟨l, r.outer, f⟩) hat hl ho⟩
end Go.Proofs.YtcolmmjcdlmcoaaGreat.G
namespace Go.Proofs.YtcolmmjcdlmcoaaGreat.G
open Go Go.RowKit
set_option linter.unusedVariables false
set_option linter.unusedSimpArgs false
set_option maxRecDepth 100000
set_option maxHeartbeats 40000000
theorem parcel_copied.calls {m : Nat} {c0 : Nat → Nat} {w0 : World} {A2 : Option Addr} {C3 : Nat} {a1 : List Int} (hm0 : 0 < m) (B0 : CB m c0 w0) (h4 : SL false (Kint .u8) 0 0 c0 w0 A2 C3 a1) (jr27 : Nat) (bjr27 : jr27 < m) (r : (List Int)) (H : parcel_copied.f a1 = some r) : Calls Tryz.prog 86 #[.slice A2 a1.length C3] w0 (fun e w_ => ∃ (c_ : Nat → Nat) (A0_ : Option Addr) (C0_ : Nat), e = .returned (.slice A0_ r.length C0_) ∧ Ev (fun x => False) c0 w0 c_ w_ ∧ CB m c_ w_ ∧ SL true (Kint .u8) jr27 0 c_ w_ A0_ C0_ r) := by
 unfold parcel_copied.f at H; have B := B0.mono (show m ≤ m + 2 by omega); have E : Ev (fun x => False ∨ m ≤ x) c0 w0 c0 w0 := Ev.refl; refine enter (N := 11) (l := [.slice A2 a1.length C3]) Tryz.func86 rfl rfl (nb rfl) fun a F => ?_; refine sr fun K5 hK5 => qa F fun a F => nil (hK5 _ _ ?_); refine sq fun K6 hK6 => ?_; refine sr fun K7 hK7 => qm F fun a F => ?_; refine qv F (r_lensl F Tryz.underlying29 rfl) fun a F => ?_; refine qv F (r_eql F rfl rfl) fun a F => ?_; refine nil (hK7 _ _ ?_)
 by_cases hb8 : (a1.length : Int) = 0
 ·have H := ip hb8 H; refine wct (fb F (dt hb8)) ?_; refine sr fun K9 hK9 => qa F fun a F => nil (hK9 _ _ ?_); refine wp_ret ?_; refine thenR ?_; obtain rfl := si H; refine out1 F rfl rfl ?_; exact ⟨cf (fun x_ => if x_ = m + 1 then jr27 else if x_ < m then x_ else 0) c0, none, 0, rfl, E.lv B0, cfb, SL.nil⟩
 have H := im hb8 H; refine wcf (fb F (dz hb8)) (wp_skip (hK6 _ _ ?_)); refine sr fun K10 hK10 => qm F fun a F => ?_; refine qv F (r_lensl F Tryz.underlying29 rfl) fun a F => ?_; have H := ifN H; obtain ⟨g11, H⟩ := H; refine q_eff F rfl rfl (by decide) (e_make (k := (Kint .u8)) (x0 := 0) F et_29 rfl rfl (fun _ _ _ => rfl) (by decide) g11 c0 (m + 1) 0) ?_; rintro v w13 a ⟨c12, A14, C15, rfl, E16, h17, B18⟩ F; have B := B18 _ B lm; have h4 := h4.ev E16; have E := E.n E16; refine qm F fun a F => ?_; have H := ifN H; obtain ⟨g19, H⟩ := H; refine q_eff F rfl rfl (by decide) (e_append (k := (Kint .u8)) (xs := (List.replicate (0 : Int).toNat (0 : Int))) (ys := a1) (c := c12) (j := (m + 1)) (i := 0) F et_29 rfl rfl h17 h4 g19 (len_ok g19) ne_zm) ?_; rintro v w21 a ⟨c20, A22, C23, rfl, E24, h25, B26⟩ F; have B := B26 _ B lm; have E := E.trans E24 lc1; refine qa F fun a F => nil (hK10 _ _ ?_); have F : Fr a 11 [(2, .slice A22 ((List.replicate (0 : Int).toNat (0 : Int)) ++ a1).length C23)] := F.sub ⟨rfl, trivial⟩; refine wp_ret ?_; obtain rfl := si H; refine out1 F rfl rfl ?_; exact ⟨cf (fun x_ => if x_ = m + 1 then jr27 else if x_ < m then x_ else 0) c20, A22, C23, rfl, E.lv B0, cfb, SL.rc h25 cfk cfk⟩
end Go.Proofs.YtcolmmjcdlmcoaaGreat.G
namespace Go.Proofs.YtcolmmjcdlmcoaaGreat.G
open Go Go.RowKit
set_option linter.unusedVariables false
set_option linter.unusedSimpArgs false
theorem lag_rd : ∀ w, (isAgg 90).run Tryz.prog w = .ok false w := fun _ => by kernel_rfl
theorem lag_int : ∀ w, (isAgg 3).run Tryz.prog w = .ok false w := fun _ => by kernel_rfl
theorem lag_u64 : ∀ w, (isAgg 82).run Tryz.prog w = .ok false w := fun _ => by kernel_rfl
theorem lag_bytes : ∀ w, (isAgg 29).run Tryz.prog w = .ok false w := fun _ => by kernel_rfl
theorem lsz_u64 : ∀ w, (sizeOf 82).run Tryz.prog w = .ok 1 w := fun _ => by kernel_rfl
theorem lsz_bytes : ∀ w, (sizeOf 29).run Tryz.prog w = .ok 1 w := fun _ => by kernel_rfl
theorem lzv_u64 : ∀ w, (zeroValue 82).run Tryz.prog w = .ok (.int .u64 0) w := fun _ => by kernel_rfl
theorem lzv_bytes : ∀ w, (zeroValue 29).run Tryz.prog w = .ok (.slice none 0 0) w := fun _ => by kernel_rfl
theorem copied_eq {x : List Int} (h : x.length ≤ 140737488355328) : parcel_copied.f x = some x := by
 unfold parcel_copied.f
 by_cases c : x = []
 ·subst c; rfl
 ·have hp : x.length ≠ 0 := fun q => c (List.length_eq_zero_iff.1 q)
  rw [if_neg (by omega), if_pos (by omega), if_pos (by simp; omega)]
  simp
def retT (jr : Nat) (x : List Int) (c : Nat → Nat) (w : World) (v : Value) : Prop := ∃ A C, v = .slice A x.length C ∧ SL true (Kint .u8) jr 0 c w A C x
set_option maxHeartbeats 2000000 in
theorem text1_calls {m : Nat} {c0 : Nat → Nat} {w0 : World} {j jb jc : Nat} {p : Option Addr} {q1 q2 : Addr} {r : Rdr} {most : Int} (B0 : CB m c0 w0) (h : RD j c0 w0 p (some r)) (hj : 0 < j) (h1 : AT true jb c0 w0 q1 [.pointer p]) (h2 : AT true jc c0 w0 q2 [.int .i64 most])
  (hjb : jb ≠ j) (hjc : jc ≠ j) (jr : Nat) (hjr : jr < m) (hjr' : jr ≠ j) (x : (List Int × Int) ⊕ (List Int × List Int × Int)) (H : rtext r.left r.fault most = some x) :
  Calls Tryz.prog 84 #[.pointer (some q1), .pointer (some q2)] w0 (RX m j c0 w0 p r.outer x (retT jr)) := by
 refine enter (N := 13) (l := [.pointer (some q1), .pointer (some q2)]) Tryz.func84 rfl rfl (nb rfl) fun a F => ?_; have n0 : ¬ ((0 : Nat) = j) := by omega
 refine sr fun K1 hK1 => ?_; refine G.qa F fun a F => ?_; refine nil (hK1 _ _ ?_); refine wp_seq_k fun K2 hK2 => ?_; refine preg ?_; refine p_val F rfl rfl (by decide) (r_load F rfl lag_rd (AT.cell0 h1 rfl)) fun a F => ?_; refine p_val F rfl rfl (by decide) (r_load F rfl lag_int (AT.cell0 h2 rfl)) fun a F => ?_; refine p_val F rfl rfl (by decide) (r_max F rfl rfl) fun a F => ?_; refine p_val F rfl rfl (by decide) (r_convi F Tryz.underlying82 (by kernel_rfl) rfl) fun a F => ?_; refine p_call F rfl rfl (by decide) (r_call (vs := [.pointer p, .int .u64 (IntKind.u64.wrap (max most 0))]) F Tryz.func85 rfl rfl rfl) (size_calls B0 h hj) ?_; rintro e w1 ⟨c1, E1, B1, hx⟩; unfold rtext at H
 generalize rsize r.left r.fault (IntKind.u64.wrap (max most 0)) = res at hx H
 match res with
 | .inl (l, f) =>
  right
  obtain ⟨⟨t, u, rfl⟩, hR1⟩ := hx; have H := Option.some.inj H; subst H; refine ⟨_, rfl, fun a F => ?_⟩
  repeat (first | refine thenP ?_ | refine inbP ?_)
  refine outP (F.sub (L' := []) trivial) ?_; exact ⟨c1, E1, B1, ⟨t, u, rfl⟩, hR1⟩
 | .inr (n, l, f) =>
  left
  obtain ⟨⟨v, rfl, hv⟩, hR1⟩ := hx; have hv : v = .int .i64 n := hv; subst hv; obtain ⟨⟨g0, g1, g2⟩, H⟩ := ifN H; have H := Option.some.inj H; subst H; refine ⟨_, rfl, fun a F => ?_⟩; refine p_val F rfl rfl (by decide) (r_assign F rfl) fun a F => ?_; refine pnil ?_; refine hK2 _ _ ?_; refine wp_seq_k fun K3 hK3 => ?_; refine preg ?_; refine p_val F rfl rfl (by decide) (r_load F rfl lag_rd (AT.cell0 (h1.ev E1 hjb) rfl)) fun a F => ?_; refine p_val F rfl rfl (by decide) (r_move F rfl) fun a F => ?_; refine p_call F rfl rfl (by decide) (r_call (vs := [.pointer p, .int .i64 n]) F Tryz.func87 rfl rfl rfl) (next_calls B1 hR1 hj) ?_; rintro e w2 ⟨c2, E2, B2, hx⟩; have e0 : rnext l f n = .inr (l.take n.toNat, l.drop n.toNat, f) := by unfold rnext; rw [if_pos ⟨g0, g1⟩]
  rw [show (⟨l, r.outer, f⟩ : Rdr).left = l from rfl, show (⟨l, r.outer, f⟩ : Rdr).fault = f from rfl, e0] at hx; obtain ⟨⟨v, rfl, A3, C3, rfl, hs⟩, hR2⟩ := hx
  left
  refine ⟨_, rfl, fun a F => ?_⟩; have hlen : (l.take n.toNat).length ≤ 140737488355328 := by rw [List.length_take]; omega
  refine p_call F rfl rfl (by decide) (r_call (vs := [.slice A3 (l.take n.toNat).length C3]) F Tryz.func86 rfl rfl rfl) (parcel_copied.calls (Nat.lt_of_le_of_lt (Nat.zero_le _) hjr) B2 hs jr hjr _ (copied_eq hlen)) ?_; rintro e w3 ⟨c3, A4, C4, rfl, E3, B3, hs3⟩
  left
  refine ⟨_, rfl, fun a F => ?_⟩; refine p_val F rfl rfl (by decide) (r_assign F rfl) fun a F => ?_; refine pnil ?_; refine hK3 _ _ ?_; refine wp_ret ?_
  repeat (first | refine thenR ?_ | refine inbR ?_)
  refine out1 F rfl rfl ?_; have E3' : Ev (fun x => x = j) c2 w2 c3 w3 := E3.mono (fun _ q => q.elim); exact ⟨c3, (E1.trans E2 (fun _ q => q)).trans E3' (fun _ q => q), B3, ⟨_, rfl, A4, C4, rfl, hs3⟩, hR2.ev E3 (fun q => q) (fun q => q)⟩
section
variable {P : Program} {ops : Array Oper} {Q : Exit → Act → List Frame → World → Prop} {a : Act} {N : Nat} {L : List (Nat × Value)} {D : List Deferred} {w w' : World} {v : Value} {rest : List Nat} {o : Oper} {d : Nat} {cs cs' : List Frame} {i : Nat}
theorem enterS {f : FuncId} {fn : Func} {c : Code} {l : List Value} {u : FrameMode} {R : Ending → FrameMode → World → Prop} (hf : P.funcs[f]? = some fn) (hb : fn.body = some c) (hn : fn.ntmps = N) (hl : l.length ≤ N)
  (h : ∀ c₀ cs, c₀.mode = u → ∀ a, Fr a N (enum 0 l) → c.wpS P (bodyPostS P fn c₀ cs R) a (c₀ :: cs) w) : CallsD P f l.toArray u w R := by
 refine callsD_of_wpS hf hb fun c₀ cs hu => ?_; refine h c₀ cs hu _ ?_; rw [show l.toArray.size = l.length by simp, hn]; exact Fr.enter l (N - l.length) (by omega)
theorem enterD {f : FuncId} {fn : Func} {c : Code} {l : List Value} {R : Ending → World → Prop} (hf : P.funcs[f]? = some fn) (hb : fn.body = some c) (hn : fn.ntmps = N) (hl : l.length ≤ N)
  (h : ∀ a, Fr a N (enum 0 l) → c.wp P (bodyPostD P fn R) a w) : Calls P f l.toArray w R := by
 refine calls_of_wp_defers hf hb ?_; refine h _ ?_; rw [show l.toArray.size = l.length by simp, hn]; exact Fr.enter l (N - l.length) (by omega)
theorem s_rec_yes (F : Fr a N L D) (ho : ops[i]? = some o) (hg : o.guard = none) (hd : o.dst = some d) (hN : d < N) (hr : (execOp a.eval o).run P w = .ok .recover w) (hrec : recoverD cs = some (v, cs'))
  (k : ∀ a', Fr a' N ((d, v) :: L) D → wpOpsS P ops Q rest a' cs' w) : wpOpsS P ops Q (i :: rest) a cs w := by
 unfold wpOpsS
 simp only [ho]
 rw [if_pos (by simp [Region.wanted, hg]), hr]
 simp only [hrec]
 rw [hd]; exact k _ (F.put v hN)
theorem s_rec_no (F : Fr a N L D) (ho : ops[i]? = some o) (hg : o.guard = none) (hd : o.dst = some d) (hN : d < N) (hr : (execOp a.eval o).run P w = .ok .recover w) (hrec : recoverD cs = none)
  (k : ∀ a', Fr a' N ((d, .nilIface) :: L) D → wpOpsS P ops Q rest a' cs w) : wpOpsS P ops Q (i :: rest) a cs w := by
 unfold wpOpsS
 simp only [ho]
 rw [if_pos (by simp [Region.wanted, hg]), hr]
 simp only [hrec]
 rw [hd]; exact k _ (F.put .nilIface hN)
theorem s_val (F : Fr a N L D) (ho : ops[i]? = some o) (hg : o.guard = none) (hd : o.dst = some d) (hN : d < N) (hr : (execOp a.eval o).run P w = .ok (.value v) w')
  (k : ∀ a', Fr a' N ((d, v) :: L) D → wpOpsS P ops Q rest a' cs w') : wpOpsS P ops Q (i :: rest) a cs w := by
 unfold wpOpsS
 simp only [ho]
 rw [if_pos (by simp [Region.wanted, hg]), hr]
 show wpOpsS P ops Q rest (a.put o.dst v) cs w'
 rw [hd]; exact k _ (F.put v hN)
end
section
variable {P : Program} {a : Act} {N : Nat} {L : List (Nat × Value)} {D : List Deferred} {w w' : World} {v : Value} {x y : Operand} {d : Option Tmp} {t ty : TypeId} {pos : String} {af : Array Edge} {gd : Option (Nat × Bool)}
theorem r_recover (a : Act) {ats : Array TypeId} : (execOp a.eval { dst := d, op := .call { callee := .builtin .recover, args := #[], argTypes := ats }, type := ty, pos := pos, after := af, guard := gd }).run P w = .ok .recover w := by
 simp [execOp, resolve, invoke, builtin]
theorem r_ifneq_t (F : Fr a N L D) {t1 yt : TypeId} {u : Value} (hu : P.underlying t = some (.interface (P.methodsAt t))) (hx : ev L x = some (.iface t1 u)) : (execOp a.eval { dst := d, op := .binOp .neq t x (.const .nilIface) yt, type := ty, pos := pos, after := af, guard := gd }).run P w = .ok (.value (.bool true)) w := by
 have h := run_equal_held_nil (P := P) w t t1 u hu; have e : a.eval (.const .nilIface) = .nilIface := rfl
 simp [execOp, F.ev hx, e, binOp, eqGuard, h]
theorem r_ifneq_f (F : Fr a N L D) {yt : TypeId} (hu : P.underlying t = some (.interface (P.methodsAt t))) (hx : ev L x = some .nilIface) : (execOp a.eval { dst := d, op := .binOp .neq t x (.const .nilIface) yt, type := ty, pos := pos, after := af, guard := gd }).run P w = .ok (.value (.bool false)) w := by
 have h := run_equal_nil_nil (P := P) w t hu; have e : a.eval (.const .nilIface) = .nilIface := rfl
 simp [execOp, F.ev hx, e, binOp, eqGuard, h]
theorem r_callv (F : Fr a N L D) {f : FuncId} {fn : Func} {fst cp : Array Value} {ats : Array TypeId} (hf : P.funcs[f]? = some fn) (hb : fn.body.isNone = false) (hn : (fn.name == "runtime.NumGoroutine") = false) (hx : ev L x = some (.func (.func f) fst cp)) :
  (execOp a.eval { dst := d, op := .call { callee := .value x, args := #[], argTypes := ats }, type := ty, pos := pos, after := af, guard := gd }).run P w = .ok (.enter f (fst ++ cp)) w := by
 have hn' : ¬ fn.name = "runtime.NumGoroutine" := by simpa using hn
 have hb' : ¬ fn.body = none := by intro q; rw [q] at hb; cases hb
 simp [execOp, resolve, Deferred.ofValue, F.ev hx, invoke, callFunc, hf, hb', hn']
theorem r_defer (F : Fr a N L D) {f : FuncId} {fst cp : Array Value} {ats : Array TypeId} (hx : ev L x = some (.func (.func f) fst cp)) :
  (execOp a.eval { dst := d, op := .defer { callee := .value x, args := #[], argTypes := ats }, type := ty, pos := pos, after := af, guard := gd }).run P w = .ok (.defer { target := .fn (.func f) cp, args := fst }) w := by
 simp [execOp, resolve, Deferred.ofValue, F.ev hx]
theorem p_defer {ops : Array Oper} {Q : Exit → Act → World → Prop} {rest : List Oper} {o : Oper} {df : Deferred} (F : Fr a N L D) (hg : o.guard = none) (hd : o.dst = none) (hr : (execOp a.eval o).run P w = .ok (.defer df) w)
  (k : ∀ a', Fr a' N L (df :: D) → wpList P ops Q rest a' w) : wpList P ops Q (o :: rest) a w :=
 p_upon hg hr (by
  show wpList P ops Q rest ({ a with defers := df :: a.defers }.put o.dst undef) w
  rw [hd]; exact k _ ⟨by show df :: a.defers = df :: D; rw [F.dfr], F.size, F.get⟩)
theorem resR1 {fn : Func} {r1 : ResultVar} {v1 : Value} (F : Fr a N L D) (hr : fn.results = #[r1]) (h1 : RV P L w r1 v1) : (results fn a.tmps).run P w = .ok v1 w := by
 have e1 := h1.run F
 show Sem.run P (results fn a.tmps) w = _
 unfold results; rw [hr]
 change Sem.run P ((do let vs ← #[r1].mapM (rvS a.tmps); pure (if h : vs.size = 1 then vs[0] else .tuple vs)) : Sem Value) w = _
 simp [e1]
theorem leaves1 {fn : Func} {r1 : ResultVar} {v1 : Value} {R : Ending → World → Prop} (F : Fr a N L D) (hr : fn.results = #[r1]) (h1 : RV P L w r1 v1) (h : R (.returned v1) w) : Leaves P fn a.tmps R [] .returning w := ⟨v1, resR1 F hr h1, h⟩
theorem invoke_fn {f : FuncId} {fn : Func} {cp args : Array Value} (hf : P.funcs[f]? = some fn) (hb : fn.body.isNone = false) (hn : (fn.name == "runtime.NumGoroutine") = false) : (invoke (.fn (.func f) cp) args).run P w = .ok (.enter f (args ++ cp)) w := by
 have hn' : ¬ fn.name = "runtime.NumGoroutine" := by simpa using hn
 have hb' : ¬ fn.body = none := by intro q; rw [q] at hb; cases hb
 simp [invoke, callFunc, hf, hb', hn']
end
def Rcv (j jv : Nat) (c : Nat → Nat) (w : World) (p : Option Addr) (qv : Addr) (rd : Rdr) (x : Value) (w' : World) : Prop :=
 Ev (fun x => x = j ∨ x = jv) c w c w' ∧ w'.heap.size = w.heap.size ∧ RD j c w' p (some rd) ∧ AT true jv c w' qv [x]
set_option maxHeartbeats 2000000 in
theorem catchP_u64 {c : Nat → Nat} {w : World} {j jb jz jv : Nat} {ad q1 qz qv : Addr} {r : Rdr} {z v0 : Value} (hj : 0 < j) (h : RD j c w (some ad) (some r)) (h1 : AT true jb c w q1 [.pointer (some ad)]) (hz : AT true jz c w qz [z]) (hv : AT true jv c w qv [v0])
  (n1 : jb ≠ j) (n2 : jz ≠ j) (n3 : jv ≠ j) (n4 : 0 < jv) (hone : z.oneCell' = true) (t : TypeId) (u : Value) (older : List PanicEntry) :
  CallsD Tryz.prog 101 #[.pointer (some q1), .pointer (some qz), .pointer (some qv)] (.panicking ({ v := .iface t u, recovered := false } :: older)) w fun e u' w' =>
   e = .returned (.tuple #[]) ∧ u' = .panicking ({ v := .iface t u, recovered := true } :: older) ∧ Rcv j jv c w (some ad) qv ⟨r.left, r.outer, 10⟩ z w' := by
 refine enterS (N := 16) (l := [.pointer (some q1), .pointer (some qz), .pointer (some qv)]) Tryz.func101 rfl rfl (nb rfl) fun c₀ cs hu a F => ?_; refine wpS_seq ?_; refine wpS_seq ?_; refine wpS_region ?_; refine s_rec_yes F rfl rfl rfl (by decide) (r_recover a) (v := .iface t u) (cs' := { c₀ with mode := .panicking ({ v := .iface t u, recovered := true } :: older) } :: cs) (by simp [recoverD, hu]) fun a F => ?_; refine s_val F rfl rfl rfl (by decide) (r_assign F rfl) fun a F => ?_
 show Code.wpS _ _ _ _ _ _
 refine wpS_of_wp ?_; obtain ⟨ad', A1, C1, A2, C2, e0, hat, hl, ho⟩ := RD.some h
 cases e0
 have m0 : ¬ ((0 : Nat) = j) := by omega
 refine sr fun K2 hK2 => ?_; refine G.qm F fun a F => ?_; refine G.qv F (r_ifneq_t F (by kernel_rfl) rfl) fun a F => ?_; refine nil (hK2 _ _ ?_); refine wp_cond_true (F.ev rfl) ?_; refine reg ?_; refine G.qv F (r_load F rfl lag_rd (AT.cell0 h1 rfl)) fun a F => ?_; refine G.qv F (r_nil F rfl) fun a F => ?_; refine G.qv F (r_fieldAddr F rfl ff_122_2) fun a F => ?_; refine q_eff0 F rfl rfl (e_store F rfl rfl sz_40 hat (by simp) rfl) ?_; rintro w2 a ⟨E2, hat2, hz2⟩ F; refine nil ?_
 show Code.wpS _ _ _ _ _ _
 refine wpS_of_wp ?_; refine sr fun K3 hK3 => ?_; refine G.qv F (r_load F rfl lag_rd (AT.cell0 (h1.ev E2 n1) rfl)) fun a F => ?_; refine G.qv F (r_nil F rfl) fun a F => ?_; refine G.qv F (r_fieldAddr F rfl ff_122_2) fun a F => ?_; refine G.qv F (r_load F rfl ag_40 (AT.cell hat2 rfl)) fun a F => ?_; refine G.qv F (r_neq F rfl rfl) fun a F => ?_; refine nil (hK3 _ _ ?_); refine wp_cond_true (F.ev rfl) ?_; refine reg ?_; refine G.qv F (r_load F rfl lag_u64 (AT.cell0 (hz.ev E2 n2) rfl)) fun a F => ?_; refine q_eff0 F rfl rfl (e_store0 F rfl rfl lsz_u64 (hv.ev E2 n3) (by simp) hone) ?_; rintro w3 a ⟨E3, hat3, hz3⟩ F; refine nil ?_; have n5 : ¬ (j = jv) := fun q => n3 q.symm; have m1 : ¬ ((0 : Nat) = jv) := by omega
 refine ⟨F.dfr, _, rfl, .tuple #[], results_none rfl _ _ _, rfl, rfl, ?_⟩; exact ⟨(E2.mono (fun _ q => Or.inl q)).trans (E3.mono (M' := fun x => x = j ∨ x = jv) (fun _ q => Or.inr q)) (fun _ q => q), by rw [hz3, hz2], RD.mk (t := ⟨r.left, r.outer, 10⟩) (hat2.ev E3 n5) ((hl.ev E2 m0 m0).ev E3 m1 m1) ((ho.ev E2 m0 m0).ev E3 m1 m1), hat3⟩
set_option maxHeartbeats 2000000 in
theorem catchR_u64 {c : Nat → Nat} {w : World} {j jb jz jv : Nat} {ad q1 qz qv : Addr} {r : Rdr} {z v0 : Value} (hj : 0 < j) (h : RD j c w (some ad) (some r)) (h1 : AT true jb c w q1 [.pointer (some ad)]) (hz : AT true jz c w qz [z]) (hv : AT true jv c w qv [v0])
  (n1 : jb ≠ j) (n2 : jz ≠ j) (n3 : jv ≠ j) (n4 : 0 < jv) (hone : z.oneCell' = true) :
  CallsD Tryz.prog 101 #[.pointer (some q1), .pointer (some qz), .pointer (some qv)] .returning w fun e u' w' =>
   e = .returned (.tuple #[]) ∧ u' = .returning ∧ Rcv j jv c w (some ad) qv r (if r.fault = 0 then v0 else z) w' := by
 refine enterS (N := 16) (l := [.pointer (some q1), .pointer (some qz), .pointer (some qv)]) Tryz.func101 rfl rfl (nb rfl) fun c₀ cs hu a F => ?_; refine wpS_seq ?_; refine wpS_seq ?_; refine wpS_region ?_; refine s_rec_no F rfl rfl rfl (by decide) (r_recover a) (by simp [recoverD, hu]) fun a F => ?_; refine s_val F rfl rfl rfl (by decide) (r_assign F rfl) fun a F => ?_
 show Code.wpS _ _ _ _ _ _
 refine wpS_of_wp ?_; obtain ⟨ad', A1, C1, A2, C2, e0, hat, hl, ho⟩ := RD.some h
 cases e0
 have m1 : ¬ ((0 : Nat) = jv) := by omega
 have n5 : ¬ (j = jv) := fun q => n3 q.symm; have hc0 : ({ c₀ with mode := .returning } : Frame) = c₀ := by cases c₀; simp_all
 refine sr fun K2 hK2 => ?_; refine G.qm F fun a F => ?_; refine G.qv F (r_ifneq_f F (by kernel_rfl) rfl) fun a F => ?_; refine nil (hK2 _ _ ?_); refine wp_cond_false (F.ev rfl) ?_; refine wp_skip ?_
 show Code.wpS _ _ _ _ _ _
 refine wpS_of_wp ?_; refine sr fun K3 hK3 => ?_; refine G.qv F (r_load F rfl lag_rd (AT.cell0 h1 rfl)) fun a F => ?_; refine G.qv F (r_nil F rfl) fun a F => ?_; refine G.qv F (r_fieldAddr F rfl ff_122_2) fun a F => ?_; refine G.qv F (r_load F rfl ag_40 (AT.cell hat rfl)) fun a F => ?_; refine G.qv F (r_neq F rfl rfl) fun a F => ?_; refine nil (hK3 _ _ ?_)
 by_cases hf : r.fault = 0
 ·refine wp_cond_false ((F.ev rfl).trans (congrArg Value.bool (congrArg not (decide_eq_true hf)))) ?_
  refine wp_skip ?_; refine ⟨F.dfr, .returning, by rw [hc0], .tuple #[], results_none rfl _ _ _, rfl, rfl, ?_⟩; rw [if_pos hf]; exact ⟨Ev.refl, rfl, h, hv⟩
 ·refine wp_cond_true ((F.ev rfl).trans (congrArg Value.bool (congrArg not (decide_eq_false hf)))) ?_
  refine reg ?_; refine G.qv F (r_load F rfl lag_u64 (AT.cell0 hz rfl)) fun a F => ?_; refine q_eff0 F rfl rfl (e_store0 F rfl rfl lsz_u64 hv (by simp) hone) ?_; rintro w3 a ⟨E3, hat3, hz3⟩ F; refine nil ?_; refine ⟨F.dfr, .returning, by rw [hc0], .tuple #[], results_none rfl _ _ _, rfl, rfl, ?_⟩; rw [if_neg hf]; exact ⟨E3.mono (fun _ q => Or.inr q), hz3, h.ev E3 n5 m1, hat3⟩
set_option maxHeartbeats 2000000 in
theorem catchP_bytes {c : Nat → Nat} {w : World} {j jb jz jv : Nat} {ad q1 qz qv : Addr} {r : Rdr} {z v0 : Value} (hj : 0 < j) (h : RD j c w (some ad) (some r)) (h1 : AT true jb c w q1 [.pointer (some ad)]) (hz : AT true jz c w qz [z]) (hv : AT true jv c w qv [v0])
  (n1 : jb ≠ j) (n2 : jz ≠ j) (n3 : jv ≠ j) (n4 : 0 < jv) (hone : z.oneCell' = true) (t : TypeId) (u : Value) (older : List PanicEntry) :
  CallsD Tryz.prog 102 #[.pointer (some q1), .pointer (some qz), .pointer (some qv)] (.panicking ({ v := .iface t u, recovered := false } :: older)) w fun e u' w' =>
   e = .returned (.tuple #[]) ∧ u' = .panicking ({ v := .iface t u, recovered := true } :: older) ∧ Rcv j jv c w (some ad) qv ⟨r.left, r.outer, 10⟩ z w' := by
 refine enterS (N := 16) (l := [.pointer (some q1), .pointer (some qz), .pointer (some qv)]) Tryz.func102 rfl rfl (nb rfl) fun c₀ cs hu a F => ?_; refine wpS_seq ?_; refine wpS_seq ?_; refine wpS_region ?_; refine s_rec_yes F rfl rfl rfl (by decide) (r_recover a) (v := .iface t u) (cs' := { c₀ with mode := .panicking ({ v := .iface t u, recovered := true } :: older) } :: cs) (by simp [recoverD, hu]) fun a F => ?_; refine s_val F rfl rfl rfl (by decide) (r_assign F rfl) fun a F => ?_
 show Code.wpS _ _ _ _ _ _
 refine wpS_of_wp ?_; obtain ⟨ad', A1, C1, A2, C2, e0, hat, hl, ho⟩ := RD.some h
 cases e0
 have m0 : ¬ ((0 : Nat) = j) := by omega
 refine sr fun K2 hK2 => ?_; refine G.qm F fun a F => ?_; refine G.qv F (r_ifneq_t F (by kernel_rfl) rfl) fun a F => ?_; refine nil (hK2 _ _ ?_); refine wp_cond_true (F.ev rfl) ?_; refine reg ?_; refine G.qv F (r_load F rfl lag_rd (AT.cell0 h1 rfl)) fun a F => ?_; refine G.qv F (r_nil F rfl) fun a F => ?_; refine G.qv F (r_fieldAddr F rfl ff_122_2) fun a F => ?_; refine q_eff0 F rfl rfl (e_store F rfl rfl sz_40 hat (by simp) rfl) ?_; rintro w2 a ⟨E2, hat2, hz2⟩ F; refine nil ?_
 show Code.wpS _ _ _ _ _ _
 refine wpS_of_wp ?_; refine sr fun K3 hK3 => ?_; refine G.qv F (r_load F rfl lag_rd (AT.cell0 (h1.ev E2 n1) rfl)) fun a F => ?_; refine G.qv F (r_nil F rfl) fun a F => ?_; refine G.qv F (r_fieldAddr F rfl ff_122_2) fun a F => ?_; refine G.qv F (r_load F rfl ag_40 (AT.cell hat2 rfl)) fun a F => ?_; refine G.qv F (r_neq F rfl rfl) fun a F => ?_; refine nil (hK3 _ _ ?_); refine wp_cond_true (F.ev rfl) ?_; refine reg ?_; refine G.qv F (r_load F rfl lag_bytes (AT.cell0 (hz.ev E2 n2) rfl)) fun a F => ?_; refine q_eff0 F rfl rfl (e_store0 F rfl rfl lsz_bytes (hv.ev E2 n3) (by simp) hone) ?_; rintro w3 a ⟨E3, hat3, hz3⟩ F; refine nil ?_; have n5 : ¬ (j = jv) := fun q => n3 q.symm; have m1 : ¬ ((0 : Nat) = jv) := by omega
 refine ⟨F.dfr, _, rfl, .tuple #[], results_none rfl _ _ _, rfl, rfl, ?_⟩; exact ⟨(E2.mono (fun _ q => Or.inl q)).trans (E3.mono (M' := fun x => x = j ∨ x = jv) (fun _ q => Or.inr q)) (fun _ q => q), by rw [hz3, hz2], RD.mk (t := ⟨r.left, r.outer, 10⟩) (hat2.ev E3 n5) ((hl.ev E2 m0 m0).ev E3 m1 m1) ((ho.ev E2 m0 m0).ev E3 m1 m1), hat3⟩
set_option maxHeartbeats 2000000 in
theorem catchR_bytes {c : Nat → Nat} {w : World} {j jb jz jv : Nat} {ad q1 qz qv : Addr} {r : Rdr} {z v0 : Value} (hj : 0 < j) (h : RD j c w (some ad) (some r)) (h1 : AT true jb c w q1 [.pointer (some ad)]) (hz : AT true jz c w qz [z]) (hv : AT true jv c w qv [v0])
  (n1 : jb ≠ j) (n2 : jz ≠ j) (n3 : jv ≠ j) (n4 : 0 < jv) (hone : z.oneCell' = true) :
  CallsD Tryz.prog 102 #[.pointer (some q1), .pointer (some qz), .pointer (some qv)] .returning w fun e u' w' =>
   e = .returned (.tuple #[]) ∧ u' = .returning ∧ Rcv j jv c w (some ad) qv r (if r.fault = 0 then v0 else z) w' := by
 refine enterS (N := 16) (l := [.pointer (some q1), .pointer (some qz), .pointer (some qv)]) Tryz.func102 rfl rfl (nb rfl) fun c₀ cs hu a F => ?_; refine wpS_seq ?_; refine wpS_seq ?_; refine wpS_region ?_; refine s_rec_no F rfl rfl rfl (by decide) (r_recover a) (by simp [recoverD, hu]) fun a F => ?_; refine s_val F rfl rfl rfl (by decide) (r_assign F rfl) fun a F => ?_
 show Code.wpS _ _ _ _ _ _
 refine wpS_of_wp ?_; obtain ⟨ad', A1, C1, A2, C2, e0, hat, hl, ho⟩ := RD.some h
 cases e0
 have m1 : ¬ ((0 : Nat) = jv) := by omega
 have n5 : ¬ (j = jv) := fun q => n3 q.symm; have hc0 : ({ c₀ with mode := .returning } : Frame) = c₀ := by cases c₀; simp_all
 refine sr fun K2 hK2 => ?_; refine G.qm F fun a F => ?_; refine G.qv F (r_ifneq_f F (by kernel_rfl) rfl) fun a F => ?_; refine nil (hK2 _ _ ?_); refine wp_cond_false (F.ev rfl) ?_; refine wp_skip ?_
 show Code.wpS _ _ _ _ _ _
 refine wpS_of_wp ?_; refine sr fun K3 hK3 => ?_; refine G.qv F (r_load F rfl lag_rd (AT.cell0 h1 rfl)) fun a F => ?_; refine G.qv F (r_nil F rfl) fun a F => ?_; refine G.qv F (r_fieldAddr F rfl ff_122_2) fun a F => ?_; refine G.qv F (r_load F rfl ag_40 (AT.cell hat rfl)) fun a F => ?_; refine G.qv F (r_neq F rfl rfl) fun a F => ?_; refine nil (hK3 _ _ ?_)
 by_cases hf : r.fault = 0
 ·refine wp_cond_false ((F.ev rfl).trans (congrArg Value.bool (congrArg not (decide_eq_true hf)))) ?_
  refine wp_skip ?_; refine ⟨F.dfr, .returning, by rw [hc0], .tuple #[], results_none rfl _ _ _, rfl, rfl, ?_⟩; rw [if_pos hf]; exact ⟨Ev.refl, rfl, h, hv⟩
 ·refine wp_cond_true ((F.ev rfl).trans (congrArg Value.bool (congrArg not (decide_eq_false hf)))) ?_
  refine reg ?_; refine G.qv F (r_load F rfl lag_bytes (AT.cell0 hz rfl)) fun a F => ?_; refine q_eff0 F rfl rfl (e_store0 F rfl rfl lsz_bytes hv (by simp) hone) ?_; rintro w3 a ⟨E3, hat3, hz3⟩ F; refine nil ?_; refine ⟨F.dfr, .returning, by rw [hc0], .tuple #[], results_none rfl _ _ _, rfl, rfl, ?_⟩; rw [if_neg hf]; exact ⟨E3.mono (fun _ q => Or.inr q), hz3, h.ev E3 n5 m1, hat3⟩
def takeF {α : Type} (z : α) (a1 : Option Rdr) (X : Rdr → (List Int × Int) ⊕ (α × List Int × Int)) : α × Option Rdr := match a1 with
 | none => (z, none)
 | some r => if r.fault = 0 then rtake z r (X r) else (z, some r)
set_option maxRecDepth 100000 in
set_option maxHeartbeats 4000000 in
theorem take_calls_u64 {m : Nat} {c0 : Nat → Nat} {w0 : World} {j : Nat} {p : Option Addr} {a1 : Option Rdr} {f : FuncId} {fn : Func} {fst cp : Array Value} {X : Rdr → (List Int × Int) ⊕ (Int × List Int × Int)} (B0 : CB m c0 w0) (h : RD j c0 w0 p a1) (hj : 0 < j ∧ j < m)
  (hf : Tryz.prog.funcs[f]? = some fn) (hfb : fn.body.isNone = false) (hfn : (fn.name == "runtime.NumGoroutine") = false)
  (hcl : ∀ r, a1 = some r → r.fault = 0 → ∀ c1 w1, Ev No c0 w0 c1 w1 → CB (m + 3) c1 w1 → RD j c1 w1 p (some r) → Calls Tryz.prog f (fst ++ cp) w1 (RX (m + 4) j c1 w1 p r.outer (X r) (retI .u64))) :
  Calls Tryz.prog 81 #[.pointer p, .func (.func f) fst cp] w0 (fun e w_ => ∃ c_, Ev (fun x => x = j) c0 w0 c_ w_ ∧ CB (m + 4) c_ w_ ∧ (∃ v, e = .returned v ∧ (retI .u64) (takeF 0 a1 X).1 c_ w_ v) ∧ RD j c_ w_ p (takeF 0 a1 X).2) := by
 refine enterD (N := 19) (l := [.pointer p, .func (.func f) fst cp]) Tryz.func81 rfl rfl (nb rfl) fun a F => ?_; refine sr fun K1 hK1 => ?_; refine q_eff F rfl rfl (by decide) (e_box F rfl c0 m) ?_; rintro v w1 a ⟨c1, qb, rfl, E1, hb1, M1⟩ F; have hb1 : AT true m c1 w1 qb [.pointer p] := hb1; have B1 : CB (m + 4) c1 w1 := M1 _ (B0.mono (by omega)) (by omega); refine q_eff F rfl rfl (by decide) (e_alloc F lzv_u64 c1 (m + 1)) ?_; rintro v w2 a ⟨c2, qv, rfl, E2, hv2, M2⟩ F; have hv2 : AT true (m + 1) c2 w2 qv [.int .u64 0] := hv2; have B2 : CB (m + 4) c2 w2 := M2 _ B1 (by omega); refine nil (hK1 _ _ ?_); refine sr fun K2 hK2 => ?_; refine q_eff F rfl rfl (by decide) (e_alloc F lzv_u64 c2 (m + 2)) ?_; rintro v w3 a ⟨c3, qz, rfl, E3, hz3, M3⟩ F; have hz3 : AT true (m + 2) c3 w3 qz [.int .u64 0] := hz3; have B3 : CB (m + 3) c3 w3 := M3 _ (M2 _ (M1 _ (B0.mono (by omega)) (by omega)) (by omega)) (by omega); have no : ∀ x, ¬ No x := fun x q => q; have hb3 : AT true m c3 w3 qb [.pointer p] := (hb1.ev E2 (no _)).ev E3 (no _); have hv3 : AT true (m + 1) c3 w3 qv [.int .u64 0] := hv2.ev E3 (no _); have E : Ev No c0 w0 c3 w3 := (E1.trans E2 (fun _ q => q)).trans E3 (fun _ q => q); have hR : RD j c3 w3 p a1 := h.ev E (no _) (no _); clear E1 E2 E3 hb1 hv2 B1 B2 M1 M2 M3; have EX : Ev (fun x => x = j ∨ m ≤ x) c0 w0 c3 w3 := E.mono (fun _ q => q.elim); refine nil (hK2 _ _ ?_); refine wp_seq_k fun K3 hK3 => ?_; refine wp_seq_k fun K4 hK4 => ?_; have early : ∀ a, Fr a 19 [(4, .pointer (some qv)), (5, .pointer (some qz)), (14, .bool true)] → takeF 0 a1 X = (0, a1) → K4 a w3 := by
  intro a F ht; refine hK4 _ _ ?_; refine wp_cond_true (F.ev rfl) ?_; refine sr fun K5 hK5 => ?_; refine G.qv F (r_load F rfl lag_u64 (AT.cell0 hz3 rfl)) fun a F => ?_; refine q_eff0 F rfl rfl (e_store0 F rfl rfl lsz_u64 hv3 (by simp) rfl) ?_; rintro w4 a ⟨E4, hv4, hs4⟩ F; refine nil (hK5 _ _ ?_); refine wp_ret ?_
  repeat (first | refine thenR ?_ | refine inbR ?_)
  show Leaves _ _ _ _ _ _ _
  rw [F.dfr]; refine leaves1 F rfl ⟨qv, rfl, lv_one lag_u64 (AT.cell0 hv4 rfl)⟩ ?_; refine ⟨c3, (EX.trans (E4.mono (M' := fun x => x = j ∨ m ≤ x) (fun x q => Or.inr (by omega))) (fun _ q => q)).leave B0 id (fun _ _ => rfl), (B3.size hs4).mono (by omega), ⟨_, rfl, ?_⟩, ?_⟩
  ·rw [ht]; exact rfl
  ·rw [ht]; exact hR.ev E4 (by omega) (by omega)
 refine reg ?_; refine G.qv F (r_load F rfl lag_rd (AT.cell0 hb3 rfl)) fun a F => ?_; refine G.qv F (r_peqlA F Tryz.underlying90 rfl rfl (RD.isNone hR)) fun a F => ?_; refine G.qm F fun a F => ?_
 cases a1 with
 | none =>
  refine q_no F rfl (by decide) rfl rfl (by decide) fun a F => ?_; refine q_no F rfl (by decide) rfl rfl (by decide) fun a F => ?_; refine q_no F rfl (by decide) rfl rfl (by decide) fun a F => ?_; refine q_no F rfl (by decide) rfl rfl (by decide) fun a F => ?_; refine q_no F rfl (by decide) rfl rfl (by decide) fun a F => ?_; refine G.qv F (r_pick_t F rfl rfl rfl) fun a F => ?_; refine nil ?_; exact early a (F.sub ⟨rfl, rfl, rfl, trivial⟩) rfl
 | some r =>
  obtain ⟨ad, A1, C1, A2, C2, rfl, hat, hl, ho⟩ := RD.some hR; refine q_yes F rfl (by decide) rfl rfl ?_; refine G.qv F (r_load F rfl lag_rd (AT.cell0 hb3 rfl)) fun a F => ?_; refine q_yes F rfl (by decide) rfl rfl ?_; refine G.qv F (r_nil F rfl) fun a F => ?_; refine q_yes F rfl (by decide) rfl rfl ?_; refine G.qv F (r_fieldAddr F rfl ff_122_2) fun a F => ?_; refine q_yes F rfl (by decide) rfl rfl ?_; refine G.qv F (r_load F rfl ag_40 (AT.cell hat rfl)) fun a F => ?_; refine q_yes F rfl (by decide) rfl rfl ?_; refine G.qv F (r_neq F rfl rfl) fun a F => ?_; refine G.qv F (r_pick_f F rfl rfl rfl) fun a F => ?_; refine nil ?_
  by_cases hft : r.fault = 0
  ·rw [decide_eq_true hft] at F
   refine hK4 _ _ ?_; refine wp_cond_false (F.ev rfl) ?_; refine wp_skip ?_; refine hK3 _ _ ?_; have htk : takeF 0 (some r) X = rtake 0 r (X r) := by unfold takeF; simp only [if_pos hft]
   rw [htk]; refine wp_seq_k fun K5 hK5 => ?_; refine preg ?_; refine p_val F rfl rfl (by decide) (r_makeFunc (vs := [.pointer (some qb), .pointer (some qz), .pointer (some qv)]) F rfl) fun a F => ?_; refine p_defer F rfl rfl (r_defer F rfl) fun a F => ?_; refine pnil ?_; refine hK5 _ _ ?_; refine wp_seq_k fun K6 hK6 => ?_; refine preg ?_; refine p_val F rfl rfl (by decide) (r_move F rfl) fun a F => ?_; refine p_call F rfl rfl (by decide) (r_callv F hf hfb hfn rfl) (hcl r rfl hft c3 w3 E B3 hR) ?_; rintro e w4 ⟨c4, E4, B4, hx⟩; have hb4 := hb3.ev E4 (show ¬ m = j by omega); have hv4 := hv3.ev E4 (show ¬ m + 1 = j by omega); have hz4 := hz3.ev E4 (show ¬ m + 2 = j by omega)
   generalize hXr : X r = res at hx
   match res with
   | .inl (l, ft) =>
    right
    obtain ⟨⟨t, u, rfl⟩, hR4⟩ := hx; refine ⟨_, rfl, fun a F => ?_⟩
    repeat (first | refine thenP ?_ | refine inbP ?_)
    show Leaves _ _ _ _ _ _ _
    rw [F.dfr]; refine leaves_cons (f := 101) (args := #[.pointer (some qb), .pointer (some qz), .pointer (some qv)]) (by simp) (invoke_fn (args := #[]) Tryz.func101 rfl rfl) ?_; refine (catchP_u64 (jb := m) (jz := m + 2) (jv := m + 1) hj.1 hR4 hb4 hz4 hv4 (by omega) (by omega) (by omega) (by omega) rfl t u []).mono ?_; rintro e u' w6 ⟨rfl, rfl, E6, hs6, hR6, hv6⟩
    show Leaves _ _ _ _ _ .returning _
    refine leaves1 F rfl ⟨qv, rfl, lv_one lag_u64 (AT.cell0 hv6 rfl)⟩ ?_; refine ⟨c4, ((EX.trans (E4.mono (M' := fun x => x = j ∨ m ≤ x) (fun x q => Or.inl q)) (fun _ q => q)).trans (E6.mono (M' := fun x => x = j ∨ m ≤ x) (fun x q => q.elim (fun q => Or.inl q) (fun q => Or.inr (by omega)))) (fun _ q => q)).leave B0 id (fun _ _ => rfl), B4.size hs6, ⟨_, rfl, ?_⟩, hR6⟩; exact rfl
   | .inr (x, l, ft) =>
    left
    obtain ⟨⟨v, rfl, hv⟩, hR4⟩ := hx; have hone : v.oneCell' = true := by cases (show v = .int .u64 x from hv); rfl
    refine ⟨v, rfl, fun a F => ?_⟩; refine p_eff0 F rfl rfl (e_store0 F rfl rfl lsz_u64 hv4 (by simp) hone) ?_; rintro w5 a ⟨E5, hv5, hs5⟩ F; have hv5 : AT true (m + 1) c4 w5 qv [v] := hv5; refine pnil ?_; refine hK6 _ _ ?_; refine wp_ret ?_
    repeat (first | refine thenR ?_ | refine inbR ?_)
    show Leaves _ _ _ _ _ _ _
    rw [F.dfr]; refine leaves_cons (f := 101) (args := #[.pointer (some qb), .pointer (some qz), .pointer (some qv)]) (by simp) (invoke_fn (args := #[]) Tryz.func101 rfl rfl) ?_; refine (catchR_u64 (jb := m) (jz := m + 2) (jv := m + 1) hj.1 (hR4.ev E5 (by omega) (by omega)) (hb4.ev E5 (by omega)) (hz4.ev E5 (by omega)) hv5 (by omega) (by omega) (by omega) (by omega) rfl).mono ?_; rintro e u' w6 ⟨rfl, rfl, E6, hs6, hR6, hv6⟩
    show Leaves _ _ _ _ _ .returning _
    refine leaves1 F rfl ⟨qv, rfl, lv_one lag_u64 (AT.cell0 hv6 rfl)⟩ ?_; rw [hXr]; have ET : Ev (fun x => x = j) c0 w0 c4 w6 := (((EX.trans (E4.mono (M' := fun x => x = j ∨ m ≤ x) (fun x q => Or.inl q)) (fun _ q => q)).trans (E5.mono (M' := fun x => x = j ∨ m ≤ x) (fun x q => Or.inr (by omega))) (fun _ q => q)).trans (E6.mono (M' := fun x => x = j ∨ m ≤ x) (fun x q => q.elim (fun q => Or.inl q) (fun q => Or.inr (by omega)))) (fun _ q => q)).leave B0 id (fun _ _ => rfl)
    by_cases hq : ft = 0
    ·rw [if_pos (show (⟨l, r.outer, ft⟩ : Rdr).fault = 0 from hq)]
     refine ⟨c4, ET, (B4.size hs5).size hs6, ⟨_, rfl, ?_⟩, ?_⟩
     ·show (retI .u64) (rtake 0 r (.inr (x, l, ft))).1 c4 w6 v
      unfold rtake; simp only [if_pos hq]; exact hv
     ·unfold rtake; simp only [if_pos hq]; exact hR6
    ·rw [if_neg (show ¬ (⟨l, r.outer, ft⟩ : Rdr).fault = 0 from hq)]
     refine ⟨c4, ET, (B4.size hs5).size hs6, ⟨_, rfl, ?_⟩, ?_⟩
     ·show (retI .u64) (rtake 0 r (.inr (x, l, ft))).1 c4 w6 _
      unfold rtake; simp only [if_neg hq]; exact rfl
     ·unfold rtake; simp only [if_neg hq]; exact hR6
  ·rw [decide_eq_false hft] at F
   exact early a (F.sub ⟨rfl, rfl, rfl, trivial⟩) (by unfold takeF; simp only [if_neg hft])
set_option maxRecDepth 100000 in
set_option maxHeartbeats 4000000 in
theorem take_calls_bytes {m : Nat} {c0 : Nat → Nat} {w0 : World} {j : Nat} {p : Option Addr} {a1 : Option Rdr} {f : FuncId} {fn : Func} {fst cp : Array Value} {X : Rdr → (List Int × Int) ⊕ (List Int × List Int × Int)} (B0 : CB m c0 w0) (h : RD j c0 w0 p a1) (hj : 0 < j ∧ j < m)
  (hf : Tryz.prog.funcs[f]? = some fn) (hfb : fn.body.isNone = false) (hfn : (fn.name == "runtime.NumGoroutine") = false)
  (hcl : ∀ r, a1 = some r → r.fault = 0 → ∀ c1 w1, Ev No c0 w0 c1 w1 → CB (m + 3) c1 w1 → RD j c1 w1 p (some r) → Calls Tryz.prog f (fst ++ cp) w1 (RX (m + 4) j c1 w1 p r.outer (X r) (retT (m + 3)))) :
  Calls Tryz.prog 83 #[.pointer p, .func (.func f) fst cp] w0 (fun e w_ => ∃ c_, Ev (fun x => x = j) c0 w0 c_ w_ ∧ CB (m + 4) c_ w_ ∧ (∃ v, e = .returned v ∧ (retT (m + 3)) (takeF ([] : List Int) a1 X).1 c_ w_ v) ∧ RD j c_ w_ p (takeF ([] : List Int) a1 X).2) := by
 refine enterD (N := 19) (l := [.pointer p, .func (.func f) fst cp]) Tryz.func83 rfl rfl (nb rfl) fun a F => ?_; refine sr fun K1 hK1 => ?_; refine q_eff F rfl rfl (by decide) (e_box F rfl c0 m) ?_; rintro v w1 a ⟨c1, qb, rfl, E1, hb1, M1⟩ F; have hb1 : AT true m c1 w1 qb [.pointer p] := hb1; have B1 : CB (m + 4) c1 w1 := M1 _ (B0.mono (by omega)) (by omega); refine q_eff F rfl rfl (by decide) (e_alloc F lzv_bytes c1 (m + 1)) ?_; rintro v w2 a ⟨c2, qv, rfl, E2, hv2, M2⟩ F; have hv2 : AT true (m + 1) c2 w2 qv [.slice none 0 0] := hv2; have B2 : CB (m + 4) c2 w2 := M2 _ B1 (by omega); refine nil (hK1 _ _ ?_); refine sr fun K2 hK2 => ?_; refine q_eff F rfl rfl (by decide) (e_alloc F lzv_bytes c2 (m + 2)) ?_; rintro v w3 a ⟨c3, qz, rfl, E3, hz3, M3⟩ F; have hz3 : AT true (m + 2) c3 w3 qz [.slice none 0 0] := hz3; have B3 : CB (m + 3) c3 w3 := M3 _ (M2 _ (M1 _ (B0.mono (by omega)) (by omega)) (by omega)) (by omega); have no : ∀ x, ¬ No x := fun x q => q; have hb3 : AT true m c3 w3 qb [.pointer p] := (hb1.ev E2 (no _)).ev E3 (no _); have hv3 : AT true (m + 1) c3 w3 qv [.slice none 0 0] := hv2.ev E3 (no _); have E : Ev No c0 w0 c3 w3 := (E1.trans E2 (fun _ q => q)).trans E3 (fun _ q => q); have hR : RD j c3 w3 p a1 := h.ev E (no _) (no _); clear E1 E2 E3 hb1 hv2 B1 B2 M1 M2 M3; have EX : Ev (fun x => x = j ∨ m ≤ x) c0 w0 c3 w3 := E.mono (fun _ q => q.elim); refine nil (hK2 _ _ ?_); refine wp_seq_k fun K3 hK3 => ?_; refine wp_seq_k fun K4 hK4 => ?_; have early : ∀ a, Fr a 19 [(4, .pointer (some qv)), (5, .pointer (some qz)), (14, .bool true)] → takeF ([] : List Int) a1 X = (([] : List Int), a1) → K4 a w3 := by
  intro a F ht; refine hK4 _ _ ?_; refine wp_cond_true (F.ev rfl) ?_; refine sr fun K5 hK5 => ?_; refine G.qv F (r_load F rfl lag_bytes (AT.cell0 hz3 rfl)) fun a F => ?_; refine q_eff0 F rfl rfl (e_store0 F rfl rfl lsz_bytes hv3 (by simp) rfl) ?_; rintro w4 a ⟨E4, hv4, hs4⟩ F; refine nil (hK5 _ _ ?_); refine wp_ret ?_
  repeat (first | refine thenR ?_ | refine inbR ?_)
  show Leaves _ _ _ _ _ _ _
  rw [F.dfr]; refine leaves1 F rfl ⟨qv, rfl, lv_one lag_bytes (AT.cell0 hv4 rfl)⟩ ?_; refine ⟨c3, (EX.trans (E4.mono (M' := fun x => x = j ∨ m ≤ x) (fun x q => Or.inr (by omega))) (fun _ q => q)).leave B0 id (fun _ _ => rfl), (B3.size hs4).mono (by omega), ⟨_, rfl, ?_⟩, ?_⟩
  ·rw [ht]; exact ⟨none, 0, rfl, SL.nil⟩
  ·rw [ht]; exact hR.ev E4 (by omega) (by omega)
 refine reg ?_; refine G.qv F (r_load F rfl lag_rd (AT.cell0 hb3 rfl)) fun a F => ?_; refine G.qv F (r_peqlA F Tryz.underlying90 rfl rfl (RD.isNone hR)) fun a F => ?_; refine G.qm F fun a F => ?_
 cases a1 with
 | none =>
  refine q_no F rfl (by decide) rfl rfl (by decide) fun a F => ?_; refine q_no F rfl (by decide) rfl rfl (by decide) fun a F => ?_; refine q_no F rfl (by decide) rfl rfl (by decide) fun a F => ?_; refine q_no F rfl (by decide) rfl rfl (by decide) fun a F => ?_; refine q_no F rfl (by decide) rfl rfl (by decide) fun a F => ?_; refine G.qv F (r_pick_t F rfl rfl rfl) fun a F => ?_; refine nil ?_; exact early a (F.sub ⟨rfl, rfl, rfl, trivial⟩) rfl
 | some r =>
  obtain ⟨ad, A1, C1, A2, C2, rfl, hat, hl, ho⟩ := RD.some hR; refine q_yes F rfl (by decide) rfl rfl ?_; refine G.qv F (r_load F rfl lag_rd (AT.cell0 hb3 rfl)) fun a F => ?_; refine q_yes F rfl (by decide) rfl rfl ?_; refine G.qv F (r_nil F rfl) fun a F => ?_; refine q_yes F rfl (by decide) rfl rfl ?_; refine G.qv F (r_fieldAddr F rfl ff_122_2) fun a F => ?_; refine q_yes F rfl (by decide) rfl rfl ?_; refine G.qv F (r_load F rfl ag_40 (AT.cell hat rfl)) fun a F => ?_; refine q_yes F rfl (by decide) rfl rfl ?_; refine G.qv F (r_neq F rfl rfl) fun a F => ?_; refine G.qv F (r_pick_f F rfl rfl rfl) fun a F => ?_; refine nil ?_
  by_cases hft : r.fault = 0
  ·rw [decide_eq_true hft] at F
   refine hK4 _ _ ?_; refine wp_cond_false (F.ev rfl) ?_; refine wp_skip ?_; refine hK3 _ _ ?_; have htk : takeF ([] : List Int) (some r) X = rtake ([] : List Int) r (X r) := by unfold takeF; simp only [if_pos hft]
   rw [htk]; refine wp_seq_k fun K5 hK5 => ?_; refine preg ?_; refine p_val F rfl rfl (by decide) (r_makeFunc (vs := [.pointer (some qb), .pointer (some qz), .pointer (some qv)]) F rfl) fun a F => ?_; refine p_defer F rfl rfl (r_defer F rfl) fun a F => ?_; refine pnil ?_; refine hK5 _ _ ?_; refine wp_seq_k fun K6 hK6 => ?_; refine preg ?_; refine p_val F rfl rfl (by decide) (r_move F rfl) fun a F => ?_; refine p_call F rfl rfl (by decide) (r_callv F hf hfb hfn rfl) (hcl r rfl hft c3 w3 E B3 hR) ?_; rintro e w4 ⟨c4, E4, B4, hx⟩; have hb4 := hb3.ev E4 (show ¬ m = j by omega); have hv4 := hv3.ev E4 (show ¬ m + 1 = j by omega); have hz4 := hz3.ev E4 (show ¬ m + 2 = j by omega)
   generalize hXr : X r = res at hx
   match res with
   | .inl (l, ft) =>
    right
    obtain ⟨⟨t, u, rfl⟩, hR4⟩ := hx; refine ⟨_, rfl, fun a F => ?_⟩
    repeat (first | refine thenP ?_ | refine inbP ?_)
    show Leaves _ _ _ _ _ _ _
    rw [F.dfr]; refine leaves_cons (f := 102) (args := #[.pointer (some qb), .pointer (some qz), .pointer (some qv)]) (by simp) (invoke_fn (args := #[]) Tryz.func102 rfl rfl) ?_; refine (catchP_bytes (jb := m) (jz := m + 2) (jv := m + 1) hj.1 hR4 hb4 hz4 hv4 (by omega) (by omega) (by omega) (by omega) rfl t u []).mono ?_; rintro e u' w6 ⟨rfl, rfl, E6, hs6, hR6, hv6⟩
    show Leaves _ _ _ _ _ .returning _
    refine leaves1 F rfl ⟨qv, rfl, lv_one lag_bytes (AT.cell0 hv6 rfl)⟩ ?_; refine ⟨c4, ((EX.trans (E4.mono (M' := fun x => x = j ∨ m ≤ x) (fun x q => Or.inl q)) (fun _ q => q)).trans (E6.mono (M' := fun x => x = j ∨ m ≤ x) (fun x q => q.elim (fun q => Or.inl q) (fun q => Or.inr (by omega)))) (fun _ q => q)).leave B0 id (fun _ _ => rfl), B4.size hs6, ⟨_, rfl, ?_⟩, hR6⟩; exact ⟨none, 0, rfl, SL.nil⟩
   | .inr (x, l, ft) =>
    left
    obtain ⟨⟨v, rfl, hv⟩, hR4⟩ := hx; have hone : v.oneCell' = true := by obtain ⟨A3, C3, e3, hs3⟩ := hv; rw [e3]; rfl
    refine ⟨v, rfl, fun a F => ?_⟩; refine p_eff0 F rfl rfl (e_store0 F rfl rfl lsz_bytes hv4 (by simp) hone) ?_; rintro w5 a ⟨E5, hv5, hs5⟩ F; have hv5 : AT true (m + 1) c4 w5 qv [v] := hv5; refine pnil ?_; refine hK6 _ _ ?_; refine wp_ret ?_
    repeat (first | refine thenR ?_ | refine inbR ?_)
    show Leaves _ _ _ _ _ _ _
    rw [F.dfr]; refine leaves_cons (f := 102) (args := #[.pointer (some qb), .pointer (some qz), .pointer (some qv)]) (by simp) (invoke_fn (args := #[]) Tryz.func102 rfl rfl) ?_; refine (catchR_bytes (jb := m) (jz := m + 2) (jv := m + 1) hj.1 (hR4.ev E5 (by omega) (by omega)) (hb4.ev E5 (by omega)) (hz4.ev E5 (by omega)) hv5 (by omega) (by omega) (by omega) (by omega) rfl).mono ?_; rintro e u' w6 ⟨rfl, rfl, E6, hs6, hR6, hv6⟩
    show Leaves _ _ _ _ _ .returning _
    refine leaves1 F rfl ⟨qv, rfl, lv_one lag_bytes (AT.cell0 hv6 rfl)⟩ ?_; rw [hXr]; have ET : Ev (fun x => x = j) c0 w0 c4 w6 := (((EX.trans (E4.mono (M' := fun x => x = j ∨ m ≤ x) (fun x q => Or.inl q)) (fun _ q => q)).trans (E5.mono (M' := fun x => x = j ∨ m ≤ x) (fun x q => Or.inr (by omega))) (fun _ q => q)).trans (E6.mono (M' := fun x => x = j ∨ m ≤ x) (fun x q => q.elim (fun q => Or.inl q) (fun q => Or.inr (by omega)))) (fun _ q => q)).leave B0 id (fun _ _ => rfl)
    by_cases hq : ft = 0
    ·rw [if_pos (show (⟨l, r.outer, ft⟩ : Rdr).fault = 0 from hq)]
     refine ⟨c4, ET, (B4.size hs5).size hs6, ⟨_, rfl, ?_⟩, ?_⟩
     ·show (retT (m + 3)) (rtake ([] : List Int) r (.inr (x, l, ft))).1 c4 w6 v
      unfold rtake; simp only [if_pos hq]; obtain ⟨A3, C3, e3, hs3⟩ := hv; exact ⟨A3, C3, e3, (hs3.ev E5 (by omega) (by omega)).ev E6 (by omega) (by omega)⟩
     ·unfold rtake; simp only [if_pos hq]; exact hR6
    ·rw [if_neg (show ¬ (⟨l, r.outer, ft⟩ : Rdr).fault = 0 from hq)]
     refine ⟨c4, ET, (B4.size hs5).size hs6, ⟨_, rfl, ?_⟩, ?_⟩
     ·show (retT (m + 3)) (rtake ([] : List Int) r (.inr (x, l, ft))).1 c4 w6 _
      unfold rtake; simp only [if_neg hq]; exact ⟨none, 0, rfl, SL.nil⟩
     ·unfold rtake; simp only [if_neg hq]; exact hR6
  ·rw [decide_eq_false hft] at F
   exact early a (F.sub ⟨rfl, rfl, rfl, trivial⟩) (by unfold takeF; simp only [if_neg hft])
theorem r_makeFunc1 {P : Program} {a : Act} {N : Nat} {L : List (Nat × Value)} {D : List Deferred} {w : World} {x : Operand} {v : Value} {d : Option Tmp} {ty : TypeId} {pos : String} {af : Array Edge} {gd : Option (Nat × Bool)} {f : FuncId} (F : Fr a N L D) (hx : ev L x = some v) :
  (execOp a.eval { dst := d, op := .makeFunc (.func f) #[x] #[], type := ty, pos := pos, after := af, guard := gd }).run P w = .ok (.value (.func (.func f) #[v] #[])) w := by
 simp [execOp, F.ev hx, Instr.makeFunc, Sem.run_bind, Sem.run_pure, Result.andThen]
set_option maxHeartbeats 2000000 in
theorem R_Num.calls {m : Nat} {c0 : Nat → Nat} {w0 : World} {j4 : Nat} {p2 : Option Addr} {a1 : Option Rdr} (hm0 : 0 < m) (B0 : CB m c0 w0) (h3 : RD j4 c0 w0 p2 a1) (bj4 : 0 < j4 ∧ j4 < m) (r : Int × (Option Rdr)) (H : R_Num.f a1 = some r) :
  Calls Tryz.prog 52 #[.pointer p2] w0 (fun e w_ => ∃ (c_ : Nat → Nat), e = .returned (.int .u64 r.1) ∧ Ev (fun x => (x = j4)) c0 w0 c_ w_ ∧ CB m c_ w_ ∧ RD j4 c_ w_ p2 r.2) := by
 have hr : r = takeF 0 a1 (fun r => rnum r.fault r.left 0 0) := by
  unfold R_Num.f at H; unfold takeF
  cases a1 with
  | none => exact (Option.some.inj H).symm
  | some q =>
   simp only at H ⊢
   split at H
   ·rename_i hq; rw [if_pos hq]; exact (Option.some.inj H).symm
   ·rename_i hq; rw [if_neg hq]; exact (Option.some.inj H).symm
 subst hr; refine enter (N := 7) (l := [.pointer p2]) Tryz.func52 rfl rfl (nb rfl) fun a F => ?_; refine sr fun K1 hK1 => ?_; refine G.qa F fun a F => ?_; refine nil (hK1 _ _ ?_); refine sr fun K2 hK2 => ?_; refine G.qm F fun a F => ?_; refine G.qm F fun a F => ?_; refine G.qv F (r_makeFunc1 F rfl) fun a F => ?_; refine q_call F rfl rfl (by decide) (r_call (vs := [.pointer p2, .func (.func 82) #[.pointer p2] #[]]) F Tryz.func81 rfl rfl rfl) (take_calls_u64 (X := fun r => rnum r.fault r.left 0 0) B0 h3 bj4 Tryz.func82 rfl rfl (fun r e0 _ c1 w1 E1 B1 hR => num_calls (B1.mono (by omega)) hR bj4.1)) ?_; rintro e w1 ⟨c1, E, B, ⟨v, rfl, hv⟩, hR⟩; have hv : v = .int .u64 (takeF 0 a1 (fun r => rnum r.fault r.left 0 0)).1 := hv; subst hv; refine ⟨_, rfl, fun a F => ?_⟩; refine G.qa F fun a F => ?_; refine nil (hK2 _ _ ?_); refine wp_ret ?_; refine out1 F rfl rfl ?_; have EL := (E.mono (M' := fun x => x = j4 ∨ m ≤ x) (fun _ q => Or.inl q)).leave B0 (fun x => if x < m then x else 0) (fun x hx => if_pos hx); exact ⟨fun b => if c1 b < m then c1 b else 0, rfl, EL, fun b hb => by show (if c1 b < m then c1 b else 0) < m; split <;> omega, hR.rc (fun k hk => by show (if c1 k < m then c1 k else 0) = _; rw [hk, if_pos bj4.2]) (fun k hk => by show (if c1 k < m then c1 k else 0) = _; rw [hk]; split <;> omega)⟩
set_option maxHeartbeats 2000000 in
theorem R_Text.calls {m : Nat} {c0 : Nat → Nat} {w0 : World} {j4 : Nat} {p2 : Option Addr} {a1 : Option Rdr} {a6 : Int} (hm0 : 0 < m) (B0 : CB m c0 w0) (h3 : RD j4 c0 w0 p2 a1) (bj4 : 0 < j4 ∧ j4 < m) (jr : Nat) (bjr : jr < m) (r : (List Int) × (Option Rdr)) (H : R_Text.f a1 a6 = some r) :
  Calls Tryz.prog 53 #[.pointer p2, .int .i64 a6] w0 (fun e w_ => ∃ (c_ : Nat → Nat) (A0_ : Option Addr) (C0_ : Nat), e = .returned (.slice A0_ r.1.length C0_) ∧ Ev (fun x => (x = j4)) c0 w0 c_ w_ ∧ CB m c_ w_ ∧ SL true (Kint .u8) jr 0 c_ w_ A0_ C0_ r.1 ∧ RD j4 c_ w_ p2 r.2) := by
 obtain ⟨X, hX, hr⟩ : ∃ X : Rdr → (List Int × Int) ⊕ (List Int × List Int × Int), (∀ q, a1 = some q → q.fault = 0 → rtext q.left q.fault a6 = some (X q)) ∧ r = takeF [] a1 X := by
  unfold R_Text.f at H
  cases a1 with
  | none => exact ⟨fun _ => .inl ([], 0), fun q e => (by cases e), (Option.some.inj H).symm⟩
  | some q =>
   simp only at H
   split at H
   ·rename_i hq
    obtain ⟨x, e1, H⟩ := bind_some H; refine ⟨fun _ => x, fun q' e _ => by cases e; exact e1, ?_⟩; unfold takeF; simp only [if_pos hq]; exact (Option.some.inj H).symm
   ·rename_i hq
    refine ⟨fun _ => .inl ([], 0), fun q' e h => by cases e; exact absurd h hq, ?_⟩; unfold takeF; simp only [if_neg hq]; exact (Option.some.inj H).symm
 subst hr; refine enter (N := 8) (l := [.pointer p2, .int .i64 a6]) Tryz.func53 rfl rfl (nb rfl) fun a F => ?_; refine sr fun K1 hK1 => ?_; refine q_eff F rfl rfl (by decide) (e_box F rfl c0 m) ?_; rintro v w1 a ⟨c1, q1, rfl, E1, hb1, M1⟩ F; have hb1 : AT true m c1 w1 q1 [.pointer p2] := hb1; refine q_eff F rfl rfl (by decide) (e_box F rfl c1 (m + 1)) ?_; rintro v w2 a ⟨c2, q2, rfl, E2, hb2, M2⟩ F; have hb2 : AT true (m + 1) c2 w2 q2 [.int .i64 a6] := hb2; have no : ∀ x, ¬ No x := fun x q => q; have B2 : CB (m + 2) c2 w2 := M2 _ (M1 _ (B0.mono (by omega)) (by omega)) (by omega); have E : Ev No c0 w0 c2 w2 := E1.trans E2 (fun _ q => q); have hR := h3.ev E (no _) (no _); have hb1 := hb1.ev E2 (no _); refine G.qa F fun a F => ?_; refine nil (hK1 _ _ ?_); refine sr fun K2 hK2 => ?_; refine G.qv F (r_load F rfl lag_rd (AT.cell0 hb1 rfl)) fun a F => ?_; refine G.qv F (r_makeFunc (vs := [.pointer (some q1), .pointer (some q2)]) F rfl) fun a F => ?_; refine q_call F rfl rfl (by decide) (r_call (vs := [.pointer p2, .func (.func 84) #[] #[.pointer (some q1), .pointer (some q2)]]) F Tryz.func83 rfl rfl rfl)
  (take_calls_bytes (X := X) (m := m + 2) B2 hR ⟨bj4.1, by omega⟩ Tryz.func84 rfl rfl (fun q e0 hf c3 w3 E3 B3 hR3 => text1_calls (jb := m) (jc := m + 1) (B3.mono (by omega)) hR3 bj4.1 (hb1.ev E3 (no _)) (hb2.ev E3 (no _)) (by omega) (by omega) (m + 2 + 3) (by omega) (by omega) (X q) (hX q e0 hf))) ?_
 rintro e w3 ⟨c3, E3, B3, ⟨v, rfl, A3, C3, rfl, hs3⟩, hR3⟩; refine ⟨_, rfl, fun a F => ?_⟩; refine G.qa F fun a F => ?_; refine nil (hK2 _ _ ?_); refine wp_ret ?_; refine out1 F rfl rfl ?_; have ET : Ev (fun x => x = j4 ∨ m ≤ x) c0 w0 c3 w3 := (E.mono (M' := fun x => x = j4 ∨ m ≤ x) (fun _ q => q.elim)).trans (E3.mono (M' := fun x => x = j4 ∨ m ≤ x) (fun _ q => Or.inl q)) (fun _ q => q); have EL := ET.leave B0 (fun x => if x = m + 5 then jr else if x < m then x else 0) (fun x hx => by show (if x = m + 5 then jr else if x < m then x else 0) = x; rw [if_neg (by omega), if_pos hx]); exact ⟨fun b => if c3 b = m + 5 then jr else if c3 b < m then c3 b else 0, A3, C3, rfl, EL, fun b hb => by show (if c3 b = m + 5 then jr else if c3 b < m then c3 b else 0) < m; (repeat' split) <;> omega,
  hs3.rc (fun k hk => by show (if c3 k = m + 5 then jr else if c3 k < m then c3 k else 0) = _; rw [hk, if_pos (by omega)]) (fun k hk => by show (if c3 k = m + 5 then jr else if c3 k < m then c3 k else 0) = _; rw [hk]; (repeat' split) <;> omega),
  hR3.rc (fun k hk => by show (if c3 k = m + 5 then jr else if c3 k < m then c3 k else 0) = _; rw [hk, if_neg (by omega), if_pos bj4.2]) (fun k hk => by show (if c3 k = m + 5 then jr else if c3 k < m then c3 k else 0) = _; rw [hk]; (repeat' split) <;> omega)⟩
set_option maxHeartbeats 2000000 in
theorem parcel_Read.calls {m : Nat} {c0 : Nat → Nat} {w0 : World} {j1 : Nat} {A2 : Option Addr} {C3 : Nat} {a1 : List Int} (hm0 : 0 < m) (B0 : CB m c0 w0) (h4 : SL false (Kint .u8) j1 0 c0 w0 A2 C3 a1) (bj1 : j1 < m) (jr : Nat) (bjr : jr < m) (r : Option Rdr) (H : parcel_Read.f a1 = some r) :
  Calls Tryz.prog 51 #[.slice A2 a1.length C3] w0 (fun e w_ => ∃ (c_ : Nat → Nat) (P0_ : Option Addr), e = .returned (.pointer P0_) ∧ Ev (fun x => False) c0 w0 c_ w_ ∧ CB m c_ w_ ∧ RD jr c_ w_ P0_ r) := by
 unfold parcel_Read.f at H; obtain ⟨g, H⟩ := ifN H; have H := Option.some.inj H; subst H; refine enter (N := 18) (l := [.slice A2 a1.length C3]) Tryz.func51 rfl rfl (nb rfl) fun a F => ?_; refine sr fun K1 hK1 => ?_; refine G.qa F fun a F => ?_; refine nil (hK1 _ _ ?_); refine sr fun K2 hK2 => ?_; refine G.qm F fun a F => ?_; refine G.qv F (r_lensl F Tryz.underlying29 rfl) fun a F => ?_; refine q_eff F rfl rfl (by decide) (e_make (k := (Kint .u8)) (x0 := 0) F et_29 rfl rfl (fun _ _ _ => rfl) (by decide) (by omega) c0 (m + 2) 0) ?_; rintro v w1 a ⟨c1, A5, C5, rfl, E1, h5, B1⟩ F; have B1 := B1 (m + 3) (B0.mono (by omega)) (by omega); have h4 := h4.ev E1 (fun q => q.elim) (fun q => q.elim); refine G.qa F fun a F => ?_; refine nil (hK2 _ _ ?_); refine sr fun K3 hK3 => ?_; refine G.qm F fun a F => ?_; refine G.qm F fun a F => ?_; refine q_eff F rfl rfl (by decide) (e_copy (k := (Kint .u8)) (xs := List.replicate ((a1.length : Nat) : Int).toNat (0 : Int)) (ys := a1) F et_29 rfl rfl h5 h4 (by omega)) ?_; rintro v w2 a ⟨rfl, E2, h5, Z2⟩ F; have e5 : a1.take (List.replicate ((a1.length : Nat) : Int).toNat (0 : Int)).length ++ (List.replicate ((a1.length : Nat) : Int).toNat (0 : Int)).drop a1.length = a1 := by simp
 have l5 : (List.replicate ((a1.length : Nat) : Int).toNat (0 : Int)).length = a1.length := by simp
 rw [e5] at h5; rw [l5] at F; refine nil (hK3 _ _ ?_); refine sr fun K4 hK4 => ?_; refine G.qm F fun a F => ?_; refine G.qm F fun a F => ?_; refine G.qv F (r_lensl F Tryz.underlying29 rfl) fun a F => ?_; refine G.qm F fun a F => ?_; refine G.qv F (r_lensl F Tryz.underlying29 rfl) fun a F => ?_; obtain ⟨A6, C6, hr6, h6⟩ := cut_nn (n := ((a1.length : Nat) : Int)) Tryz.underlying29 sz_5 h5 ⟨by omega, by omega⟩; refine G.qv F (r_slice (vl := none) (vh := some (.int .i64 ((a1.length : Nat) : Int))) (vm := some (.int .i64 ((a1.length : Nat) : Int))) F rfl rfl rfl rfl hr6) fun a F => ?_; have e6 : a1.take ((a1.length : Nat) : Int).toNat = a1 := by simp
 rw [e6] at F h6; refine q_val F rfl rfl (by decide) (r_build (v := .agg #[.slice A6 a1.length C6, .slice none 0 0, .int .i64 0]) F [(0, .slice A6 a1.length C6)] (by exact ⟨rfl, rfl, trivial⟩) (fun w => by kernel_rfl)) fun a F => ?_; refine q_eff F rfl rfl (by decide) (e_box F (v := .agg #[.slice A6 a1.length C6, .slice none 0 0, .int .i64 0]) rfl c1 (m + 1)) ?_; rintro v w3 a ⟨c3, qa, rfl, E3, h7, B3⟩ F; have B3 := B3 (m + 3) (B1.size Z2) (by omega); have h7 : AT true (m + 1) c3 w3 qa [.slice A6 a1.length C6, .slice none 0 0, .int .i64 0] := h7; have h6 := h6.ev E3 (fun q => q.elim) (fun q => q.elim); refine G.qa F fun a F => ?_; refine nil (hK4 _ _ ?_); refine wp_ret ?_; refine out1 F rfl rfl ?_; have ET : Ev (fun x => False ∨ m ≤ x) c0 w0 c3 w3 := ((E1.mono (M' := fun x => False ∨ m ≤ x) (fun _ q => q.elim)).trans (E2.mono (M' := fun x => False ∨ m ≤ x) (fun x q => Or.inr (by omega))) (fun _ q => q)).trans (E3.mono (M' := fun x => False ∨ m ≤ x) (fun _ q => q.elim)) (fun _ q => q); have EL := ET.leave B0 (fun x => if x = m + 1 then jr else if x < m then x else 0) (fun x hx => by show (if x = m + 1 then jr else if x < m then x else 0) = x; rw [if_neg (by omega), if_pos hx]); refine ⟨fun b => if c3 b = m + 1 then jr else if c3 b < m then c3 b else 0, some qa, rfl, EL, fun b hb => by show (if c3 b = m + 1 then jr else if c3 b < m then c3 b else 0) < m; (repeat' split) <;> omega, ?_⟩; exact RD.mk (t := ⟨a1, [], 0⟩) (h7.rc (fun k hk => by show (if c3 k = m + 1 then jr else if c3 k < m then c3 k else 0) = _; rw [hk, if_pos rfl])) (h6.r.rc (fun k hk => by show (if c3 k = m + 1 then jr else if c3 k < m then c3 k else 0) = _; rw [hk]; (repeat' split) <;> omega) (fun k hk => by show (if c3 k = m + 1 then jr else if c3 k < m then c3 k else 0) = _; rw [hk]; (repeat' split) <;> omega)) SL.nil
end Go.Proofs.YtcolmmjcdlmcoaaGreat.G
namespace Go.Proofs.YtcolmmjcdlmcoaaGreat.G
open Go Go.RowKit
set_option linter.unusedVariables false
set_option linter.unusedSimpArgs false
set_option maxRecDepth 100000
set_option maxHeartbeats 40000000
theorem R_Done.calls {m : Nat} {c0 : Nat → Nat} {w0 : World} {j4 : Nat} {p2 : Option Addr} {a1 : Option Rdr} (hm0 : 0 < m) (B0 : CB m c0 w0) (h3 : RD j4 c0 w0 p2 a1) (bj4 : j4 < m) (r : Int) (H : R_Done.f a1 = some r) : Calls Tryz.prog 54 #[.pointer p2] w0 (fun e w_ => ∃ (c_ : Nat → Nat), e = .returned (.int .i64 r) ∧ Ev (fun x => False) c0 w0 c_ w_ ∧ CB m c_ w_) := by
 unfold R_Done.f at H; have B := B0.mono (show m ≤ m + 1 by omega); have E : Ev (fun x => False ∨ m ≤ x) c0 w0 c0 w0 := Ev.refl; refine enter (N := 31) (l := [.pointer p2]) Tryz.func54 rfl rfl (nb rfl) fun a F => ?_; refine sr fun K5 hK5 => qa F fun a F => nil (hK5 _ _ ?_); refine sq fun K6 hK6 => ?_; refine wp_block ?_; refine sr fun K7 hK7 => qm F fun a F => ?_; refine qv F (r_peqlA F Tryz.underlying90 rfl rfl (RD.isNone h3)) fun a F => ?_; refine qa F fun a F => nil (hK7 _ _ ?_)
 by_cases hb8 : (Option.isNone a1) = true
 ·have H := ip hb8 H; refine wct (fb F hb8) ?_; refine sr fun K9 hK9 => qa F fun a F => nil (hK9 _ _ ?_); refine wp_ret ?_; refine inbR ?_; refine thenR ?_; obtain rfl := si H; refine out1 F rfl rfl ?_; exact ⟨cf (ct m) c0, rfl, E.lv B0, cfb⟩
 have H := im hb8 H; refine wcf (fb F (bfalse hb8)) ?_; refine sr fun K10 hK10 => qm F fun a F => ?_; obtain ⟨ob11, e12, H⟩ := bind_some H; have z13 := h3; rw [e12] at z13; obtain ⟨ad14, A16, C17, A19, C20, rfl, hat15, h18, h21⟩ := RD.some z13; refine qi F fun a F => ?_; refine qf F ff_122_2 fun a F => ?_; refine ql F ag_40 hat15 fun a F => ?_; refine qv F (r_neq F rfl rfl) fun a F => ?_; refine qa F fun a F => nil (hK10 _ _ ?_); have F : Fr a 31 [(0, .pointer (some ad14)), (6, .bool (!decide (ob11.fault = 0)))] := F.sub ⟨rfl, rfl, trivial⟩
 by_cases hb23 : ob11.fault = 0
 ·have H := ip hb23 H; refine wcf (fb F (congrArg not (dt hb23))) ?_; refine sq fun K24 hK24 => ?_; have J27 : ∀ (c28 : Nat → Nat) (w29 : World) (a : Act) (b26 : Bool), Fr a 31 [(16, .bool b26)] → Ev (fun x => False ∨ m ≤ x) c0 w0 c28 w29 → CB (m + 1) c28 w29 → R_Done.j1 b26 = some r → K24 a w29 := by
   intro c28 w29 a b26 F E B  H; unfold R_Done.j1 at H; refine hK24 _ _ ?_
   by_cases hb30 : b26 = true
   ·have H := ip hb30 H; refine wct (fb F hb30) ?_; refine sr fun K31 hK31 => qa F fun a F => nil (hK31 _ _ ?_); refine wp_ret ?_; refine inbR ?_; refine thenR ?_; obtain rfl := si H; refine out1 F rfl rfl ?_; exact ⟨cf (ct m) c28, rfl, E.lv B0, cfb⟩
   have H := im hb30 H; refine wcf (fb F (bfalse hb30)) (wp_skip (hK6 _ _ ?_)); refine sr fun K33 hK33 => qa F fun a F => nil (hK33 _ _ ?_); refine wp_ret ?_; obtain rfl := si H; refine out1 F rfl rfl ?_; exact ⟨cf (ct m) c28, rfl, E.lv B0, cfb⟩
  refine reg ?_; refine qm F fun a F => ?_; refine qi F fun a F => ?_; refine qf F ff_122_0 fun a F => ?_; refine ql F ag_29 hat15 fun a F => ?_; refine qv F (r_lensl F Tryz.underlying29 rfl) fun a F => ?_; refine qv F (r_gtr F rfl rfl) fun a F => ?_; refine qm F fun a F => ?_
  by_cases hb25 : 0 < (ob11.left.length : Int)
  ·have H := ip hb25 H; refine qn F (dt hb25) fun a F => qn F (dt hb25) fun a F => qn F (dt hb25) fun a F => qn F (dt hb25) fun a F => qn F (dt hb25) fun a F => qn F (dt hb25) fun a F => ?_; refine qv F (r_pick_t F rfl (dt hb25) rfl) fun a F => ?_; refine qa F fun a F => nil ?_; exact J27 c0 w0 a true (F.sub ⟨rfl, trivial⟩) E B  H
  have H := im hb25 H; refine qy F (dz hb25) ?_; refine qm F fun a F => ?_; refine qy F (dz hb25) ?_; refine qi F fun a F => ?_; refine qy F (dz hb25) ?_; refine qf F ff_122_1 fun a F => ?_; refine qy F (dz hb25) ?_; refine ql F ag_120 hat15 fun a F => ?_; refine qy F (dz hb25) ?_; refine qv F (r_lensl F Tryz.underlying120 rfl) fun a F => ?_; refine qy F (dz hb25) ?_; refine qv F (r_gtr F rfl rfl) fun a F => ?_; refine qv F (r_pick_f F rfl (dz hb25) rfl) fun a F => ?_; refine qa F fun a F => nil ?_; exact J27 c0 w0 a (decide (0 < (ob11.outer.length : Int))) (F.sub ⟨rfl, trivial⟩) E B  H
 have H := im hb23 H; refine wct (fb F (congrArg not (dz hb23))) ?_; refine sr fun K32 hK32 => qm F fun a F => ?_; refine qi F fun a F => ?_; refine qf F ff_122_2 fun a F => ?_; refine ql F ag_40 hat15 fun a F => ?_; refine qa F fun a F => nil (hK32 _ _ ?_); refine wp_ret ?_; refine inbR ?_; refine thenR ?_; obtain rfl := si H; refine out1 F rfl rfl ?_; exact ⟨cf (ct m) c0, rfl, E.lv B0, cfb⟩
theorem tree_New.calls {m : Nat} {c0 : Nat → Nat} {w0 : World} (hm0 : 0 < m) (B0 : CB m c0 w0) (r : Tr) (H : tree_New.f = some r) : Calls Tryz.prog 13 #[] w0 (fun e w_ => ∃ (c_ : Nat → Nat) (P0_ : Option Addr), e = .returned (.pointer P0_) ∧ Ev (fun x => False) c0 w0 c_ w_ ∧ CB m c_ w_ ∧ TR 0 c_ w_ P0_ r) := by
 unfold tree_New.f at H; have B := B0.mono (show m ≤ m + 1 by omega); have E : Ev (fun x => False ∨ m ≤ x) c0 w0 c0 w0 := Ev.refl; refine enter (N := 1) (l := []) Tryz.func13 rfl rfl (nb rfl) fun a F => ?_; refine sr fun K1 hK1 => qa F fun a F => nil (hK1 _ _ ?_); refine sr fun K2 hK2 => qa F fun a F => nil (hK2 _ _ ?_); refine wp_ret ?_; obtain rfl := si H; refine out1 F rfl rfl ?_; exact ⟨cf (ct m) c0, none, rfl, E.lv B0, cfb, TR.nil⟩
theorem table_New.calls {m : Nat} {c0 : Nat → Nat} {w0 : World} (hm0 : 0 < m) (B0 : CB m c0 w0) (jr20 : Nat) (bjr20 : jr20 < m) (r : (Option Tab)) (H : table_New.f = some r) : Calls Tryz.prog 5 #[] w0 (fun e w_ => ∃ (c_ : Nat → Nat) (P0_ : Option Addr), e = .returned (.pointer P0_) ∧ Ev (fun x => False) c0 w0 c_ w_ ∧ CB m c_ w_ ∧ TB jr20 c_ w_ P0_ r) := by
 unfold table_New.f at H; have B := B0.mono (show m ≤ m + 2 by omega); have E : Ev (fun x => False ∨ m ≤ x) c0 w0 c0 w0 := Ev.refl; refine enter (N := 4) (l := []) Tryz.func5 rfl rfl (nb rfl) fun a F => ?_; refine sr fun K1 hK1 => qa F fun a F => nil (hK1 _ _ ?_); refine sr fun K2 hK2 => ?_; obtain ⟨t3, q4, H⟩ := bind_some H; refine qc F Tryz.func13 (tree_New.calls (m := m + 2) (pl hm0) B _ q4) ?_; rintro e w6 ⟨c5, p9, rfl, E7, B, h10⟩; refine rt fun a F => ?_; have E := E.n E7; refine qv F (r_build (v := .agg #[.pointer p9, .int .i64 0, .int .i64 0]) F [(0, .pointer p9)] (by exact ⟨rfl, rfl, trivial⟩) (fun w => by kernel_rfl)) fun a F => ?_; refine q_eff F rfl rfl (by decide) (e_box F (v := .agg #[.pointer p9, .int .i64 0, .int .i64 0]) rfl c5 (m + 1)) ?_; rintro v w13 a ⟨c12, qa14, rfl, E15, h16, B17⟩ F; have B := B17 _ B lm; have h10 := h10.ev E15; have E := E.n E15; have h16 : AT _ _ _ _ _ [.pointer p9, .int .i64 0, .int .i64 0] := h16; refine qa F fun a F => nil (hK2 _ _ ?_); refine wp_ret ?_; have h19 : TB (m + 1) c12 w13 (some qa14) (some (Tab.mk t3 0 0)) := TB.mk h16 h10; obtain rfl := si H; refine out1 F rfl rfl ?_; exact ⟨cf (fun x_ => if x_ = m + 1 then jr20 else if x_ < m then x_ else 0) c12, (some qa14), rfl, E.lv B0, cfb, TB.rc h19 cfk cfk⟩
theorem tR_.calls (k : Nat) {m : Nat} {c0 : Nat → Nat} {w0 : World} {j5 : Nat} {A2 : Option Addr} {C3 : Nat} {a1 : List Int} (hm0 : 0 < m) (B0 : CB m c0 w0) (h4 : SL false (Kint .u8) j5 0 c0 w0 A2 C3 a1) (bj5 : j5 < m) (jr533 : Nat) (bjr533 : jr533 < m) (r : (Option Tab) × Int) (H : tR_.f k a1 = some r) : Calls Tryz.prog 16 #[.slice A2 a1.length C3] w0 (fun e w_ => ∃ (c_ : Nat → Nat) (P0_ : Option Addr), e = .returned (.tuple #[.pointer P0_, .int .i64 r.2]) ∧ Ev (fun x => False) c0 w0 c_ w_ ∧ CB m c_ w_ ∧ TB jr533 c_ w_ P0_ r.1) := by
 unfold tR_.f at H; have B := B0.mono (show m ≤ m + 5 by omega); have E : Ev (fun x => False ∨ m ≤ x) c0 w0 c0 w0 := Ev.refl; refine enter (N := 81) (l := [.slice A2 a1.length C3]) Tryz.func16 rfl rfl (nb rfl) fun a F => ?_; refine sr fun K6 hK6 => qa F fun a F => qa F fun a F => nil (hK6 _ _ ?_); refine sr fun K7 hK7 => qm F fun a F => ?_; obtain ⟨t8, q9, H⟩ := bind_some H; refine qc F Tryz.func51 (parcel_Read.calls (m := m + 5) (pl hm0) B h4 (by omega) (m + 1) lm _ q9) ?_; rintro e w11 ⟨c10, p14, rfl, E12, B, h15⟩; refine rt fun a F => ?_; replace E := E.n E12; refine qa F fun a F => nil (hK7 _ _ ?_); refine sr fun K17 hK17 => qm F fun a F => ?_; obtain ⟨t18, q19, H⟩ := bind_some H; refine qc F Tryz.func52 (R_Num.calls (m := m + 5) (pl hm0) B h15 (by omega) _ q19) ?_; rintro e w21 ⟨c20, rfl, E22, B, h24⟩; refine rt fun a F => ?_; replace E := E.trans E22 lc1; refine qm F fun a F => ?_; obtain ⟨t26, q27, H⟩ := bind_some H; refine qc F Tryz.func52 (R_Num.calls (m := m + 5) (pl hm0) B h24 (by omega) _ q27) ?_; rintro e w29 ⟨c28, rfl, E30, B, h32⟩
 as_aux_lemma =>
 refine rt fun a F => ?_; replace E := E.trans E30 lc1; refine qa F fun a F => qa F fun a F => nil (hK17 _ _ ?_); replace F : Fr a 81 [(4, .pointer p14), (5, .int .u64 t18.1), (6, .int .u64 t26.1)] := F.sub ⟨rfl, rfl, rfl, trivial⟩; refine sr fun K34 hK34 => ?_; obtain ⟨t35, q36, H⟩ := bind_some H; refine qc F Tryz.func5 (table_New.calls (m := m + 5) (pl hm0) B (m + 2) lm _ q36) ?_; rintro e w38 ⟨c37, p41, rfl, E39, B, h42⟩; refine rt fun a F => ?_; replace E := E.n E39; refine qa F fun a F => nil (hK34 _ _ ?_); refine sr fun K44 hK44 => qm F fun a F => qm F fun a F => ?_; refine qv F (r_min F rfl rfl) fun a F => ?_; refine qv F (r_convi F Tryz.underlying3 rfl rfl) fun a F => ?_; obtain ⟨ob45, e46, H⟩ := bind_some H; have z47 := h42; rw [e46] at z47; obtain ⟨ad48, p50, rfl, hat49, h51⟩ := TB.some z47; refine qi F fun a F => ?_; refine qf F ff_50_1 fun a F => ?_; refine q_eff0 F rfl rfl (e_store F rfl rfl sz_3 hat49 (nb rfl) rfl) ?_; rintro w53 a ⟨E54, hat49, Z55⟩ F
 as_aux_lemma =>
 replace B := B.size Z55; replace h51 := h51.ev E54; replace E := E.trans E54 lc1; replace hat49 : AT true (m + 2) c37 w53 ad48 [.pointer p50, .int .i64 (IntKind.i64.wrap (min t18.1 1099511627776)), .int .i64 ob45.size] := hat49; have h56 : TB (m + 2) c37 w53 (some ad48) (some (Tab.mk ob45.rows (IntKind.i64.wrap (min t18.1 1099511627776)) ob45.size)) := TB.mk hat49 h51; refine nil (hK44 _ _ ?_); refine sr fun K57 hK57 => qm F fun a F => ?_; refine qv F (r_leq F rfl rfl) fun a F => ?_; refine qa F fun a F => nil (hK57 _ _ ?_); replace F : Fr a 81 [(4, .pointer p14), (5, .int .u64 t18.1), (6, .int .u64 t26.1), (7, .pointer (some ad48)), (8, .bool (decide (t18.1 ≤ 1099511627776)))] := F.sub ⟨rfl, rfl, rfl, rfl, rfl, trivial⟩; refine sr fun K58 hK58 => ?_; refine q_eff F rfl rfl (by decide) (e_makeMap (q := .u64) (K := 82) (emb := Value.bool) F c37 (m + 3) (fun w => by kernel_rfl)) ?_; rintro v w60 a ⟨c59, qa61, rfl, E62, h63, B64⟩ F; replace B := B64 _ B lm; replace h32 := ((h32.ev E39).ev E54).ev E62; replace h56 := h56.ev E62; replace E := E.n E62; replace h63 : MU92 (m + 3) c59 w60 (some qa61) (MpV.mk (fun _ => none) 0) := h63; refine qa F fun a F => nil (hK58 _ _ ?_); refine sr fun K65 hK65 => qa F fun a F => nil (hK65 _ _ ?_); refine sq fun K66 hK66 => ?_; refine wp_block ?_; obtain ⟨x304, HL, HR303⟩ := bind_some H; have J513 : ∀ (c514 : Nat → Nat) (w515 : World) (a : Act) (o509 : Option Rdr) (o511 : Option Tab) (b512 : Bool), Fr a 81 [(4, .pointer p14), (7, .pointer (some ad48)), (8, .bool b512)] → Ev (fun x => False ∨ m ≤ x) c0 w0 c514 w515 → CB (m + 5) c514 w515 → RD (m + 1) c514 w515 p14 o509 → TB (m + 2) c514 w515 (some ad48) o511 → tR_.j8 o509 o511 b512 = some r → K66 a w515 := by
  intro c514 w515 a o509 o511 b512 F E B h508 h510 H; unfold tR_.j8 at H
  as_aux_lemma =>
  refine hK66 _ _ ?_; refine sq fun K516 hK516 => ?_; refine sq fun K517 hK517 => ?_; have J527 : ∀ (c528 : Nat → Nat) (w529 : World) (a : Act) (b526 : Bool), Fr a 81 [(7, .pointer (some ad48)), (79, .bool b526)] → Ev (fun x => False ∨ m ≤ x) c0 w0 c528 w529 → CB (m + 5) c528 w529 → TB (m + 2) c528 w529 (some ad48) o511 → tR_.j9 o511 b526 = some r → K517 a w529 := by
   intro c528 w529 a b526 F E B h510 H; unfold tR_.j9 at H; refine hK517 _ _ ?_
   by_cases hb530 : b526 = true
   ·replace H := ip hb530 H; refine wct (fb F hb530) ?_; refine sr fun K531 hK531 => qa F fun a F => qa F fun a F => nil (hK531 _ _ ?_); refine wp_ret ?_; refine thenR ?_; obtain rfl := si H; refine out2 F rfl rfl rfl ?_; exact ⟨cf (fun x_ => if x_ = m + 2 then jr533 else if x_ < m then x_ else 0) c528, none, rfl, E.lv B0, cfb, TB.nil⟩
   replace H := im hb530 H; refine wcf (fb F (bfalse hb530)) (wp_skip (hK516 _ _ ?_)); refine sr fun K532 hK532 => qm F fun a F => qa F fun a F => qa F fun a F => nil (hK532 _ _ ?_); refine wp_ret ?_; obtain rfl := si H; refine out2 F rfl rfl rfl ?_; exact ⟨cf (fun x_ => if x_ = m + 2 then jr533 else if x_ < m then x_ else 0) c528, (some ad48), rfl, E.lv B0, cfb, TB.rc h510 cfk cfk⟩
  as_aux_lemma =>
  refine reg ?_; refine qm F fun a F => ?_; refine qv F (r_not F rfl) fun a F => ?_; refine qm F fun a F => ?_
  by_cases hb518 : b512 = true
  ·replace H := ip hb518 H; refine qy F (congrArg not hb518) ?_; refine qm F fun a F => ?_; obtain ⟨t519, q520, H⟩ := bind_some H; refine qy F (congrArg not hb518) ?_; refine qc F Tryz.func54 (R_Done.calls (m := m + 5) (pl hm0) B h508 lm _ q520) ?_; rintro e w522 ⟨c521, rfl, E523, B⟩; refine rt fun a F => ?_; replace h510 := h510.ev E523; replace E := E.n E523; refine qy F (congrArg not hb518) ?_; refine qv F (r_neq F rfl rfl) fun a F => ?_; refine qv F (r_pick_f F rfl (congrArg not hb518) rfl) fun a F => ?_; refine nil ?_; exact J527 c521 w522 a (!decide (t519 = 0)) (F.sub ⟨rfl, rfl, trivial⟩) E B h510 H
  replace H := im hb518 H; refine qn F (congrArg not (bfalse hb518)) fun a F => qn F (congrArg not (bfalse hb518)) fun a F => qn F (congrArg not (bfalse hb518)) fun a F => ?_; refine qv F (r_pick_t F rfl (congrArg not (bfalse hb518)) rfl) fun a F => ?_
  as_aux_lemma =>
  refine nil ?_; exact J527 c514 w515 a true (F.sub ⟨rfl, rfl, trivial⟩) E B h510 H
 refine loop_fuel (I := fun n a w => ∃ (o285 : Option Rdr) (i286 : Int) (o289 : Option Tab) (b290 : Bool) (o293 : MpV Bool) (s294 : ByteArray) (c : Nat → Nat), Fr a 81 [(4, .pointer p14), (5, .int .u64 t18.1), (6, .int .u64 i286), (7, .pointer (some ad48)), (8, .bool b290), (9, .map (Option.map Addr.block (some qa61))), (10, .string s294)] ∧ Ev (fun x => False ∨ m ≤ x) c0 w0 c w ∧ CB (m + 5) c w ∧ RD (m + 1) c w p14 o285 ∧ TB (m + 2) c w (some ad48) o289 ∧ MU92 (m + 3) c w (some qa61) o293 ∧ loop (fun (s_ : (Option Rdr) × Int × (Option Tab) × Bool × (MpV Bool) × ByteArray) => tR_.b7 k t18 s_.1 s_.2.1 s_.2.2.1 s_.2.2.2.1 s_.2.2.2.2.1 s_.2.2.2.2.2) n (o285, i286, o289, b290, o293, s294) = some x304) (k := k) ⟨t26.2, t26.1, (some (Tab.mk ob45.rows (IntKind.i64.wrap (min t18.1 1099511627776)) ob45.size)), (decide (t18.1 ≤ 1099511627776)), (MpV.mk (fun _ => none) 0), ({ data := #[] }), c59, F.sub ⟨rfl, rfl, rfl, rfl, rfl, rfl, rfl, trivial⟩, E, B, h32, h56, h63, HL⟩ ?_; clear HL H E F B; intro n301 X297 hX297 a w296 ⟨o285, i286, o289, b290, o293, s294, c295, F, E, B, h284, h288, h292, HL⟩; obtain ⟨n302, ctl300, rfl, HB, HN298, HD299⟩ := loop_some HL; have H : tR_.b7 k t18 o285 i286 o289 b290 o293 s294 = some ctl300 := HB; clear HB HL; unfold tR_.b7 at H; refine sq fun K305 hK305 => ?_; refine sq fun K306 hK306 => ?_; have J309 : ∀ (c310 : Nat → Nat) (w311 : World) (a : Act) (b308 : Bool), Fr a 81 [(4, .pointer p14), (5, .int .u64 t18.1), (6, .int .u64 i286), (7, .pointer (some ad48)), (8, .bool b290), (9, .map (Option.map Addr.block (some qa61))), (10, .string s294), (34, .bool b308)] → Ev (fun x => False ∨ m ≤ x) c0 w0 c310 w311 → CB (m + 5) c310 w311 → RD (m + 1) c310 w311 p14 o285 → TB (m + 2) c310 w311 (some ad48) o289 → MU92 (m + 3) c310 w311 (some qa61) o293 → tR_.j4 k t18 o285 i286 o289 b290 o293 s294 b308 = some ctl300 → K306 a w311 := by
  intro c310 w311 a b308 F E B h284 h288 h292 H; unfold tR_.j4 at H; refine hK306 _ _ ?_
  by_cases hb312 : b308 = true
  ·replace H := ip hb312 H; refine wct (fb F hb312) (wp_skip (hK305 _ _ ?_)); refine sq fun K313 hK313 => ?_; refine wp_block ?_; refine sq fun K314 hK314 => ?_; have J462 : ∀ (c463 : Nat → Nat) (w464 : World) (a : Act) (t92 : (List Int) × (Option Rdr)) (qa127 : Addr) (t114 : (List Int) × (Option Rdr)) (A459 : Option Addr) (C460 : Nat), Fr a 81 [(4, .pointer p14), (5, .int .u64 t18.1), (6, .int .u64 i286), (7, .pointer (some ad48)), (9, .map (Option.map Addr.block (some qa61))), (10, .string s294), (11, .string (bs t92.1)), (12, .pointer (some qa127))] → Ev (fun x => False ∨ m ≤ x) c0 w0 c463 w464 → CB (m + 5) c463 w464 → AT true (m + 4) c463 w464 qa127 [.slice A459 t114.1.length C460, .int .i64 0] → TB (m + 2) c463 w464 (some ad48) o289 → MU92 (m + 3) c463 w464 (some qa61) o293 → RD (m + 1) c463 w464 p14 t114.2 → SL true (Kint .u8) 0 0 c463 w464 A459 C460 t114.1 → tR_.j5 k t18 t92 t114 i286 o289 o293 s294 = some ctl300 → K314 a w464 := by
    intro c463 w464 a t92 qa127 t114 A459 C460 F E B h129 h288 h292 h458 h461 H; unfold tR_.j5 at H
    as_aux_lemma =>
    refine hK314 _ _ ?_; refine sr fun K465 hK465 => qm F fun a F => ?_; obtain ⟨t248, q249, H⟩ := bind_some H; refine qc F Tryz.func52 (R_Num.calls (m := m + 5) (pl hm0) B h458 (by omega) _ q249) ?_; rintro e w467 ⟨c466, rfl, E468, B, h470⟩; refine rt fun a F => ?_; replace h129 := h129.ev E468; replace E := E.trans E468 lc1; refine qa F fun a F => nil (hK465 _ _ ?_); refine sr fun K472 hK472 => qm F fun a F => ?_; refine qv F (r_convi F Tryz.underlying3 rfl rfl) fun a F => ?_; refine qf F ff_48_1 fun a F => ?_; refine q_eff0 F rfl rfl (e_store F rfl rfl sz_3 h129 (nb rfl) rfl) ?_; rintro w473 a ⟨E474, h129, Z475⟩ F; replace B := B.size Z475; replace h288 := (h288.ev E468).ev E474; replace h292 := (h292.ev E468).ev E474; replace h461 := (h461.ev E468).ev E474; replace h470 := h470.ev E474; replace E := E.trans E474 lc1; replace h129 : AT _ _ _ _ _ [.slice A459 t114.1.length C460, .int .i64 (IntKind.i64.wrap t248.1)] := h129; refine nil (hK472 _ _ ?_)
    as_aux_lemma =>
    refine sq fun K476 hK476 => ?_; have J482 : ∀ (c483 : Nat → Nat) (w484 : World) (a : Act) (b481 : Bool), Fr a 81 [(4, .pointer p14), (5, .int .u64 t18.1), (6, .int .u64 i286), (7, .pointer (some ad48)), (8, .bool b481), (9, .map (Option.map Addr.block (some qa61))), (11, .string (bs t92.1)), (12, .pointer (some qa127)), (13, .int .u64 t248.1)] → Ev (fun x => False ∨ m ≤ x) c0 w0 c483 w484 → CB (m + 5) c483 w484 → AT true (m + 4) c483 w484 qa127 [.slice A459 t114.1.length C460, .int .i64 (IntKind.i64.wrap t248.1)] → RD (m + 1) c483 w484 p14 t248.2 → TB (m + 2) c483 w484 (some ad48) o289 → MU92 (m + 3) c483 w484 (some qa61) o293 → SL true (Kint .u8) 0 0 c483 w484 A459 C460 t114.1 → tR_.j6 k t92 t114 t248 i286 o289 o293 b481 = some ctl300 → K476 a w484 := by
     intro c483 w484 a b481 F E B h129 h470 h288 h292 h461 H; unfold tR_.j6 at H; refine hK476 _ _ ?_; refine sr fun K485 hK485 => qm F fun a F => qm F fun a F => qm F fun a F => ?_; replace H := ifN H; obtain ⟨g270, H⟩ := H; refine q_eff0 F rfl rfl (e_mapUpdate (z := true) F Tryz.underlying82 Tryz.underlying92 rfl rfl rfl h292 g270.1 (n_ok g270.2)) ?_; rintro w486 a ⟨E487, h488, Z489⟩ F; replace B := B.size Z489; replace h129 := h129.ev E487; replace h288 := h288.ev E487; replace h461 := h461.ev E487; replace E := E.trans E487 lc1; replace h488 : MU92 (m + 3) c483 w486 (some qa61) (MpV.mk (fun i_ => if i_ = t248.1 then some true else o293.f i_) (o293.n + 1)) := h488; refine qa F fun a F => nil (hK485 _ _ ?_); refine reg ?_; refine qm F fun a F => qm F fun a F => ?_; refine qv F (r_loads (cs := [.slice A459 t114.1.length C460, .int .i64 (IntKind.i64.wrap t248.1)]) F rfl ag_48 sz_48 h129) fun a F => ?_; obtain ⟨t275, q276, H⟩ := bind_some H; refine qc F Tryz.func45 (T_set.calls k (m := m + 5) (a6 := TC.mk t114.1 (IntKind.i64.wrap t248.1)) (pl hm0) B h288 h461.r ⟨(pl hm0), lm⟩ _ q276) ?_; rintro e w491 ⟨c490, rfl, E492, B, h494⟩
     as_aux_lemma =>
     refine rt fun a F => ?_; replace h470 := (h470.ev E487).ev E492; replace h488 := h488.ev E492; replace E := E.trans E492 lc1; refine nil (hK313 _ _ ?_); replace F : Fr a 81 [(4, .pointer p14), (5, .int .u64 t18.1), (6, .int .u64 i286), (7, .pointer (some ad48)), (8, .bool b481), (9, .map (Option.map Addr.block (some qa61))), (10, .string (bs t92.1))] := F.sub ⟨rfl, rfl, rfl, rfl, rfl, rfl, rfl, trivial⟩; refine reg ?_; refine qm F fun a F => ?_; refine qv F (r_sub F rfl rfl) fun a F => ?_; refine qa F fun a F => nil ?_; replace H := HN298 _ (si H).symm; exact hX297 _ _ _ (Nat.lt_succ_self _) ⟨t248.2, (IntKind.u64.wrap (i286 - 1)), t275, b481, (MpV.mk (fun i_ => if i_ = t248.1 then some true else o293.f i_) (o293.n + 1)), (bs t92.1), c490, F.sub ⟨rfl, rfl, rfl, rfl, rfl, rfl, rfl, trivial⟩, E, B, h470, h494, h488, H⟩
    refine reg ?_; refine qm F fun a F => qm F fun a F => ?_; refine qv F (r_sgtr F rfl rfl) fun a F => ?_; refine qm F fun a F => ?_
    by_cases hb477 : (Op.bytesLess (bs t92.1).toList s294.toList || ((bs t92.1).toList == s294.toList)) = true
    ·replace H := ip hb477 H; refine qn F (congrArg not hb477) fun a F => qn F (congrArg not hb477) fun a F => ?_; refine qv F (r_pick_f F rfl (congrArg not hb477) rfl) fun a F => ?_; refine qm F fun a F => qn F rfl fun a F => qn F rfl fun a F => qn F rfl fun a F => ?_; refine qp F fun a F => ?_; refine qm F fun a F => qn F rfl fun a F => qn F rfl fun a F => qn F rfl fun a F => qn F rfl fun a F => ?_
     as_aux_lemma =>
     refine qp F fun a F => ?_; refine qa F fun a F => nil ?_; exact J482 c466 w473 a false (F.sub ⟨rfl, rfl, rfl, rfl, rfl, rfl, rfl, rfl, rfl, trivial⟩) E B h129 h470 h288 h292 h461 H
    replace H := im hb477 H; refine qy F (congrArg not (bfalse hb477)) ?_; refine qm F fun a F => ?_; refine qy F (congrArg not (bfalse hb477)) ?_; refine qv F (r_gtr F rfl rfl) fun a F => ?_; refine qv F (r_pick_t F rfl (congrArg not (bfalse hb477)) rfl) fun a F => ?_; refine qm F fun a F => ?_
    by_cases hb478 : 0 < t248.1
    ·replace H := ip hb478 H; refine qy F (dt hb478) ?_; refine qm F fun a F => ?_; refine qy F (dt hb478) ?_; refine qm F fun a F => ?_; refine qy F (dt hb478) ?_; refine qv F (r_leq F rfl rfl) fun a F => ?_; refine qv F (r_pick_t F rfl (dt hb478) rfl) fun a F => ?_; refine qm F fun a F => ?_
     by_cases hb479 : t248.1 ≤ t18.1
     ·replace H := ip hb479 H; refine qy F (dt hb479) ?_; refine qm F fun a F => ?_
      as_aux_lemma =>
      refine qy F (dt hb479) ?_; refine qm F fun a F => ?_; replace H := ifN H; obtain ⟨g480, H⟩ := H; refine qy F (dt hb479) ?_; refine qv F (r_lookupm (emb := Value.bool) (z := false) F Tryz.underlying82 Tryz.underlying92 (fun w => by kernel_rfl) rfl rfl h292 g480) fun a F => ?_; refine qy F (dt hb479) ?_; refine qv F (r_not F rfl) fun a F => ?_; refine qv F (r_pick_t F rfl (dt hb479) rfl) fun a F => ?_; refine qa F fun a F => nil ?_; exact J482 c466 w473 a (!((o293.f t248.1).getD false)) (F.sub ⟨rfl, rfl, rfl, rfl, rfl, rfl, rfl, rfl, rfl, trivial⟩) E B h129 h470 h288 h292 h461 H
     replace H := im hb479 H; refine qn F (dz hb479) fun a F => qn F (dz hb479) fun a F => qn F (dz hb479) fun a F => qn F (dz hb479) fun a F => ?_; refine qv F (r_pick_f F rfl (dz hb479) rfl) fun a F => ?_; refine qa F fun a F => nil ?_; exact J482 c466 w473 a false (F.sub ⟨rfl, rfl, rfl, rfl, rfl, rfl, rfl, rfl, rfl, trivial⟩) E B h129 h470 h288 h292 h461 H
    replace H := im hb478 H; refine qn F (dz hb478) fun a F => qn F (dz hb478) fun a F => qn F (dz hb478) fun a F => ?_; refine qv F (r_pick_f F rfl (dz hb478) rfl) fun a F => ?_; refine qm F fun a F => qn F rfl fun a F => qn F rfl fun a F => qn F rfl fun a F => qn F rfl fun a F => ?_; refine qp F fun a F => ?_; refine qa F fun a F => nil ?_; exact J482 c466 w473 a false (F.sub ⟨rfl, rfl, rfl, rfl, rfl, rfl, rfl, rfl, rfl, trivial⟩) E B h129 h470 h288 h292 h461 H
   as_aux_lemma =>
   refine regD (SB (fun x => x = m + 1) c310 w311) 8 (.q 0 (.q 3 (.f 1 (.g 2 (.f 4 (.q 5 (.e 6 (.q 7 (.e 8 .nil)))) 6 (.e 4 (.q 5 (.q 7 (.e 8 .nil))))) 4 (.q 5 (.f 2 (.e 6 (.q 7 (.e 8 .nil))) 6 (.e 2 (.q 7 (.e 8 .nil))))) 6 (.f 2 (.e 4 (.q 5 (.q 7 (.e 8 .nil)))) 4 (.q 5 (.e 2 (.q 7 (.e 8 .nil)))))) 6 (.e 1 (.f 2 (.e 4 (.q 5 (.q 7 (.e 8 .nil)))) 4 (.q 5 (.e 2 (.q 7 (.e 8 .nil))))))))) Tryz_hm (by decide +kernel) ?_; intro w326 w1_ w2_ w3_ w4_; have E327 : Ev No c310 w311 c310 w326 := Ev.same w1_ w2_ w3_ w4_; replace B := B.same w1_; have ER : Ev (fun x => x = m + 1) c310 w311 c310 w326 := Ev.same w1_ w2_ w3_ w4_; replace h284 := h284.ev E327; replace h288 := h288.ev E327; replace h292 := h292.ev E327; replace E := E.n E327; refine dm F ER.sb fun a F => ?_; refine dm F ER.sb fun a F => ?_; refine d_f ?_ ?_
   ·obtain ⟨t92, q93, H⟩ := bind_some H; refine oc F Tryz.func53 (R_Text.calls (m := m + 5) (pl hm0) B h284 (by omega) 0 (pl hm0) _ q93) ?_; rintro e w329 ⟨c328, A332, C333, rfl, E330, B, h334, h335⟩; refine rt fun a F => ?_; replace ER := ER.trans E330 (fun x q => by replace q : x = m + 1 := q; show x = m + 1; omega); replace h288 := h288.ev E330; replace h292 := h292.ev E330; replace E := E.trans E330 lc1; refine ⟨fun _ => ER.sb, ?_⟩; refine d_g ?_ ?_ ?_
    ·refine o_val F rfl rfl rfl (by decide) (r_bytesStr F Tryz.underlying29 Tryz.underlying5 Tryz.underlying9 rfl h334) fun a F => ?_; refine ⟨fun _ => ER.sb, ?_⟩
     as_aux_lemma =>
     refine d_f ?_ ?_
     ·obtain ⟨t114, q115, H⟩ := bind_some H; refine oc F Tryz.func53 (R_Text.calls (m := m + 5) (pl hm0) B h335 (by omega) 0 (pl hm0) _ q115) ?_; rintro e w338 ⟨c337, A341, C342, rfl, E339, B, h343, h344⟩; refine rt fun a F => ?_; replace ER := ER.trans E339 (fun x q => by replace q : x = m + 1 := q; show x = m + 1; omega); replace E := E.trans E339 lc1; refine ⟨fun _ => ER.sb, ?_⟩; refine d_q F rfl rfl rfl (by decide) (fun wq hS => r_build (v := .agg #[.slice A341 t114.1.length C342, .int .i64 0]) F [(0, .slice A341 t114.1.length C342)] (by exact ⟨rfl, rfl, trivial⟩) (fun w => by kernel_rfl)) ER.sb fun a F => ?_; refine d_e ?_; refine o_eff F rfl rfl rfl (by decide) (e_alloc F zv_48 c337 (m + 4)) ?_; rintro v w347 a ⟨c346, qa127, rfl, E348, h129, B349⟩ F; replace B := B349 _ B lm; replace ER := ER.trans E348 nx; replace E := E.n E348; replace h129 : AT _ _ _ _ _ [.slice none 0 0, .int .i64 0] := h129; refine ⟨fun _ => ER.sb, ?_⟩; refine da F ER.sb fun a F => ?_; refine d_e ?_; refine o_eff0 F rfl rfl rfl (e_storeN0 (us := [.slice A341 t114.1.length C342, .int .i64 0]) F rfl rfl sz_48 h129 (nb rfl) (one_all rfl)) ?_; rintro w350 a ⟨E351, h129, Z352⟩ F; replace B := B.size Z352; replace h288 := ((h288.ev E339).ev E348).ev E351
      as_aux_lemma =>
      replace h292 := ((h292.ev E339).ev E348).ev E351; replace h343 := (h343.ev E348).ev E351; replace h344 := (h344.ev E348).ev E351; replace E := E.trans E351 lc1; replace h129 : AT _ _ _ _ _ [.slice A341 t114.1.length C342, .int .i64 0] := h129; refine ⟨fun q => absurd rfl q, ?_⟩; refine d_nil ?_; exact J462 c346 w350 a t92 qa127 t114 A341 C342 (F.sub ⟨rfl, rfl, rfl, rfl, rfl, rfl, rfl, rfl, trivial⟩) E B h129 h288 h292 h344 h343 H
     obtain ⟨t114, q115, H⟩ := bind_some H; refine o_eff F rfl rfl rfl (by decide) (e_alloc F zv_48 c328 (m + 4)) ?_; rintro v w354 a ⟨c353, qa127, rfl, E355, h129, B356⟩ F; replace B := B356 _ B lm; replace ER := ER.trans E355 nx; replace h335 := h335.ev E355; replace E := E.n E355; replace h129 : AT _ _ _ _ _ [.slice none 0 0, .int .i64 0] := h129; refine ⟨fun _ => ER.sb, ?_⟩; refine d_e ?_; refine oc F Tryz.func53 (R_Text.calls (m := m + 5) (pl hm0) B h335 (by omega) 0 (pl hm0) _ q115) ?_; rintro e w358 ⟨c357, A361, C362, rfl, E359, B, h363, h364⟩; refine rt fun a F => ?_; replace ER := ER.trans E359 (fun x q => by replace q : x = m + 1 := q; show x = m + 1; omega)
     as_aux_lemma =>
     replace h129 := h129.ev E359; replace E := E.trans E359 lc1; refine ⟨fun _ => ER.sb, ?_⟩; refine d_q F rfl rfl rfl (by decide) (fun wq hS => r_build (v := .agg #[.slice A361 t114.1.length C362, .int .i64 0]) F [(0, .slice A361 t114.1.length C362)] (by exact ⟨rfl, rfl, trivial⟩) (fun w => by kernel_rfl)) ER.sb fun a F => ?_; refine da F ER.sb fun a F => ?_; refine d_e ?_; refine o_eff0 F rfl rfl rfl (e_storeN0 (us := [.slice A361 t114.1.length C362, .int .i64 0]) F rfl rfl sz_48 h129 (nb rfl) (one_all rfl)) ?_; rintro w366 a ⟨E367, h129, Z368⟩ F; replace B := B.size Z368; replace h288 := ((h288.ev E355).ev E359).ev E367; replace h292 := ((h292.ev E355).ev E359).ev E367; replace h363 := h363.ev E367; replace h364 := h364.ev E367; replace E := E.trans E367 lc1; replace h129 : AT _ _ _ _ _ [.slice A361 t114.1.length C362, .int .i64 0] := h129; refine ⟨fun q => absurd rfl q, ?_⟩; refine d_nil ?_; exact J462 c357 w366 a t92 qa127 t114 A361 C362 (F.sub ⟨rfl, rfl, rfl, rfl, rfl, rfl, rfl, rfl, trivial⟩) E B h129 h288 h292 h364 h363 H
    ·obtain ⟨t114, q115, H⟩ := bind_some H; refine oc F Tryz.func53 (R_Text.calls (m := m + 5) (pl hm0) B h335 (by omega) 0 (pl hm0) _ q115) ?_; rintro e w370 ⟨c369, A373, C374, rfl, E371, B, h375, h376⟩; refine rt fun a F => ?_; replace ER := ER.trans E371 (fun x q => by replace q : x = m + 1 := q; show x = m + 1; omega)
     as_aux_lemma =>
     replace h288 := h288.ev E371; replace h292 := h292.ev E371; replace h334 := h334.ev E371; replace E := E.trans E371 lc1; refine ⟨fun _ => ER.sb, ?_⟩; refine d_q F rfl rfl rfl (by decide) (fun wq hS => r_build (v := .agg #[.slice A373 t114.1.length C374, .int .i64 0]) F [(0, .slice A373 t114.1.length C374)] (by exact ⟨rfl, rfl, trivial⟩) (fun w => by kernel_rfl)) ER.sb fun a F => ?_; refine d_f ?_ ?_
     ·refine o_val F rfl rfl rfl (by decide) (r_bytesStr F Tryz.underlying29 Tryz.underlying5 Tryz.underlying9 rfl h334) fun a F => ?_; refine ⟨fun _ => ER.sb, ?_⟩; refine d_e ?_; refine o_eff F rfl rfl rfl (by decide) (e_alloc F zv_48 c369 (m + 4)) ?_; rintro v w379 a ⟨c378, qa127, rfl, E380, h129, B381⟩ F; replace B := B381 _ B lm; replace ER := ER.trans E380 nx; replace E := E.n E380; replace h129 : AT _ _ _ _ _ [.slice none 0 0, .int .i64 0] := h129; refine ⟨fun _ => ER.sb, ?_⟩; refine da F ER.sb fun a F => ?_; refine d_e ?_; refine o_eff0 F rfl rfl rfl (e_storeN0 (us := [.slice A373 t114.1.length C374, .int .i64 0]) F rfl rfl sz_48 h129 (nb rfl) (one_all rfl)) ?_; rintro w382 a ⟨E383, h129, Z384⟩ F; replace B := B.size Z384; replace h288 := (h288.ev E380).ev E383
      as_aux_lemma =>
      replace h292 := (h292.ev E380).ev E383; replace h375 := (h375.ev E380).ev E383; replace h376 := (h376.ev E380).ev E383; replace E := E.trans E383 lc1; replace h129 : AT _ _ _ _ _ [.slice A373 t114.1.length C374, .int .i64 0] := h129; refine ⟨fun q => absurd rfl q, ?_⟩; refine d_nil ?_; exact J462 c378 w382 a t92 qa127 t114 A373 C374 (F.sub ⟨rfl, rfl, rfl, rfl, rfl, rfl, rfl, rfl, trivial⟩) E B h129 h288 h292 h376 h375 H
     refine o_eff F rfl rfl rfl (by decide) (e_alloc F zv_48 c369 (m + 4)) ?_; rintro v w386 a ⟨c385, qa127, rfl, E387, h129, B388⟩ F; replace B := B388 _ B lm; replace ER := ER.trans E387 nx; replace h334 := h334.ev E387; replace E := E.n E387; replace h129 : AT _ _ _ _ _ [.slice none 0 0, .int .i64 0] := h129; refine ⟨fun _ => ER.sb, ?_⟩; refine d_e ?_; refine o_val F rfl rfl rfl (by decide) (r_bytesStr F Tryz.underlying29 Tryz.underlying5 Tryz.underlying9 rfl h334) fun a F => ?_; refine ⟨fun _ => ER.sb, ?_⟩; refine da F ER.sb fun a F => ?_; refine d_e ?_; refine o_eff0 F rfl rfl rfl (e_storeN0 (us := [.slice A373 t114.1.length C374, .int .i64 0]) F rfl rfl sz_48 h129 (nb rfl) (one_all rfl)) ?_; rintro w389 a ⟨E390, h129, Z391⟩ F
     as_aux_lemma =>
     replace B := B.size Z391; replace h288 := (h288.ev E387).ev E390; replace h292 := (h292.ev E387).ev E390; replace h375 := (h375.ev E387).ev E390; replace h376 := (h376.ev E387).ev E390; replace E := E.trans E390 lc1; replace h129 : AT _ _ _ _ _ [.slice A373 t114.1.length C374, .int .i64 0] := h129; refine ⟨fun q => absurd rfl q, ?_⟩; refine d_nil ?_; exact J462 c385 w389 a t92 qa127 t114 A373 C374 (F.sub ⟨rfl, rfl, rfl, rfl, rfl, rfl, rfl, rfl, trivial⟩) E B h129 h288 h292 h376 h375 H
    refine o_eff F rfl rfl rfl (by decide) (e_alloc F zv_48 c328 (m + 4)) ?_; rintro v w393 a ⟨c392, qa127, rfl, E394, h129, B395⟩ F; replace B := B395 _ B lm; replace ER := ER.trans E394 nx; replace h288 := h288.ev E394; replace h292 := h292.ev E394; replace h334 := h334.ev E394; replace h335 := h335.ev E394; replace E := E.n E394; replace h129 : AT _ _ _ _ _ [.slice none 0 0, .int .i64 0] := h129; refine ⟨fun _ => ER.sb, ?_⟩; refine d_f ?_ ?_
    ·refine o_val F rfl rfl rfl (by decide) (r_bytesStr F Tryz.underlying29 Tryz.underlying5 Tryz.underlying9 rfl h334) fun a F => ?_
     as_aux_lemma =>
     refine ⟨fun _ => ER.sb, ?_⟩; refine d_e ?_; obtain ⟨t114, q115, H⟩ := bind_some H; refine oc F Tryz.func53 (R_Text.calls (m := m + 5) (pl hm0) B h335 (by omega) 0 (pl hm0) _ q115) ?_; rintro e w397 ⟨c396, A400, C401, rfl, E398, B, h402, h403⟩; refine rt fun a F => ?_; replace ER := ER.trans E398 (fun x q => by replace q : x = m + 1 := q; show x = m + 1; omega); replace h129 := h129.ev E398; replace E := E.trans E398 lc1; refine ⟨fun _ => ER.sb, ?_⟩; refine d_q F rfl rfl rfl (by decide) (fun wq hS => r_build (v := .agg #[.slice A400 t114.1.length C401, .int .i64 0]) F [(0, .slice A400 t114.1.length C401)] (by exact ⟨rfl, rfl, trivial⟩) (fun w => by kernel_rfl)) ER.sb fun a F => ?_; refine da F ER.sb fun a F => ?_; refine d_e ?_; refine o_eff0 F rfl rfl rfl (e_storeN0 (us := [.slice A400 t114.1.length C401, .int .i64 0]) F rfl rfl sz_48 h129 (nb rfl) (one_all rfl)) ?_; rintro w405 a ⟨E406, h129, Z407⟩ F; replace B := B.size Z407; replace h288 := (h288.ev E398).ev E406; replace h292 := (h292.ev E398).ev E406; replace h402 := h402.ev E406; replace h403 := h403.ev E406; replace E := E.trans E406 lc1; replace h129 : AT _ _ _ _ _ [.slice A400 t114.1.length C401, .int .i64 0] := h129
     as_aux_lemma =>
     refine ⟨fun q => absurd rfl q, ?_⟩; refine d_nil ?_; exact J462 c396 w405 a t92 qa127 t114 A400 C401 (F.sub ⟨rfl, rfl, rfl, rfl, rfl, rfl, rfl, rfl, trivial⟩) E B h129 h288 h292 h403 h402 H
    obtain ⟨t114, q115, H⟩ := bind_some H; refine oc F Tryz.func53 (R_Text.calls (m := m + 5) (pl hm0) B h335 (by omega) 0 (pl hm0) _ q115) ?_; rintro e w409 ⟨c408, A412, C413, rfl, E410, B, h414, h415⟩; refine rt fun a F => ?_; replace ER := ER.trans E410 (fun x q => by replace q : x = m + 1 := q; show x = m + 1; omega); replace h334 := h334.ev E410; replace h129 := h129.ev E410; replace E := E.trans E410 lc1; refine ⟨fun _ => ER.sb, ?_⟩; refine d_q F rfl rfl rfl (by decide) (fun wq hS => r_build (v := .agg #[.slice A412 t114.1.length C413, .int .i64 0]) F [(0, .slice A412 t114.1.length C413)] (by exact ⟨rfl, rfl, trivial⟩) (fun w => by kernel_rfl)) ER.sb fun a F => ?_; refine d_e ?_; refine o_val F rfl rfl rfl (by decide) (r_bytesStr F Tryz.underlying29 Tryz.underlying5 Tryz.underlying9 rfl h334) fun a F => ?_; refine ⟨fun _ => ER.sb, ?_⟩; refine da F ER.sb fun a F => ?_; refine d_e ?_; refine o_eff0 F rfl rfl rfl (e_storeN0 (us := [.slice A412 t114.1.length C413, .int .i64 0]) F rfl rfl sz_48 h129 (nb rfl) (one_all rfl)) ?_; rintro w417 a ⟨E418, h129, Z419⟩ F; replace B := B.size Z419; replace h288 := (h288.ev E410).ev E418
    as_aux_lemma =>
    replace h292 := (h292.ev E410).ev E418; replace h414 := h414.ev E418; replace h415 := h415.ev E418; replace E := E.trans E418 lc1; replace h129 : AT _ _ _ _ _ [.slice A412 t114.1.length C413, .int .i64 0] := h129; refine ⟨fun q => absurd rfl q, ?_⟩; refine d_nil ?_; exact J462 c408 w417 a t92 qa127 t114 A412 C413 (F.sub ⟨rfl, rfl, rfl, rfl, rfl, rfl, rfl, rfl, trivial⟩) E B h129 h288 h292 h415 h414 H
   refine o_eff F rfl rfl rfl (by decide) (e_alloc F zv_48 c310 (m + 4)) ?_; rintro v w421 a ⟨c420, qa127, rfl, E422, h129, B423⟩ F; replace B := B423 _ B lm; replace ER := ER.trans E422 nx; replace h284 := h284.ev E422; replace E := E.n E422; replace h129 : AT _ _ _ _ _ [.slice none 0 0, .int .i64 0] := h129; refine ⟨fun _ => ER.sb, ?_⟩; refine d_e ?_; obtain ⟨t92, q93, H⟩ := bind_some H; refine oc F Tryz.func53 (R_Text.calls (m := m + 5) (pl hm0) B h284 (by omega) 0 (pl hm0) _ q93) ?_; rintro e w425 ⟨c424, A428, C429, rfl, E426, B, h430, h431⟩; refine rt fun a F => ?_; replace ER := ER.trans E426 (fun x q => by replace q : x = m + 1 := q; show x = m + 1; omega)
   as_aux_lemma =>
   replace h288 := (h288.ev E422).ev E426; replace h292 := (h292.ev E422).ev E426; replace h129 := h129.ev E426; replace E := E.trans E426 lc1; refine ⟨fun _ => ER.sb, ?_⟩; refine d_f ?_ ?_
   ·refine o_val F rfl rfl rfl (by decide) (r_bytesStr F Tryz.underlying29 Tryz.underlying5 Tryz.underlying9 rfl h430) fun a F => ?_; refine ⟨fun _ => ER.sb, ?_⟩; refine d_e ?_; obtain ⟨t114, q115, H⟩ := bind_some H; refine oc F Tryz.func53 (R_Text.calls (m := m + 5) (pl hm0) B h431 (by omega) 0 (pl hm0) _ q115) ?_; rintro e w434 ⟨c433, A437, C438, rfl, E435, B, h439, h440⟩; refine rt fun a F => ?_; replace ER := ER.trans E435 (fun x q => by replace q : x = m + 1 := q; show x = m + 1; omega); replace h129 := h129.ev E435; replace E := E.trans E435 lc1; refine ⟨fun _ => ER.sb, ?_⟩; refine d_q F rfl rfl rfl (by decide) (fun wq hS => r_build (v := .agg #[.slice A437 t114.1.length C438, .int .i64 0]) F [(0, .slice A437 t114.1.length C438)] (by exact ⟨rfl, rfl, trivial⟩) (fun w => by kernel_rfl)) ER.sb fun a F => ?_; refine da F ER.sb fun a F => ?_; refine d_e ?_; refine o_eff0 F rfl rfl rfl (e_storeN0 (us := [.slice A437 t114.1.length C438, .int .i64 0]) F rfl rfl sz_48 h129 (nb rfl) (one_all rfl)) ?_; rintro w442 a ⟨E443, h129, Z444⟩ F; replace B := B.size Z444
    as_aux_lemma =>
    replace h288 := (h288.ev E435).ev E443; replace h292 := (h292.ev E435).ev E443; replace h439 := h439.ev E443; replace h440 := h440.ev E443; replace E := E.trans E443 lc1; replace h129 : AT _ _ _ _ _ [.slice A437 t114.1.length C438, .int .i64 0] := h129; refine ⟨fun q => absurd rfl q, ?_⟩; refine d_nil ?_; exact J462 c433 w442 a t92 qa127 t114 A437 C438 (F.sub ⟨rfl, rfl, rfl, rfl, rfl, rfl, rfl, rfl, trivial⟩) E B h129 h288 h292 h440 h439 H
   obtain ⟨t114, q115, H⟩ := bind_some H; refine oc F Tryz.func53 (R_Text.calls (m := m + 5) (pl hm0) B h431 (by omega) 0 (pl hm0) _ q115) ?_; rintro e w446 ⟨c445, A449, C450, rfl, E447, B, h451, h452⟩; refine rt fun a F => ?_; replace ER := ER.trans E447 (fun x q => by replace q : x = m + 1 := q; show x = m + 1; omega); replace h129 := h129.ev E447; replace h430 := h430.ev E447; replace E := E.trans E447 lc1; refine ⟨fun _ => ER.sb, ?_⟩; refine d_q F rfl rfl rfl (by decide) (fun wq hS => r_build (v := .agg #[.slice A449 t114.1.length C450, .int .i64 0]) F [(0, .slice A449 t114.1.length C450)] (by exact ⟨rfl, rfl, trivial⟩) (fun w => by kernel_rfl)) ER.sb fun a F => ?_; refine d_e ?_; refine o_val F rfl rfl rfl (by decide) (r_bytesStr F Tryz.underlying29 Tryz.underlying5 Tryz.underlying9 rfl h430) fun a F => ?_; refine ⟨fun _ => ER.sb, ?_⟩
   as_aux_lemma =>
   refine da F ER.sb fun a F => ?_; refine d_e ?_; refine o_eff0 F rfl rfl rfl (e_storeN0 (us := [.slice A449 t114.1.length C450, .int .i64 0]) F rfl rfl sz_48 h129 (nb rfl) (one_all rfl)) ?_; rintro w454 a ⟨E455, h129, Z456⟩ F; replace B := B.size Z456; replace h288 := (h288.ev E447).ev E455; replace h292 := (h292.ev E447).ev E455; replace h451 := h451.ev E455; replace h452 := h452.ev E455; replace E := E.trans E455 lc1; replace h129 : AT _ _ _ _ _ [.slice A449 t114.1.length C450, .int .i64 0] := h129; refine ⟨fun q => absurd rfl q, ?_⟩; refine d_nil ?_; exact J462 c445 w454 a t92 qa127 t114 A449 C450 (F.sub ⟨rfl, rfl, rfl, rfl, rfl, rfl, rfl, rfl, trivial⟩) E B h129 h288 h292 h452 h451 H
  replace H := im hb312 H; refine wcf (fb F (bfalse hb312)) ?_; refine wp_exit ?_; refine thenE ?_; refine thenE ?_; refine inbE ?_; have hx_ := HD299 _ (si H).symm; have H := HR303; rw [← hx_] at H; exact J513 c310 w311 a o285 o289 b290 (F.sub ⟨rfl, rfl, rfl, trivial⟩) E B h284 h288 H
 as_aux_lemma =>
 refine reg ?_; refine qm F fun a F => ?_; refine qv F (r_gtr F rfl rfl) fun a F => ?_; refine qm F fun a F => ?_
 by_cases hb307 : 0 < i286
 ·replace H := ip hb307 H; refine qy F (dt hb307) ?_; refine qm F fun a F => ?_; refine qv F (r_pick_t F rfl (dt hb307) rfl) fun a F => ?_; refine nil ?_; exact J309 c295 w296 a b290 (F.sub ⟨rfl, rfl, rfl, rfl, rfl, rfl, rfl, rfl, trivial⟩) E B h284 h288 h292 H
 replace H := im hb307 H; refine qn F (dz hb307) fun a F => ?_; refine qv F (r_pick_f F rfl (dz hb307) rfl) fun a F => ?_; refine nil ?_; exact J309 c295 w296 a false (F.sub ⟨rfl, rfl, rfl, rfl, rfl, rfl, rfl, rfl, trivial⟩) E B h284 h288 h292 H
theorem l3_read.calls (k : Nat) {m : Nat} {c0 : Nat → Nat} {w0 : World} {j5 : Nat} {A2 : Option Addr} {C3 : Nat} {a1 : List Int} (hm0 : 0 < m) (B0 : CB m c0 w0) (h4 : SL false (Kint .u8) j5 0 c0 w0 A2 C3 a1) (bj5 : j5 < m) (jr63 : Nat) (bjr63 : jr63 < m) (jr64 : Nat) (bjr64 : jr64 < m) (jr65 : Nat) (bjr65 : jr65 < m) (r : (Option Tab) × (Option Tb3) × Bool) (H : l3_read.f k a1 = some r) : Calls Tryz.prog 8 #[.slice A2 a1.length C3] w0 (fun e w_ => ∃ (c_ : Nat → Nat) (P0_ : Option Addr) (P1_ : Option Addr), e = .returned (.tuple #[.pointer P0_, .pointer P1_, .bool r.2.2]) ∧ Ev (fun x => False) c0 w0 c_ w_ ∧ CB m c_ w_ ∧ TB jr63 c_ w_ P0_ r.1 ∧ TB3 jr64 jr65 c_ w_ P1_ r.2.1) := by
 unfold l3_read.f at H; have B := B0.mono (show m ≤ m + 5 by omega); have E : Ev (fun x => False ∨ m ≤ x) c0 w0 c0 w0 := Ev.refl; refine enter (N := 43) (l := [.slice A2 a1.length C3]) Tryz.func8 rfl rfl (nb rfl) fun a F => ?_; refine sr fun K6 hK6 => qa F fun a F => qa F fun a F => qa F fun a F => nil (hK6 _ _ ?_); refine sr fun K7 hK7 => qm F fun a F => ?_; obtain ⟨t8, q9, H⟩ := bind_some H; refine qc F Tryz.func14 (d3_Read.calls k (m := m + 5) (pl hm0) B h4 (Nat.lt_add_right _ bj5) (m + 1) lm (m + 2) lm _ q9) ?_; rintro e w11 ⟨c10, p14, rfl, E12, B, h15⟩; refine rt fun a F => ?_; have h4 := h4.ev E12; have E := E.n E12; refine qm F fun a F => ?_; refine qx F fun a F => ?_; refine qx F fun a F => ?_; refine qa F fun a F => qa F fun a F => nil (hK7 _ _ ?_); have F : Fr a 43 [(0, .slice A2 a1.length C3), (5, .pointer p14), (6, .int .i64 t8.2)] := F.sub ⟨rfl, rfl, rfl, trivial⟩; refine sr fun K17 hK17 => qm F fun a F => ?_; obtain ⟨t18, q19, H⟩ := bind_some H; refine qc F Tryz.func15 (l3_lent.calls (m := m + 5) (pl hm0) B h4 (Nat.lt_add_right _ bj5) (m + 3) lm _ q19) ?_; rintro e w21 ⟨c20, A24, C25, rfl, E22, B, h26⟩; refine rt fun a F => ?_; have E := E.n E22; refine qa F fun a F => nil (hK17 _ _ ?_); refine sr fun K28 hK28 => qm F fun a F => ?_; obtain ⟨t29, q30, H⟩ := bind_some H; refine qc F Tryz.func16 (tR_.calls k (m := m + 5) (pl hm0) B (SLM.v h26).r lm (m + 4) lm _ q30) ?_; rintro e w32 ⟨c31, p35, rfl, E33, B, h36⟩; refine rt fun a F => ?_; have h4 := (h4.ev E22).ev E33; have h15 := (h15.ev E22).ev E33; have h26 := h26.ev E33; have E := E.n E33; refine qm F fun a F => ?_; refine qx F fun a F => ?_; refine qx F fun a F => ?_; refine qa F fun a F => qa F fun a F => nil (hK28 _ _ ?_); refine sq fun K38 hK38 => ?_; have J49 : ∀ (c50 : Nat → Nat) (w51 : World) (a : Act) (b48 : Bool), Fr a 43 [(5, .pointer p14), (7, .slice A24 t18.length C25), (8, .pointer p35), (10, .bool b48)] → Ev (fun x => False ∨ m ≤ x) c0 w0 c50 w51 → CB (m + 5) c50 w51 → TB3 (m + 1) (m + 2) c50 w51 p14 t8.1 → SL true (Kint .u8) (m + 3) 0 c50 w51 A24 C25 (t18 ++ [201, 77]) → TB (m + 4) c50 w51 p35 t29.1 → l3_read.j1 k t8 t18 t29 b48 = some r → K38 a w51 := by
  intro c50 w51 a b48 F E B h15 h26 h36 H; unfold l3_read.j1 at H; refine hK38 _ _ ?_; refine sr fun K52 hK52 => qm F fun a F => ?_; obtain ⟨t53, q54, H⟩ := bind_some H; refine qc F Tryz.func18 (l3_spoil.calls k (m := m + 5) (pl hm0) B (SLM.v h26) ⟨(pl hm0), lm⟩ _ q54) ?_; rintro e w56 ⟨c55, rfl, E57, B, h59, hl60⟩; refine rt fun a F => ?_; have h15 := h15.ev E57; have h36 := h36.ev E57; have E := E.trans E57 lc1; have hl60 := hl60.symm; have F := F.sub (L' := [(5, .pointer p14), (8, .pointer p35), (10, .bool b48), (38, .slice A24 t53.length C25)]) ⟨rfl, rfl, rfl, (by rw [← hl60]; rfl), trivial⟩; refine nil (hK52 _ _ ?_); refine sr fun K62 hK62 => qm F fun a F => qm F fun a F => qm F fun a F => qa F fun a F => qa F fun a F => qa F fun a F => nil (hK62 _ _ ?_); refine wp_ret ?_; obtain rfl := si H; refine out3 F rfl rfl rfl rfl ?_; exact ⟨cf (fun x_ => if x_ = m + 4 then jr63 else if x_ = m + 1 then jr64 else if x_ = m + 2 then jr65 else if x_ < m then x_ else 0) c55, p35, p14, rfl, E.lv B0, cfb, TB.rc h36 cfk cfk, TB3.rc h15 cfk cfk cfk⟩
 refine reg ?_; refine qm F fun a F => qm F fun a F => ?_; refine qv F (r_eql F rfl rfl) fun a F => ?_; refine qm F fun a F => ?_
 by_cases hb39 : t8.2 = t29.2
 ·have H := ip hb39 H; refine qy F (dt hb39) ?_; refine qm F fun a F => ?_; refine qy F (dt hb39) ?_; refine qv F (r_pneqA F Tryz.underlying23 rfl rfl (TB.isNone h36)) fun a F => ?_; refine qy F (dt hb39) ?_; refine qm F fun a F => ?_; refine qy F (dt hb39) ?_; refine qv F (r_pneqA F Tryz.underlying26 rfl rfl (TB3.isNone h15)) fun a F => ?_; refine qy F (dt hb39) ?_; refine qv F (r_beql F Tryz.underlying4 rfl rfl) fun a F => ?_; refine qv F (r_pick_t F rfl (dt hb39) rfl) fun a F => ?_; refine qm F fun a F => ?_
  by_cases hb40 : ((!Option.isNone t29.1) == (!Option.isNone t8.1)) = true
  ·have H := ip hb40 H; refine qy F hb40 ?_; refine qm F fun a F => ?_; refine qy F hb40 ?_; refine qm F fun a F => ?_; obtain ⟨t41, q42, H⟩ := bind_some H; refine qy F hb40 ?_; refine qc F Tryz.func17 (l3_kept.calls k (m := m + 5) (pl hm0) B h26.r h4 lm (Nat.lt_add_right _ bj5) _ q42) ?_; rintro e w44 ⟨c43, rfl, E45, B⟩; refine rt fun a F => ?_; have h15 := h15.ev E45; have h26 := h26.ev E45; have h36 := h36.ev E45; have E := E.n E45; refine qv F (r_pick_t F rfl hb40 rfl) fun a F => ?_; refine qa F fun a F => nil ?_; exact J49 c43 w44 a t41 (F.sub ⟨rfl, rfl, rfl, rfl, trivial⟩) E B h15 h26 h36 H
  have H := im hb40 H; refine qn F (bfalse hb40) fun a F => qn F (bfalse hb40) fun a F => qn F (bfalse hb40) fun a F => ?_; refine qv F (r_pick_f F rfl (bfalse hb40) rfl) fun a F => ?_; refine qa F fun a F => nil ?_; exact J49 c31 w32 a false (F.sub ⟨rfl, rfl, rfl, rfl, trivial⟩) E B h15 h26 h36 H
 have H := im hb39 H; refine qn F (dz hb39) fun a F => qn F (dz hb39) fun a F => qn F (dz hb39) fun a F => qn F (dz hb39) fun a F => qn F (dz hb39) fun a F => ?_; refine qv F (r_pick_f F rfl (dz hb39) rfl) fun a F => ?_; refine qm F fun a F => qn F rfl fun a F => qn F rfl fun a F => qn F rfl fun a F => ?_; refine qp F fun a F => ?_; refine qa F fun a F => nil ?_; exact J49 c31 w32 a false (F.sub ⟨rfl, rfl, rfl, rfl, trivial⟩) E B h15 h26 h36 H
theorem l3_round.calls {m : Nat} {c0 : Nat → Nat} {w0 : World} {a1 : Int} {a2 : Int} (hm0 : 0 < m) (B0 : CB m c0 w0) (r : Int) (H : l3_round.f a1 a2 = some r) : Calls Tryz.prog 7 #[.int .i64 a1, .int .i64 a2] w0 (fun e w_ => ∃ (c_ : Nat → Nat), e = .returned (.int .i64 r) ∧ Ev (fun x => False) c0 w0 c_ w_ ∧ CB m c_ w_) := by
 unfold l3_round.f at H; have B := B0.mono (show m ≤ m + 1 by omega); have E : Ev (fun x => False ∨ m ≤ x) c0 w0 c0 w0 := Ev.refl; refine enter (N := 15) (l := [.int .i64 a1, .int .i64 a2]) Tryz.func7 rfl rfl (nb rfl) fun a F => ?_; refine sr fun K3 hK3 => qa F fun a F => nil (hK3 _ _ ?_); refine sr fun K4 hK4 => qm F fun a F => qm F fun a F => ?_; have H := ifN H; obtain ⟨g5, H⟩ := H; refine qv F (r_rem F rfl rfl g5) fun a F => ?_; refine qa F fun a F => nil (hK4 _ _ ?_); refine sq fun K6 hK6 => ?_; refine sr fun K7 hK7 => qm F fun a F => ?_; refine qv F (r_lss F rfl rfl) fun a F => ?_; refine nil (hK7 _ _ ?_)
 by_cases hb8 : (Int.tmod a1 a2) < 0
 ·have H := ip hb8 H; refine wct (fb F (dt hb8)) ?_; refine reg ?_; refine qm F fun a F => qm F fun a F => ?_; refine qv F (r_add F rfl rfl) fun a F => ?_; refine qa F fun a F => nil (hK6 _ _ ?_); have F : Fr a 15 [(5, .int .i64 (IntKind.i64.wrap ((Int.tmod a1 a2) + a2)))] := F.sub ⟨rfl, trivial⟩; refine sr fun K9 hK9 => qm F fun a F => qa F fun a F => nil (hK9 _ _ ?_); refine wp_ret ?_; obtain rfl := si H; refine out1 F rfl rfl ?_; exact ⟨cf (ct m) c0, rfl, E.lv B0, cfb⟩
 have H := im hb8 H; refine wcf (fb F (dz hb8)) (wp_skip (hK6 _ _ ?_)); have F : Fr a 15 [(5, .int .i64 (Int.tmod a1 a2))] := F.sub ⟨rfl, trivial⟩; refine sr fun K10 hK10 => qm F fun a F => qa F fun a F => nil (hK10 _ _ ?_); refine wp_ret ?_; obtain rfl := si H; refine out1 F rfl rfl ?_; exact ⟨cf (ct m) c0, rfl, E.lv B0, cfb⟩
theorem d3_New.calls {m : Nat} {c0 : Nat → Nat} {w0 : World} (hm0 : 0 < m) (B0 : CB m c0 w0) (jr11 : Nat) (bjr11 : jr11 < m) (jr12 : Nat) (bjr12 : jr12 < m) (r : (Option Tb3)) (H : d3_New.f = some r) : Calls Tryz.prog 6 #[] w0 (fun e w_ => ∃ (c_ : Nat → Nat) (P0_ : Option Addr), e = .returned (.pointer P0_) ∧ Ev (fun x => False) c0 w0 c_ w_ ∧ CB m c_ w_ ∧ TB3 jr11 jr12 c_ w_ P0_ r) := by
 unfold d3_New.f at H; have B := B0.mono (show m ≤ m + 3 by omega); have E : Ev (fun x => False ∨ m ≤ x) c0 w0 c0 w0 := Ev.refl; refine enter (N := 3) (l := []) Tryz.func6 rfl rfl (nb rfl) fun a F => ?_; refine sr fun K1 hK1 => qa F fun a F => nil (hK1 _ _ ?_); refine sr fun K2 hK2 => ?_; refine qv F (r_build (v := .agg #[.slice none 0 0, .int .i64 0]) F [] (by exact trivial) (fun w => by kernel_rfl)) fun a F => ?_; refine q_eff F rfl rfl (by decide) (e_box F (v := .agg #[.slice none 0 0, .int .i64 0]) rfl c0 (m + 1)) ?_; rintro v w4 a ⟨c3, qa5, rfl, E6, h7, B8⟩ F; have B := B8 _ B lm; have E := E.n E6; have h7 : AT _ _ _ _ _ [.slice none 0 0, .int .i64 0] := h7; refine qa F fun a F => nil (hK2 _ _ ?_); refine wp_ret ?_; have h10 : TB3 (m + 1) (m + 2) c3 w4 (some qa5) (some (Tb3.mk [] 0)) := TB3.mk h7 SL.nil; obtain rfl := si H; refine out1 F rfl rfl ?_; exact ⟨cf (fun x_ => if x_ = m + 1 then jr11 else if x_ = m + 2 then jr12 else if x_ < m then x_ else 0) c3, (some qa5), rfl, E.lv B0, cfb, TB3.rc h10 cfk cfk cfk⟩
theorem l3_TableScripts.calls (k : Nat) {m : Nat} {c0 : Nat → Nat} {w0 : World} {A2 : Option Addr} {C3 : Nat} {a1 : List l3_Step} (hm0 : 0 < m) (B0 : CB m c0 w0) (h4 : SL false K_haulagelaw13_Step 0 0 c0 w0 A2 C3 a1) (r : Bool) (H : l3_TableScripts.f k a1 = some r) : Calls Tryz.prog 3 #[.slice A2 a1.length C3] w0 (fun e w_ => ∃ (c_ : Nat → Nat), e = .returned (.bool r) ∧ Ev (fun x => False) c0 w0 c_ w_ ∧ CB m c_ w_) := by
 unfold l3_TableScripts.f at H; have B := B0.mono (show m ≤ m + 35 by omega); have E : Ev (fun x => False ∨ m ≤ x) c0 w0 c0 w0 := Ev.refl; refine enter (N := 139) (l := [.slice A2 a1.length C3]) Tryz.func3 rfl rfl (nb rfl) fun a F => ?_; refine sr fun K5 hK5 => qa F fun a F => nil (hK5 _ _ ?_); refine sr fun K6 hK6 => ?_; obtain ⟨t7, q8, H⟩ := bind_some H; refine qc F Tryz.func5 (table_New.calls (m := m + 35) (pl hm0) B (m + 1) lm _ q8) ?_; rintro e w10 ⟨c9, p13, rfl, E11, B, h14⟩; refine rt fun a F => ?_; replace h4 := h4.ev E11; replace E := E.n E11; have h16 : GR KO_Tab (m + 2) c9 w10 ([] : List (List Value)) ([] : List (Option Tab)) := GR.nil (pl hm0); obtain ⟨c17, e18, e19, h16⟩ := GRL.push (zs := [m + 1]) (ds := ([.pointer p13] : List Value)) (x := t7) h16 ⟨p13, rfl, h14⟩ rfl ⟨⟨mm, (pl hm0)⟩, trivial⟩ ⟨trivial, trivial⟩; replace h4 := SL.rc h4 (rn e18 ⟨ne_zm, trivial⟩) (rn e18 ⟨ne_zm, trivial⟩); replace E := E.rn B0 e18; replace B := B.rk e19 lm; refine q_eff F rfl rfl (by decide) (e_buildSlice (n := 1) (e := 23) (c := c17) (k := Kraw KO_Tab.sz KO_Tab.pos) (i := 0) F [(0, .pointer p13)] [.pointer p13] ([([.pointer p13] : List Value)] : List (List Value)) (by exact ⟨rfl, rfl, trivial⟩) (fun w => by kernel_rfl) rfl (by decide) rfl ⟨⟨rfl, rfl, one_all rfl⟩, trivial⟩ (fun q => q) (m + 3)) ?_; rintro v w21 a ⟨c20, A22, C23, rfl, E24, h25, B26⟩ F; replace B := B26 _ B lm; replace h16 := h16.ev E24
 as_aux_lemma =>
 replace E := E.n E24; replace h25 : OL KO_Tab (m + 3) (m + 2) c20 w21 A22 C23 [t7] := OL.mk h25 h16; refine qa F fun a F => nil (hK6 _ _ ?_); refine sr fun K27 hK27 => ?_; obtain ⟨t28, q29, H⟩ := bind_some H; refine qc F Tryz.func6 (d3_New.calls (m := m + 35) (pl hm0) B (m + 4) lm (m + 5) lm _ q29) ?_; rintro e w31 ⟨c30, p34, rfl, E32, B, h35⟩; refine rt fun a F => ?_; replace h4 := (h4.ev E24).ev E32; replace h25 := h25.ev E32; replace E := E.n E32; have h37 : GR KO_Tb3 (m + 6) c30 w31 ([] : List (List Value)) ([] : List (Option Tb3)) := GR.nil (pl hm0); obtain ⟨c38, e39, e40, h37⟩ := GRL.push (zs := [m + 4, m + 5]) (ds := ([.pointer p34] : List Value)) (x := t28) h37 ⟨p34, rfl, h35⟩ rfl ⟨⟨mm, (pl hm0)⟩, ⟨mm, (pl hm0)⟩, trivial⟩ ⟨⟨mm, trivial⟩, trivial, trivial⟩; replace h4 := SL.rc h4 (rn e39 ⟨ne_zm, ne_zm, trivial⟩) (rn e39 ⟨ne_zm, ne_zm, trivial⟩); replace h25 := OL.rc h25 (rn e39 ⟨mm, mm, trivial⟩) (rn e39 ⟨mm, mm, trivial⟩) (rn e39 ⟨ne_zm, ne_zm, trivial⟩) (pl hm0); replace E := E.rn B0 e39; replace B := B.rk e40 lm; refine q_eff F rfl rfl (by decide) (e_buildSlice (n := 1) (e := 26) (c := c38) (k := Kraw KO_Tb3.sz KO_Tb3.pos) (i := 0) F [(0, .pointer p34)] [.pointer p34] ([([.pointer p34] : List Value)] : List (List Value)) (by exact ⟨rfl, rfl, trivial⟩) (fun w => by kernel_rfl) rfl (by decide) rfl ⟨⟨rfl, rfl, one_all rfl⟩, trivial⟩ (fun q => q) (m + 7)) ?_; rintro v w42 a ⟨c41, A43, C44, rfl, E45, h46, B47⟩ F; replace B := B47 _ B lm; replace h4 := h4.ev E45; replace h25 := h25.ev E45
 as_aux_lemma =>
 replace h37 := h37.ev E45; replace E := E.n E45; replace h46 : OL KO_Tb3 (m + 7) (m + 6) c41 w42 A43 C44 [t28] := OL.mk h46 h37; refine qa F fun a F => nil (hK27 _ _ ?_); refine sq fun K48 hK48 => ?_; refine sr fun K49 hK49 => qm F fun a F => ?_; replace H := ifN H; obtain ⟨g50, H⟩ := H; obtain ⟨c51, e52, e53, ad54, cs55, e56, h57, r58, h25⟩ := OL.lend h25 [m + 8] (0 : Int) g50.1 g50.2 rfl ⟨⟨mm, (pl hm0)⟩, trivial⟩ mm; replace h4 := SL.rc h4 (rk e52 ne_zm) (rk e52 ne_zm); replace h46 := OL.rc h46 (rk e52 mm) (rk e52 mm) (rk e52 ne_zm) (pl hm0); obtain ⟨p60, rfl, h61⟩ := r58; replace h61 : TB (m + 8) c51 w42 p60 (rd [t7] (0 : Int)) := h61; obtain ⟨qa59, qqa59⟩ : ∃ q, q = (ad54.add ((0 : Int).toNat * 1)) := ⟨_, rfl⟩; have h57 : AT true (m + 3) c51 w42 qa59 [.pointer p60] := by rw [qqa59]; exact h57
 replace E := E.rk B0 e52; replace B : CB (m + 35) c51 w42 := e53 _ ⟨lm, trivial⟩ B; refine qv F (r_indexAddr' F Tryz.underlying25 sz_23 rfl rfl g50.1 g50.2 e56 qqa59) fun a F => ?_; refine qv F (r_load F rfl ag_23 (AT.cell0 h57 rfl)) fun a F => ?_; refine qv F (r_peqlA F Tryz.underlying23 rfl rfl (TB.isNone h61)) fun a F => ?_; obtain ⟨c63, e64, e65, h25⟩ := OL.back (zs := [m + 8]) (k := (0 : Int)) (ad := ad54) (x := (rd [t7] (0 : Int))) h25 g50.1 g50.2 e56 (by have q_ := h57; rw [qqa59] at q_; exact q_) ⟨p60, rfl, h61⟩ rfl ⟨⟨mm, (pl hm0)⟩, trivial⟩ ⟨trivial, trivial⟩ ⟨mm, trivial⟩ ⟨ne_zm, trivial⟩; rw [set_rd g50.1] at h25
 as_aux_lemma =>
 replace h4 := SL.rc h4 (rn e64 ⟨ne_zm, trivial⟩) (rn e64 ⟨ne_zm, trivial⟩); replace h46 := OL.rc h46 (rn e64 ⟨mm, trivial⟩) (rn e64 ⟨mm, trivial⟩) (rn e64 ⟨ne_zm, trivial⟩) (pl hm0); replace E := E.rn B0 e64; replace B := B.rk e65 lm; refine nil (hK49 _ _ ?_)
 by_cases hb67 : (Option.isNone (rd [t7] (0 : Int))) = true
 ·replace H := ip hb67 H; refine wct (fb F hb67) ?_; refine sr fun K68 hK68 => qa F fun a F => nil (hK68 _ _ ?_); refine wp_ret ?_; refine thenR ?_; obtain rfl := si H; refine out1 F rfl rfl ?_; exact ⟨cf (ct m) c63, rfl, E.lv B0, cfb⟩
 replace H := im hb67 H; refine wcf (fb F (bfalse hb67)) (wp_skip (hK48 _ _ ?_)); refine sq fun K69 hK69 => ?_; refine sr fun K70 hK70 => qa F fun a F => nil (hK70 _ _ ?_); refine wp_block ?_; obtain ⟨x89, HL, HR88⟩ := bind_some H; have J500 : ∀ (c501 : Nat → Nat) (w502 : World) (a : Act) (l493 : List (Option Tab)) (A494 : Option Addr) (C495 : Nat) (l497 : List (Option Tb3)) (A498 : Option Addr) (C499 : Nat), Fr a 139 [(3, .slice A494 l493.length C495), (4, .slice A498 l497.length C499)] → Ev (fun x => False ∨ m ≤ x) c0 w0 c501 w502 → CB (m + 35) c501 w502 → OL KO_Tab (m + 3) (m + 2) c501 w502 A494 C495 l493 → OL KO_Tb3 (m + 7) (m + 6) c501 w502 A498 C499 l497 → l3_TableScripts.j2 k l493 l497 = some r → K69 a w502 := by
  intro c501 w502 a l493 A494 C495 l497 A498 C499 F E B h492 h496 H; unfold l3_TableScripts.j2 at H
  as_aux_lemma =>
  refine hK69 _ _ ?_; refine sq fun K503 hK503 => ?_; refine sr fun K504 hK504 => qa F fun a F => nil (hK504 _ _ ?_); refine wp_block ?_; obtain ⟨x587, HL, HR586⟩ := bind_some H; have J648 : ∀ (c649 : Nat → Nat) (w650 : World) (a : Act), Fr a 139 [] → Ev (fun x => False ∨ m ≤ x) c0 w0 c649 w650 → CB (m + 35) c649 w650 → l3_TableScripts.j4 k = some r → K503 a w650 := by
   intro c649 w650 a  F E B  H; unfold l3_TableScripts.j4 at H; refine hK503 _ _ ?_; refine sr fun K651 hK651 => qa F fun a F => nil (hK651 _ _ ?_); refine sr fun K652 hK652 => qm F fun a F => ?_; refine q_eff F rfl rfl (by decide) (e_buildSlice (n := 1) (e := 5) (c := c649) (k := (Kint .u8)) (i := 0) F [(0, .int .u8 1)] [.int .u8 1] ([1] : List Int) (by exact ⟨rfl, rfl, trivial⟩) (fun w => by kernel_rfl) rfl (by decide) rfl ⟨rfl, trivial⟩ (fun q => q) 0) ?_; rintro v w654 a ⟨c653, A655, C656, rfl, E657, h658, B659⟩ F; replace B := B659 _ B (pl hm0); replace E := E.n E657; refine qv F (r_build (v := .agg #[.int .i64 1, .slice A655 [1].length C656, .slice none 0 0, .int .i64 0]) F [(0, .int .i64 1), (1, .slice A655 [1].length C656)] (by exact ⟨rfl, rfl, rfl, rfl, trivial⟩) (fun w => by kernel_rfl)) fun a F => ?_; obtain ⟨t660, q661, H⟩ := bind_some H; refine qc F Tryz.func12 (T_Do.calls k (m := m + 35) (a5 := AO.mk 1 [1] [] 0) (pl hm0) B (TB.nil (j := m)) h658.r (SL.nil (j := 0) (i := 0)) ⟨hm0, (Nat.lt_add_of_pos_right (by decide))⟩ ⟨(pl hm0), (ne_z hm0)⟩ ⟨(pl hm0), (ne_z hm0)⟩ 0 (pl hm0) 0 (pl hm0) _ q661) ?_; rintro e w663 ⟨c662, A666, C667, A669, C670, rfl, E664, B, h668, h671, h672⟩; refine rt fun a F => ?_; replace E := E.trans E664 (fun x (q : x = m) => Or.inr (le_col0 q)); refine qm F fun a F => ?_
   as_aux_lemma =>
   refine qx F fun a F => ?_; refine qx F fun a F => ?_; refine q_eff F rfl rfl (by decide) (e_alloc F zv_39 c662 (m + 33)) ?_; rintro v w675 a ⟨c674, qa676, rfl, E677, h678, B679⟩ F; replace B := B679 _ B lm; replace h672 := h672.ev E677; replace E := E.n E677; replace h678 : AT _ _ _ _ _ [.bool false, .slice none 0 0, .slice none 0 0, .int .i64 0, .int .i64 0] := h678; refine q_eff0 F rfl rfl (e_storeN0 (us := [.bool t660.1.Done, .slice A666 t660.1.Key.length C667, .slice A669 t660.1.Value.length C670, .int .i64 t660.1.Rev, .int .i64 t660.1.At]) F rfl rfl sz_39 h678 (nb rfl) (one_all rfl)) ?_; rintro w681 a ⟨E682, h678, Z683⟩ F; replace B := B.size Z683; replace h672 := h672.ev E682 ne_m0 ne_zm; replace E := E.trans E682 lc1; refine qa F fun a F => nil (hK652 _ _ ?_); replace F : Fr a 139 [(18, .pointer none), (20, .int .i64 t660.2.1)] := F.sub ⟨rfl, rfl, trivial⟩; refine sr fun K684 hK684 => qm F fun a F => ?_; refine qv F (r_eql F rfl rfl) fun a F => ?_; refine qm F fun a F => ?_
   by_cases hb685 : t660.2.1 = 1
   ·replace H := ip hb685 H; refine qy F (dt hb685) ?_; refine qm F fun a F => ?_; obtain ⟨t686, q687, H⟩ := bind_some H
    as_aux_lemma =>
    refine qy F (dt hb685) ?_; refine qc F Tryz.func9 (T_Copy.calls (m := m + 35) (pl hm0) B h672 (Nat.lt_add_of_pos_right (by decide)) (m + 34) lm _ q687) ?_; rintro e w689 ⟨c688, p692, rfl, E690, B, h693⟩; refine rt fun a F => ?_; replace E := E.n E690; refine qy F (dt hb685) ?_; refine qv F (r_peqlA F Tryz.underlying23 rfl rfl (TB.isNone h693)) fun a F => ?_; refine qv F (r_pick_t F rfl (dt hb685) rfl) fun a F => ?_; refine qa F fun a F => nil (hK684 _ _ ?_); replace F : Fr a 139 [(2, .bool (Option.isNone t686))] := F.sub ⟨rfl, trivial⟩; refine wp_ret ?_; obtain rfl := si H; refine out1 F rfl rfl ?_; exact ⟨cf (ct m) c688, rfl, E.lv B0, cfb⟩
   replace H := im hb685 H; refine qn F (dz hb685) fun a F => qn F (dz hb685) fun a F => qn F (dz hb685) fun a F => ?_; refine qv F (r_pick_f F rfl (dz hb685) rfl) fun a F => ?_; refine qa F fun a F => nil (hK684 _ _ ?_); replace F : Fr a 139 [(2, .bool false)] := F.sub ⟨rfl, trivial⟩; refine wp_ret ?_; obtain rfl := si H; refine out1 F rfl rfl ?_; exact ⟨cf (ct m) c674, rfl, E.lv B0, cfb⟩
  refine loop_fuel (I := fun n a w => ∃ (l572 : List (Option Tab)) (A569 : Option Addr) (C570 : Nat) (l576 : List (Option Tb3)) (A573 : Option Addr) (C574 : Nat) (i577 : Int) (c : Nat → Nat), Fr a 139 [(3, .slice A569 l572.length C570), (4, .slice A573 l576.length C574), (16, .int .i64 i577)] ∧ Ev (fun x => False ∨ m ≤ x) c0 w0 c w ∧ CB (m + 35) c w ∧ OL KO_Tab (m + 3) (m + 2) c w A569 C570 l572 ∧ OL KO_Tb3 (m + 7) (m + 6) c w A573 C574 l576 ∧ loop (fun (s_ : (List (Option Tab)) × (List (Option Tb3)) × Int) => l3_TableScripts.b3 k s_.1 s_.2.1 s_.2.2) n (l572, l576, i577) = some x587) (k := k) ⟨l493, A494, C495, l497, A498, C499, 0, c501, F.sub ⟨rfl, rfl, rfl, trivial⟩, E, B, h492, h496, HL⟩ ?_; clear HL H E F B; intro n584 X580 hX580 a w579 ⟨l572, A569, C570, l576, A573, C574, i577, c578, F, E, B, h571, h575, HL⟩; obtain ⟨n585, ctl583, rfl, HB, HN581, HD582⟩ := loop_some HL; have H : l3_TableScripts.b3 k l572 l576 i577 = some ctl583 := HB; clear HB HL; unfold l3_TableScripts.b3 at H
  as_aux_lemma =>
  refine sq fun K588 hK588 => ?_; refine sr fun K589 hK589 => qm F fun a F => qm F fun a F => ?_; refine qv F (r_lensl F Tryz.underlying25 rfl) fun a F => ?_; refine qv F (r_lss F rfl rfl) fun a F => ?_; refine nil (hK589 _ _ ?_)
  by_cases hb590 : i577 < (l572.length : Int)
  ·replace H := ip hb590 H; refine wct (fb F (dt hb590)) (wp_skip (hK588 _ _ ?_)); refine sq fun K591 hK591 => ?_; refine wp_block ?_; refine sq fun K592 hK592 => ?_; replace H := ifN H; obtain ⟨g593, H⟩ := H; obtain ⟨c594, e595, e596, ad597, cs598, e599, h600, r601, h571⟩ := OL.lend h571 [m + 30] i577 g593.1 g593.2 rfl ⟨⟨mm, (pl hm0)⟩, trivial⟩ mm; replace h575 := OL.rc h575 (rk e595 mm) (rk e595 mm) (rk e595 ne_zm) (pl hm0); obtain ⟨p603, rfl, h604⟩ := r601; replace h604 : TB (m + 30) c594 w579 p603 (rd l572 i577) := h604; obtain ⟨qa602, qqa602⟩ : ∃ q, q = (ad597.add (i577.toNat * 1)) := ⟨_, rfl⟩; have h600 : AT true (m + 3) c594 w579 qa602 [.pointer p603] := by rw [qqa602]; exact h600
   replace E := E.rk B0 e595; replace B : CB (m + 35) c594 w579 := e596 _ ⟨lm, trivial⟩ B; replace H := ifN H; obtain ⟨g606, H⟩ := H; obtain ⟨c607, e608, e609, ad610, cs611, e612, h613, r614, h575⟩ := OL.lend h575 [m + 31, m + 32] i577 g606.1 g606.2 rfl ⟨⟨mm, (pl hm0)⟩, ⟨mm, (pl hm0)⟩, trivial⟩ mm
   as_aux_lemma =>
   replace h571 := OL.rc h571 (rk e608 mm) (rk e608 mm) (rk e608 ne_zm) (pl hm0); replace h604 := TB.rc h604 (rk e608 mm) (rk e608 ne_zm); replace h600 := AT.rc h600 (rk e608 mm); obtain ⟨p616, rfl, h617⟩ := r614; replace h617 : TB3 (m + 31) (m + 32) c607 w579 p616 (rd l576 i577) := h617; obtain ⟨qa615, qqa615⟩ : ∃ q, q = (ad610.add (i577.toNat * 1)) := ⟨_, rfl⟩; have h613 : AT true (m + 7) c607 w579 qa615 [.pointer p616] := by rw [qqa615]; exact h613
   replace E := E.rk B0 e608; replace B : CB (m + 35) c607 w579 := e609 _ ⟨lm, lm, trivial⟩ B; refine regD (SB (fun x => x = m + 30 ∨ x = m + 31 ∨ x = m + 32) c607 w579) 11 (.q 0 (.q 1 (.q 2 (.q 3 (.q 4 (.q 5 (.q 6 (.q 7 (.q 8 (.e 9 (.q 10 .nil))))))))))) Tryz_hm (by decide +kernel) ?_; intro w619 w1_ w2_ w3_ w4_; have E620 : Ev No c607 w579 c607 w619 := Ev.same w1_ w2_ w3_ w4_; replace B := B.same w1_; have zh600 := h600; have zh613 := h613; have ER : Ev (fun x => x = m + 30 ∨ x = m + 31 ∨ x = m + 32) c607 w579 c607 w619 := Ev.same w1_ w2_ w3_ w4_; replace h571 := h571.ev E620; replace h575 := h575.ev E620; replace h604 := h604.ev E620; replace h600 := h600.ev E620; replace h617 := h617.ev E620; replace h613 := h613.ev E620
   as_aux_lemma =>
   replace E := E.n E620; refine dm F ER.sb fun a F => ?_; refine dm F ER.sb fun a F => ?_; refine dq F (fun wq hS => r_indexAddr' F Tryz.underlying25 sz_23 rfl rfl g593.1 g593.2 e599 qqa602) ER.sb fun a F => ?_; refine dq F (fun wq hS => r_load F rfl ag_23 (AT.cell0 (AT.sb zh600 hS (nor mm (nor mm mm))) rfl)) ER.sb fun a F => ?_; refine dm F ER.sb fun a F => ?_; refine dm F ER.sb fun a F => ?_; refine dq F (fun wq hS => r_indexAddr' F Tryz.underlying28 sz_26 rfl rfl g606.1 g606.2 e612 qqa615) ER.sb fun a F => ?_; refine dq F (fun wq hS => r_load F rfl ag_26 (AT.cell0 (AT.sb zh613 hS (nor mm (nor mm mm))) rfl)) ER.sb fun a F => ?_; refine d_q F rfl rfl rfl (by decide) (fun wq hS => r_build (v := .agg #[.int .i64 4, .int .i64 0, .int .i64 0, .slice none 0 0, .slice none 0 0, .int .i64 0, .slice none 0 0]) F [(0, .int .i64 4)] (by exact ⟨rfl, rfl, trivial⟩) (bd_33_i64_0 _)) ER.sb fun a F => ?_; refine d_e ?_; obtain ⟨t549, q550, H⟩ := bind_some H; refine oc F Tryz.func11 (l3_does.calls k (m := m + 35) (a10 := l3_Step.mk 4 0 (AO.mk 0 [] [] 0) []) (pl hm0) B h604 h617 (SL.nil (j := 0) (i := 0)) (SL.nil (j := 0) (i := 0)) (SL.nil (j := 0) (i := 0)) ⟨(pl hm0), lm⟩ ⟨(pl hm0), lm, mm⟩ ⟨(pl hm0), lm, mm, mm⟩ ⟨(pl hm0), ne_zm, ne_zm, ne_zm⟩ ⟨(pl hm0), ne_zm, ne_zm, ne_zm⟩ ⟨(pl hm0), ne_zm, ne_zm, ne_zm⟩ _ q550) ?_; rintro e w622 ⟨c621, rfl, E623, B, h625, h626⟩; refine rt fun a F => ?_; replace ER := ER.trans E623 (fun x q => by replace q : x = m + 30 ∨ x = m + 31 ∨ x = m + 32 := q; show x = m + 30 ∨ x = m + 31 ∨ x = m + 32; omega); replace h571 := h571.ev E623 (nor mm (nor mm mm)) (nor mm (nor mm mm)) (nor ne_zm (nor ne_zm ne_zm)); replace h575 := h575.ev E623 (nor mm (nor mm mm)) (nor mm (nor mm mm)) (nor ne_zm (nor ne_zm ne_zm)); replace h600 := h600.ev E623 (nor mm (nor mm mm)); replace h613 := h613.ev E623 (nor mm (nor mm mm)); replace E := E.trans E623 (fun x (q : x = m + 30 ∨ x = m + 31 ∨ x = m + 32) => q.elim (fun q => Or.inr (le_col q)) (fun q => q.elim (fun q => Or.inr (le_col q)) (fun q => Or.inr (le_col q)))); refine ⟨fun _ => ER.sb, ?_⟩
   as_aux_lemma =>
   refine da F ER.sb fun a F => ?_; refine d_nil ?_; obtain ⟨c628, e629, e630, h571⟩ := OL.back (zs := [m + 30]) (k := i577) (ad := ad597) (x := t549.2.1) h571 g593.1 g593.2 e599 (by have q_ := h600; rw [qqa602] at q_; exact q_) ⟨p603, rfl, h625⟩ rfl ⟨⟨mm, (pl hm0)⟩, trivial⟩ ⟨trivial, trivial⟩ ⟨mm, trivial⟩ ⟨ne_zm, trivial⟩; replace h575 := OL.rc h575 (rn e629 ⟨mm, trivial⟩) (rn e629 ⟨mm, trivial⟩) (rn e629 ⟨ne_zm, trivial⟩) (pl hm0); replace h613 := AT.rc h613 (rn e629 ⟨mm, trivial⟩); replace h626 := TB3.rc h626 (rn e629 ⟨mm, trivial⟩) (rn e629 ⟨mm, trivial⟩) (rn e629 ⟨ne_zm, trivial⟩); replace E := E.rn B0 e629; replace B := B.rk e630 lm; have hl631 : l572.length = (l572.set i577.toNat t549.2.1).length := by simp
   replace F := F.sub (L' := [(3, .slice A569 (l572.set i577.toNat t549.2.1).length C570), (4, .slice A573 l576.length C574), (16, .int .i64 i577), (17, .bool t549.1), (107, .int .i64 i577), (108, .slice A569 (l572.set i577.toNat t549.2.1).length C570), (109, .int .i64 (l572.length : Int)), (110, .bool (decide (i577 < (l572.length : Int)))), (113, .slice A569 (l572.set i577.toNat t549.2.1).length C570), (114, .int .i64 i577), (117, .slice A573 l576.length C574), (118, .int .i64 i577), (119, .pointer (some qa615)), (120, .pointer p616), (121, .agg #[.int .i64 4, .int .i64 0, .int .i64 0, .slice none 0 0, .slice none 0 0, .int .i64 0, .slice none 0 0]), (122, .bool t549.1)]) ⟨(by rw [← hl631]; rfl), rfl, rfl, rfl, rfl, (by rw [← hl631]; rfl), rfl, rfl, (by rw [← hl631]; rfl), rfl, rfl, rfl, rfl, rfl, rfl, rfl, trivial⟩; obtain ⟨c632, e633, e634, h575⟩ := OL.back (zs := [m + 31, m + 32]) (k := i577) (ad := ad610) (x := t549.2.2) h575 g606.1 g606.2 e612 (by have q_ := h613; rw [qqa615] at q_; exact q_) ⟨p616, rfl, h626⟩ rfl ⟨⟨mm, (pl hm0)⟩, ⟨mm, (pl hm0)⟩, trivial⟩ ⟨⟨mm, trivial⟩, trivial, trivial⟩ ⟨mm, mm, trivial⟩ ⟨ne_zm, ne_zm, trivial⟩; replace h571 := OL.rc h571 (rn e633 ⟨mm, mm, trivial⟩) (rn e633 ⟨mm, mm, trivial⟩) (rn e633 ⟨ne_zm, ne_zm, trivial⟩) (pl hm0); replace E := E.rn B0 e633; replace B := B.rk e634 lm; have hl635 : l576.length = (l576.set i577.toNat t549.2.2).length := by simp
   replace F := F.sub (L' := [(3, .slice A569 (l572.set i577.toNat t549.2.1).length C570), (4, .slice A573 (l576.set i577.toNat t549.2.2).length C574), (16, .int .i64 i577), (17, .bool t549.1), (107, .int .i64 i577), (108, .slice A569 (l572.set i577.toNat t549.2.1).length C570), (109, .int .i64 (l572.length : Int)), (110, .bool (decide (i577 < (l572.length : Int)))), (113, .slice A569 (l572.set i577.toNat t549.2.1).length C570), (114, .int .i64 i577), (117, .slice A573 (l576.set i577.toNat t549.2.2).length C574), (118, .int .i64 i577), (121, .agg #[.int .i64 4, .int .i64 0, .int .i64 0, .slice none 0 0, .slice none 0 0, .int .i64 0, .slice none 0 0]), (122, .bool t549.1)]) ⟨rfl, (by rw [← hl635]; rfl), rfl, rfl, rfl, rfl, rfl, rfl, rfl, rfl, (by rw [← hl635]; rfl), rfl, rfl, rfl, trivial⟩; refine hK592 _ _ ?_; replace F : Fr a 139 [(3, .slice A569 (l572.set i577.toNat t549.2.1).length C570), (4, .slice A573 (l576.set i577.toNat t549.2.2).length C574), (16, .int .i64 i577), (17, .bool t549.1)] := F.sub ⟨rfl, rfl, rfl, rfl, trivial⟩; refine sr fun K636 hK636 => qm F fun a F => ?_; refine qv F (r_not F rfl) fun a F => ?_; refine nil (hK636 _ _ ?_)
   by_cases hb637 : t549.1 = true
   ·replace H := ip hb637 H
    as_aux_lemma =>
    refine wcf (fb F (congrArg not hb637)) (wp_skip (hK591 _ _ ?_)); refine reg ?_; refine qm F fun a F => ?_; refine qv F (r_add F rfl rfl) fun a F => ?_; refine qa F fun a F => nil ?_; replace H := HN581 _ (si H).symm; exact hX580 _ _ _ (Nat.lt_succ_self _) ⟨(l572.set i577.toNat t549.2.1), A569, C570, (l576.set i577.toNat t549.2.2), A573, C574, (IntKind.i64.wrap (i577 + 1)), c632, F.sub ⟨rfl, rfl, rfl, trivial⟩, E, B, h571, h575, H⟩
   replace H := im hb637 H; refine wct (fb F (congrArg not (bfalse hb637))) ?_; refine sr fun K638 hK638 => qa F fun a F => nil (hK638 _ _ ?_); refine wp_ret ?_; refine inbR ?_; refine thenR ?_; refine thenR ?_; refine inbR ?_; refine thenR ?_; have hx_ := HD582 _ (si H).symm; have H := HR586; rw [← hx_] at H; replace H : some false = some r := H; obtain rfl := si H; refine out1 F rfl rfl ?_; exact ⟨cf (ct m) c632, rfl, E.lv B0, cfb⟩
  as_aux_lemma =>
  replace H := im hb590 H; refine wcf (fb F (dz hb590)) ?_; refine wp_exit ?_; refine thenE ?_; refine thenE ?_; refine inbE ?_; have hx_ := HD582 _ (si H).symm; have H := HR586; rw [← hx_] at H; exact J648 c578 w579 a  (F.sub trivial) E B  H
 refine loop_fuel (I := fun n a w => ∃ (l71 : List (Option Tab)) (A72 : Option Addr) (C73 : Nat) (l75 : List (Option Tb3)) (A76 : Option Addr) (C77 : Nat) (i79 : Int) (c : Nat → Nat), Fr a 139 [(0, .slice A2 a1.length C3), (3, .slice A72 l71.length C73), (4, .slice A76 l75.length C77), (5, .int .i64 i79)] ∧ Ev (fun x => False ∨ m ≤ x) c0 w0 c w ∧ CB (m + 35) c w ∧ SL false K_haulagelaw13_Step 0 0 c w A2 C3 a1 ∧ OL KO_Tab (m + 3) (m + 2) c w A72 C73 l71 ∧ OL KO_Tb3 (m + 7) (m + 6) c w A76 C77 l75 ∧ loop (fun (s_ : (List (Option Tab)) × (List (Option Tb3)) × Int) => l3_TableScripts.b1 k a1 s_.1 s_.2.1 s_.2.2) n (l71, l75, i79) = some x89) (k := k) ⟨[t7], A22, C23, [t28], A43, C44, 0, c63, F.sub ⟨rfl, rfl, rfl, rfl, trivial⟩, E, B, h4, h25, h46, HL⟩ ?_; clear HL H E F B; intro n86 X82 hX82 a w81 ⟨l71, A72, C73, l75, A76, C77, i79, c80, F, E, B, h4, h74, h78, HL⟩; obtain ⟨n87, ctl85, rfl, HB, HN83, HD84⟩ := loop_some HL; have H : l3_TableScripts.b1 k a1 l71 l75 i79 = some ctl85 := HB; clear HB HL; unfold l3_TableScripts.b1 at H; refine sq fun K90 hK90 => ?_; refine sr fun K91 hK91 => qm F fun a F => qm F fun a F => ?_; refine qv F (r_lensl F Tryz.underlying22 rfl) fun a F => ?_; refine qv F (r_lss F rfl rfl) fun a F => ?_; refine nil (hK91 _ _ ?_)
 by_cases hb92 : i79 < (a1.length : Int)
 ·replace H := ip hb92 H
  as_aux_lemma =>
  refine wct (fb F (dt hb92)) (wp_skip (hK90 _ _ ?_)); refine sq fun K93 hK93 => ?_; refine wp_block ?_; refine sr fun K94 hK94 => qm F fun a F => qm F fun a F => ?_; replace H := ifN H; obtain ⟨g95, H⟩ := H; obtain ⟨ad96, cs97, e98, h99, r100⟩ := SL.at h4 i79 g95.1 g95.2; obtain ⟨A101, C102, A104, C105, A107, C108, rfl, h103, h106, h109⟩ := r100; replace h103 := SL.fl (i' := 0) h103 (fun q => q); replace h106 := SL.fl (i' := 0) h106 (fun q => q); replace h109 := SL.fl (i' := 0) h109 (fun q => q); obtain ⟨qa110, qqa110⟩ : ∃ q, q = (ad96.add (i79.toNat * 7)) := ⟨_, rfl⟩; have h99 : AT false 0 c80 w81 qa110 [.int .i64 ((rd a1 i79).Kind), .int .i64 ((rd a1 i79).Which), .int .i64 (((rd a1 i79).Op).Kind), .slice A101 (((rd a1 i79).Op).Key).length C102, .slice A104 (((rd a1 i79).Op).Value).length C105, .int .i64 (((rd a1 i79).Op).Rev), .slice A107 ((rd a1 i79).P).length C108] := by rw [qqa110]; exact h99
  refine qv F (r_indexAddr' F Tryz.underlying22 sz_33 rfl rfl g95.1 g95.2 e98 qqa110) fun a F => ?_; refine qv F (r_loads (cs := [.int .i64 ((rd a1 i79).Kind), .int .i64 ((rd a1 i79).Which), .int .i64 (((rd a1 i79).Op).Kind), .slice A101 (((rd a1 i79).Op).Key).length C102, .slice A104 (((rd a1 i79).Op).Value).length C105, .int .i64 (((rd a1 i79).Op).Rev), .slice A107 ((rd a1 i79).P).length C108]) F rfl ag_33 sz_33 h99) fun a F => ?_; refine q_eff F rfl rfl (by decide) (e_alloc F zv_33 c80 (m + 9)) ?_; rintro v w113 a ⟨c112, qa114, rfl, E115, h116, B117⟩ F; replace B := B117 _ B lm; replace E := E.n E115; replace h116 : AT _ _ _ _ _ [.int .i64 0, .int .i64 0, .int .i64 0, .slice none 0 0, .slice none 0 0, .int .i64 0, .slice none 0 0] := h116; refine q_eff0 F rfl rfl (e_storeN0 (us := [.int .i64 ((rd a1 i79).Kind), .int .i64 ((rd a1 i79).Which), .int .i64 (((rd a1 i79).Op).Kind), .slice A101 (((rd a1 i79).Op).Key).length C102, .slice A104 (((rd a1 i79).Op).Value).length C105, .int .i64 (((rd a1 i79).Op).Rev), .slice A107 ((rd a1 i79).P).length C108]) F rfl rfl sz_33 h116 (nb rfl) (one_all rfl)) ?_; rintro w119 a ⟨E120, h116, Z121⟩ F
  as_aux_lemma =>
  replace B := B.size Z121; replace E := E.trans E120 lc1; replace h116 : AT _ _ _ _ _ [.int .i64 ((rd a1 i79).Kind), .int .i64 ((rd a1 i79).Which), .int .i64 (((rd a1 i79).Op).Kind), .slice A101 (((rd a1 i79).Op).Key).length C102, .slice A104 (((rd a1 i79).Op).Value).length C105, .int .i64 (((rd a1 i79).Op).Rev), .slice A107 ((rd a1 i79).P).length C108] := h116; refine nil (hK94 _ _ ?_); replace F : Fr a 139 [(0, .slice A2 a1.length C3), (3, .slice A72 l71.length C73), (4, .slice A76 l75.length C77), (5, .int .i64 i79), (6, .pointer (some qa114))] := F.sub ⟨rfl, rfl, rfl, rfl, rfl, trivial⟩; refine sr fun K122 hK122 => qf F ff_33_1 fun a F => ?_; refine ql F ag_3 h116 fun a F => ?_; refine qm F fun a F => ?_; refine qv F (r_lensl F Tryz.underlying25 rfl) fun a F => ?_; refine qv F (r_add F rfl rfl) fun a F => ?_; obtain ⟨t123, q124, H⟩ := bind_some H; refine qc F Tryz.func7 (l3_round.calls (m := m + 35) (pl hm0) B _ q124) ?_; rintro e w126 ⟨c125, rfl, E127, B⟩; refine rt fun a F => ?_; replace h4 := ((h4.ev E115).ev E120).ev E127; replace h74 := ((h74.ev E115).ev E120).ev E127; replace h78 := ((h78.ev E115).ev E120).ev E127; replace h103 := ((h103.ev E115).ev E120).ev E127; replace h106 := ((h106.ev E115).ev E120).ev E127; replace h109 := ((h109.ev E115).ev E120).ev E127; replace h116 := h116.ev E127; replace E := E.n E127
  as_aux_lemma =>
  refine qa F fun a F => nil (hK122 _ _ ?_); refine sr fun K130 hK130 => qa F fun a F => nil (hK130 _ _ ?_); refine sr fun K131 hK131 => qa F fun a F => nil (hK131 _ _ ?_); refine sq fun K132 hK132 => ?_; refine sr fun K133 hK133 => qm F fun a F => qm F fun a F => ?_; refine qv F (r_lensl F Tryz.underlying25 rfl) fun a F => ?_; refine qv F (r_lss F rfl rfl) fun a F => ?_; refine nil (hK133 _ _ ?_); replace F : Fr a 139 [(0, .slice A2 a1.length C3), (3, .slice A72 l71.length C73), (4, .slice A76 l75.length C77), (5, .int .i64 i79), (6, .pointer (some qa114)), (7, .int .i64 t123), (8, .pointer none), (9, .pointer none), (48, .bool (decide (t123 < (l71.length : Int))))] := F.sub ⟨rfl, rfl, rfl, rfl, rfl, rfl, rfl, rfl, rfl, trivial⟩
  by_cases hb134 : t123 < (l71.length : Int)
  ·replace H := ip hb134 H; refine wct (fb F (dt hb134)) ?_; replace H := ifN H; obtain ⟨g135, H⟩ := H; obtain ⟨c136, e137, e138, ad139, cs140, e141, h142, r143, h74⟩ := OL.lend h74 [m + 10] t123 g135.1 g135.2 rfl ⟨⟨mm, (pl hm0)⟩, trivial⟩ mm; replace h4 := SL.rc h4 (rk e137 ne_zm) (rk e137 ne_zm); replace h78 := OL.rc h78 (rk e137 mm) (rk e137 mm) (rk e137 ne_zm) (pl hm0); replace h103 := SL.rc h103 (rk e137 ne_zm) (rk e137 ne_zm); replace h106 := SL.rc h106 (rk e137 ne_zm) (rk e137 ne_zm); replace h109 := SL.rc h109 (rk e137 ne_zm) (rk e137 ne_zm); replace h116 := AT.rc h116 (rk e137 mm); obtain ⟨p145, rfl, h146⟩ := r143; replace h146 : TB (m + 10) c136 w126 p145 (rd l71 t123) := h146; obtain ⟨qa144, qqa144⟩ : ∃ q, q = (ad139.add (t123.toNat * 1)) := ⟨_, rfl⟩; have h142 : AT true (m + 3) c136 w126 qa144 [.pointer p145] := by rw [qqa144]; exact h142
   as_aux_lemma =>
   replace E := E.rk B0 e137; replace B : CB (m + 35) c136 w126 := e138 _ ⟨lm, trivial⟩ B; replace H := ifN H; obtain ⟨g148, H⟩ := H; obtain ⟨c149, e150, e151, ad152, cs153, e154, h155, r156, h78⟩ := OL.lend h78 [m + 11, m + 12] t123 g148.1 g148.2 rfl ⟨⟨mm, (pl hm0)⟩, ⟨mm, (pl hm0)⟩, trivial⟩ mm; replace h4 := SL.rc h4 (rk e150 ne_zm) (rk e150 ne_zm); replace h74 := OL.rc h74 (rk e150 mm) (rk e150 mm) (rk e150 ne_zm) (pl hm0); replace h103 := SL.rc h103 (rk e150 ne_zm) (rk e150 ne_zm); replace h106 := SL.rc h106 (rk e150 ne_zm) (rk e150 ne_zm); replace h109 := SL.rc h109 (rk e150 ne_zm) (rk e150 ne_zm); replace h116 := AT.rc h116 (rk e150 mm); replace h146 := TB.rc h146 (rk e150 mm) (rk e150 ne_zm); replace h142 := AT.rc h142 (rk e150 mm); obtain ⟨p158, rfl, h159⟩ := r156; replace h159 : TB3 (m + 11) (m + 12) c149 w126 p158 (rd l75 t123) := h159; obtain ⟨qa157, qqa157⟩ : ∃ q, q = (ad152.add (t123.toNat * 1)) := ⟨_, rfl⟩; have h155 : AT true (m + 7) c149 w126 qa157 [.pointer p158] := by rw [qqa157]; exact h155
   replace E := E.rk B0 e150; replace B : CB (m + 35) c149 w126 := e151 _ ⟨lm, lm, trivial⟩ B; refine regD (SB No c149 w126) 10 (.q 0 (.q 1 (.q 2 (.q 3 (.q 4 (.q 5 (.q 6 (.q 7 (.q 8 (.q 9 .nil)))))))))) Tryz_hm (by decide +kernel) ?_; intro w161 w1_ w2_ w3_ w4_; have E162 : Ev No c149 w126 c149 w161 := Ev.same w1_ w2_ w3_ w4_
   as_aux_lemma =>
   replace B := B.same w1_; have zh142 := h142; have zh155 := h155; have ER : Ev No c149 w126 c149 w161 := Ev.same w1_ w2_ w3_ w4_; replace h4 := h4.ev E162; replace h74 := h74.ev E162; replace h78 := h78.ev E162; replace h103 := h103.ev E162; replace h106 := h106.ev E162; replace h109 := h109.ev E162; replace h116 := h116.ev E162; replace h146 := h146.ev E162; replace h142 := h142.ev E162; replace h159 := h159.ev E162; replace h155 := h155.ev E162; replace E := E.n E162; refine dm F ER.sb fun a F => ?_; refine dm F ER.sb fun a F => ?_; refine dq F (fun wq hS => r_indexAddr' F Tryz.underlying25 sz_23 rfl rfl g135.1 g135.2 e141 qqa144) ER.sb fun a F => ?_; refine dq F (fun wq hS => r_load F rfl ag_23 (AT.cell0 (AT.sb zh142 hS nq) rfl)) ER.sb fun a F => ?_; refine dm F ER.sb fun a F => ?_; refine dm F ER.sb fun a F => ?_
   as_aux_lemma =>
   refine dq F (fun wq hS => r_indexAddr' F Tryz.underlying28 sz_26 rfl rfl g148.1 g148.2 e154 qqa157) ER.sb fun a F => ?_; refine dq F (fun wq hS => r_load F rfl ag_26 (AT.cell0 (AT.sb zh155 hS nq) rfl)) ER.sb fun a F => ?_; refine da F ER.sb fun a F => ?_; refine da F ER.sb fun a F => ?_; refine d_nil ?_; refine hK132 _ _ ?_; replace F : Fr a 139 [(0, .slice A2 a1.length C3), (3, .slice A72 l71.length C73), (4, .slice A76 l75.length C77), (5, .int .i64 i79), (6, .pointer (some qa114)), (8, .pointer p145), (9, .pointer p158)] := F.sub ⟨rfl, rfl, rfl, rfl, rfl, rfl, rfl, trivial⟩; refine sq fun K163 hK163 => ?_; refine sr fun K164 hK164 => qf F ff_33_0 fun a F => ?_; refine ql F ag_3 h116 fun a F => ?_; refine qv F (r_eql F rfl rfl) fun a F => ?_; refine nil (hK164 _ _ ?_)
   by_cases hb165 : ((rd a1 i79).Kind) = 6
   ·replace H := ip hb165 H; refine wct (fb F (dt hb165)) ?_; refine sr fun K166 hK166 => qf F ff_33_3 fun a F => ?_; refine ql F ag_29 h116 fun a F => ?_; obtain ⟨t167, q168, H⟩ := bind_some H; refine qc F Tryz.func8 (l3_read.calls k (m := m + 35) (pl hm0) B h109 (pl hm0) (m + 13) lm (m + 14) lm (m + 15) lm _ q168) ?_; rintro e w170 ⟨c169, p173, p175, rfl, E171, B, h174, h176⟩; refine rt fun a F => ?_; replace h4 := h4.ev E171; replace h74 := h74.ev E171
    as_aux_lemma =>
    replace h78 := h78.ev E171; replace h146 := h146.ev E171; replace h142 := h142.ev E171; replace h159 := h159.ev E171; replace h155 := h155.ev E171; replace E := E.n E171; refine qm F fun a F => ?_; refine qx F fun a F => ?_; refine qx F fun a F => ?_; refine qx F fun a F => ?_; refine qa F fun a F => qa F fun a F => qa F fun a F => ?_; obtain ⟨c178, e179, e180, h74⟩ := OL.back (zs := [m + 10]) (k := t123) (ad := ad139) (x := (rd l71 t123)) h74 g135.1 g135.2 e141 (by have q_ := h142; rw [qqa144] at q_; exact q_) ⟨p145, rfl, h146⟩ rfl ⟨⟨mm, (pl hm0)⟩, trivial⟩ ⟨trivial, trivial⟩ ⟨mm, trivial⟩ ⟨ne_zm, trivial⟩; rw [set_rd g135.1] at h74; replace h4 := SL.rc h4 (rn e179 ⟨ne_zm, trivial⟩) (rn e179 ⟨ne_zm, trivial⟩); replace h78 := OL.rc h78 (rn e179 ⟨mm, trivial⟩) (rn e179 ⟨mm, trivial⟩) (rn e179 ⟨ne_zm, trivial⟩) (pl hm0); replace h159 := TB3.rc h159 (rn e179 ⟨mm, trivial⟩) (rn e179 ⟨mm, trivial⟩) (rn e179 ⟨ne_zm, trivial⟩); replace h155 := AT.rc h155 (rn e179 ⟨mm, trivial⟩); replace h174 := TB.rc h174 (rn e179 ⟨mm, trivial⟩) (rn e179 ⟨ne_zm, trivial⟩); replace h176 := TB3.rc h176 (rn e179 ⟨mm, trivial⟩) (rn e179 ⟨mm, trivial⟩) (rn e179 ⟨ne_zm, trivial⟩); replace E := E.rn B0 e179; replace B := B.rk e180 lm; obtain ⟨c182, e183, e184, h78⟩ := OL.back (zs := [m + 11, m + 12]) (k := t123) (ad := ad152) (x := (rd l75 t123)) h78 g148.1 g148.2 e154 (by have q_ := h155; rw [qqa157] at q_; exact q_) ⟨p158, rfl, h159⟩ rfl ⟨⟨mm, (pl hm0)⟩, ⟨mm, (pl hm0)⟩, trivial⟩ ⟨⟨mm, trivial⟩, trivial, trivial⟩ ⟨mm, mm, trivial⟩ ⟨ne_zm, ne_zm, trivial⟩; rw [set_rd g148.1] at h78
    as_aux_lemma =>
    replace h4 := SL.rc h4 (rn e183 ⟨ne_zm, ne_zm, trivial⟩) (rn e183 ⟨ne_zm, ne_zm, trivial⟩); replace h74 := OL.rc h74 (rn e183 ⟨mm, mm, trivial⟩) (rn e183 ⟨mm, mm, trivial⟩) (rn e183 ⟨ne_zm, ne_zm, trivial⟩) (pl hm0); replace h174 := TB.rc h174 (rn e183 ⟨mm, mm, trivial⟩) (rn e183 ⟨ne_zm, ne_zm, trivial⟩); replace h176 := TB3.rc h176 (rn e183 ⟨mm, mm, trivial⟩) (rn e183 ⟨mm, mm, trivial⟩) (rn e183 ⟨ne_zm, ne_zm, trivial⟩); replace E := E.rn B0 e183; replace B := B.rk e184 lm; refine nil (hK166 _ _ ?_); replace F : Fr a 139 [(0, .slice A2 a1.length C3), (3, .slice A72 l71.length C73), (4, .slice A76 l75.length C77), (5, .int .i64 i79), (10, .pointer p173), (11, .pointer p175), (12, .bool t167.2.2)] := F.sub ⟨rfl, rfl, rfl, rfl, rfl, rfl, rfl, trivial⟩; refine sq fun K186 hK186 => ?_; refine sr fun K187 hK187 => qm F fun a F => ?_; refine qv F (r_not F rfl) fun a F => ?_; refine nil (hK187 _ _ ?_)
    by_cases hb188 : t167.2.2 = true
    ·replace H := ip hb188 H; refine wcf (fb F (congrArg not hb188)) (wp_skip (hK186 _ _ ?_)); refine sq fun K190 hK190 => ?_; refine sr fun K191 hK191 => qm F fun a F => ?_; refine qv F (r_pneqA F Tryz.underlying26 rfl rfl (TB3.isNone h176)) fun a F => ?_; refine nil (hK191 _ _ ?_)
     by_cases hb192 : (Option.isNone t167.2.1) = true
     ·replace H := ip hb192 H; refine wcf (fb F (congrArg not hb192)) (wp_skip (hK190 _ _ ?_)); refine wp_exit ?_; refine thenE ?_
      as_aux_lemma =>
      refine inbE ?_; refine hK93 _ _ ?_; refine reg ?_; refine qm F fun a F => ?_; refine qv F (r_add F rfl rfl) fun a F => ?_; refine qa F fun a F => nil ?_; replace H := HN83 _ (si H).symm; exact hX82 _ _ _ (Nat.lt_succ_self _) ⟨l71, A72, C73, l75, A76, C77, (IntKind.i64.wrap (i79 + 1)), c182, F.sub ⟨rfl, rfl, rfl, rfl, trivial⟩, E, B, h4, h74, h78, H⟩
     replace H := im hb192 H; refine wct (fb F (congrArg not (bfalse hb192))) ?_; refine sr fun K193 hK193 => qm F fun a F => qm F fun a F => ?_; have h194 : GR KO_Tab (m + 16) c182 w170 ([] : List (List Value)) ([] : List (Option Tab)) := GR.nil (pl hm0); obtain ⟨c195, e196, e197, h194⟩ := GRL.push (zs := [m + 13]) (ds := ([.pointer p173] : List Value)) (x := t167.1) h194 ⟨p173, rfl, h174⟩ rfl ⟨⟨mm, (pl hm0)⟩, trivial⟩ ⟨trivial, trivial⟩; replace h4 := SL.rc h4 (rn e196 ⟨ne_zm, trivial⟩) (rn e196 ⟨ne_zm, trivial⟩); replace h74 := OL.rc h74 (rn e196 ⟨mm, trivial⟩) (rn e196 ⟨mm, trivial⟩) (rn e196 ⟨ne_zm, trivial⟩) (pl hm0); replace h78 := OL.rc h78 (rn e196 ⟨mm, trivial⟩) (rn e196 ⟨mm, trivial⟩) (rn e196 ⟨ne_zm, trivial⟩) (pl hm0); replace h176 := TB3.rc h176 (rn e196 ⟨mm, trivial⟩) (rn e196 ⟨mm, trivial⟩) (rn e196 ⟨ne_zm, trivial⟩); replace E := E.rn B0 e196; replace B := B.rk e197 lm; refine q_eff F rfl rfl (by decide) (e_buildSlice (n := 1) (e := 23) (c := c195) (k := Kraw KO_Tab.sz KO_Tab.pos) (i := 0) F [(0, .pointer p173)] [.pointer p173] ([([.pointer p173] : List Value)] : List (List Value)) (by exact ⟨rfl, rfl, trivial⟩) (fun w => by kernel_rfl) rfl (by decide) rfl ⟨⟨rfl, rfl, one_all rfl⟩, trivial⟩ (fun q => q) (m + 17)) ?_; rintro v w199 a ⟨c198, A200, C201, rfl, E202, h203, B204⟩ F; replace B := B204 _ B lm
     as_aux_lemma =>
     replace h74 := h74.ev E202; replace h194 := h194.ev E202; replace E := E.n E202; replace h203 : OL KO_Tab (m + 17) (m + 16) c198 w199 A200 C201 [t167.1] := OL.mk h203 h194; replace H := ifN H; obtain ⟨g205, H⟩ := H; refine q_eff F rfl rfl (by decide) (e_appendO (e := KO_Tab) (xs := l71) (ys := [t167.1]) (c := c198) (j := (m + 3)) (y0 := (m + 2)) F et_25 rfl rfl h74 h203 g205 (len_ok g205) (pl hm0) mm mm mm) ?_; rintro v w210 a ⟨c206, A211, C212, rfl, E213, B215, c207, e208, e209, h214⟩ F; replace B := B215 _ B lm; replace h4 := (h4.ev E202).ev E213; replace h78 := (h78.ev E202).ev E213; replace h176 := (h176.ev E202).ev E213; replace E := E.trans E213 lc1; replace h4 := SL.rc h4 (rk e208 ne_zm) (rk e208 ne_zm); replace h78 := OL.rc h78 (rk e208 mm) (rk e208 mm) (rk e208 ne_zm) (pl hm0); replace h176 := TB3.rc h176 (rk e208 mm) (rk e208 mm) (rk e208 ne_zm); replace E := E.rk B0 e208; replace B := B.rk e209 lm; refine qa F fun a F => nil (hK193 _ _ ?_); refine reg ?_; refine qm F fun a F => qm F fun a F => ?_; have h216 : GR KO_Tb3 (m + 18) c207 w210 ([] : List (List Value)) ([] : List (Option Tb3)) := GR.nil (pl hm0); obtain ⟨c217, e218, e219, h216⟩ := GRL.push (zs := [m + 14, m + 15]) (ds := ([.pointer p175] : List Value)) (x := t167.2.1) h216 ⟨p175, rfl, h176⟩ rfl ⟨⟨mm, (pl hm0)⟩, ⟨mm, (pl hm0)⟩, trivial⟩ ⟨⟨mm, trivial⟩, trivial, trivial⟩
     as_aux_lemma =>
     replace h4 := SL.rc h4 (rn e218 ⟨ne_zm, ne_zm, trivial⟩) (rn e218 ⟨ne_zm, ne_zm, trivial⟩); replace h78 := OL.rc h78 (rn e218 ⟨mm, mm, trivial⟩) (rn e218 ⟨mm, mm, trivial⟩) (rn e218 ⟨ne_zm, ne_zm, trivial⟩) (pl hm0); replace h214 := OL.rc h214 (rn e218 ⟨mm, mm, trivial⟩) (rn e218 ⟨mm, mm, trivial⟩) (rn e218 ⟨ne_zm, ne_zm, trivial⟩) (pl hm0); replace E := E.rn B0 e218; replace B := B.rk e219 lm; refine q_eff F rfl rfl (by decide) (e_buildSlice (n := 1) (e := 26) (c := c217) (k := Kraw KO_Tb3.sz KO_Tb3.pos) (i := 0) F [(0, .pointer p175)] [.pointer p175] ([([.pointer p175] : List Value)] : List (List Value)) (by exact ⟨rfl, rfl, trivial⟩) (fun w => by kernel_rfl) rfl (by decide) rfl ⟨⟨rfl, rfl, one_all rfl⟩, trivial⟩ (fun q => q) (m + 19)) ?_; rintro v w221 a ⟨c220, A222, C223, rfl, E224, h225, B226⟩ F; replace B := B226 _ B lm; replace h78 := h78.ev E224; replace h216 := h216.ev E224; replace E := E.n E224; replace h225 : OL KO_Tb3 (m + 19) (m + 18) c220 w221 A222 C223 [t167.2.1] := OL.mk h225 h216; replace H := ifN H; obtain ⟨g227, H⟩ := H; refine q_eff F rfl rfl (by decide) (e_appendO (e := KO_Tb3) (xs := l75) (ys := [t167.2.1]) (c := c220) (j := (m + 7)) (y0 := (m + 6)) F et_28 rfl rfl h78 h225 g227 (len_ok g227) (pl hm0) mm mm mm) ?_; rintro v w232 a ⟨c228, A233, C234, rfl, E235, B237, c229, e230, e231, h236⟩ F; replace B := B237 _ B lm; replace h4 := (h4.ev E224).ev E235; replace h214 := (h214.ev E224).ev E235; replace E := E.trans E235 lc1; replace h4 := SL.rc h4 (rk e230 ne_zm) (rk e230 ne_zm); replace h214 := OL.rc h214 (rk e230 mm) (rk e230 mm) (rk e230 ne_zm) (pl hm0)
     as_aux_lemma =>
     replace E := E.rk B0 e230; replace B := B.rk e231 lm; refine qa F fun a F => nil (hK190 _ _ ?_); refine wp_exit ?_; refine thenE ?_; refine inbE ?_; refine hK93 _ _ ?_; refine reg ?_; refine qm F fun a F => ?_; refine qv F (r_add F rfl rfl) fun a F => ?_; refine qa F fun a F => nil ?_; replace H := HN83 _ (si H).symm; exact hX82 _ _ _ (Nat.lt_succ_self _) ⟨(l71 ++ [t167.1]), A211, C212, (l75 ++ [t167.2.1]), A233, C234, (IntKind.i64.wrap (i79 + 1)), c229, F.sub ⟨rfl, rfl, rfl, rfl, trivial⟩, E, B, h4, h214, h236, H⟩
    replace H := im hb188 H; refine wct (fb F (congrArg not (bfalse hb188))) ?_; refine sr fun K189 hK189 => qa F fun a F => nil (hK189 _ _ ?_); replace F : Fr a 139 [(2, .bool false)] := F.sub ⟨rfl, trivial⟩; refine wp_ret ?_; refine thenR ?_; refine thenR ?_; refine inbR ?_; refine thenR ?_
    as_aux_lemma =>
    refine thenR ?_; refine inbR ?_; refine thenR ?_; have hx_ := HD84 _ (si H).symm; have H := HR88; rw [← hx_] at H; replace H : some false = some r := H; obtain rfl := si H; refine out1 F rfl rfl ?_; exact ⟨cf (ct m) c182, rfl, E.lv B0, cfb⟩
   replace H := im hb165 H; refine wcf (fb F (dz hb165)) (wp_skip (hK163 _ _ ?_)); refine sq fun K238 hK238 => ?_; refine sr fun K239 hK239 => qf F ff_33_0 fun a F => ?_; refine ql F ag_3 h116 fun a F => ?_; refine qv F (r_eql F rfl rfl) fun a F => ?_; refine nil (hK239 _ _ ?_)
   by_cases hb240 : ((rd a1 i79).Kind) = 5
   ·replace H := ip hb240 H; refine wct (fb F (dt hb240)) ?_; refine sr fun K241 hK241 => qm F fun a F => ?_; obtain ⟨t242, q243, H⟩ := bind_some H; refine qc F Tryz.func9 (T_Copy.calls (m := m + 35) (pl hm0) B h146 lm (m + 20) lm _ q243) ?_; rintro e w245 ⟨c244, p248, rfl, E246, B, h249⟩
    as_aux_lemma =>
    refine rt fun a F => ?_; replace h159 := h159.ev E246; replace E := E.n E246; refine qm F fun a F => ?_; obtain ⟨t251, q252, H⟩ := bind_some H; refine qc F Tryz.func10 (D_Copy.calls k (m := m + 35) (pl hm0) B h159 lm ⟨lm, mm⟩ (m + 21) lm (m + 22) lm _ q252) ?_; rintro e w254 ⟨c253, p257, rfl, E255, B, h258⟩; refine rt fun a F => ?_; replace h4 := (h4.ev E246).ev E255; replace h74 := (h74.ev E246).ev E255; replace h78 := (h78.ev E246).ev E255; replace h146 := (h146.ev E246).ev E255; replace h142 := (h142.ev E246).ev E255; replace h159 := h159.ev E255; replace h155 := (h155.ev E246).ev E255; replace h249 := h249.ev E255; replace E := E.n E255; refine qa F fun a F => qa F fun a F => ?_; obtain ⟨c260, e261, e262, h74⟩ := OL.back (zs := [m + 10]) (k := t123) (ad := ad139) (x := (rd l71 t123)) h74 g135.1 g135.2 e141 (by have q_ := h142; rw [qqa144] at q_; exact q_) ⟨p145, rfl, h146⟩ rfl ⟨⟨mm, (pl hm0)⟩, trivial⟩ ⟨trivial, trivial⟩ ⟨mm, trivial⟩ ⟨ne_zm, trivial⟩; rw [set_rd g135.1] at h74; replace h4 := SL.rc h4 (rn e261 ⟨ne_zm, trivial⟩) (rn e261 ⟨ne_zm, trivial⟩); replace h78 := OL.rc h78 (rn e261 ⟨mm, trivial⟩) (rn e261 ⟨mm, trivial⟩) (rn e261 ⟨ne_zm, trivial⟩) (pl hm0)
    as_aux_lemma =>
    replace h159 := TB3.rc h159 (rn e261 ⟨mm, trivial⟩) (rn e261 ⟨mm, trivial⟩) (rn e261 ⟨ne_zm, trivial⟩); replace h155 := AT.rc h155 (rn e261 ⟨mm, trivial⟩); replace h249 := TB.rc h249 (rn e261 ⟨mm, trivial⟩) (rn e261 ⟨ne_zm, trivial⟩); replace h258 := TB3.rc h258 (rn e261 ⟨mm, trivial⟩) (rn e261 ⟨mm, trivial⟩) (rn e261 ⟨ne_zm, trivial⟩); replace E := E.rn B0 e261; replace B := B.rk e262 lm; obtain ⟨c264, e265, e266, h78⟩ := OL.back (zs := [m + 11, m + 12]) (k := t123) (ad := ad152) (x := (rd l75 t123)) h78 g148.1 g148.2 e154 (by have q_ := h155; rw [qqa157] at q_; exact q_) ⟨p158, rfl, h159⟩ rfl ⟨⟨mm, (pl hm0)⟩, ⟨mm, (pl hm0)⟩, trivial⟩ ⟨⟨mm, trivial⟩, trivial, trivial⟩ ⟨mm, mm, trivial⟩ ⟨ne_zm, ne_zm, trivial⟩; rw [set_rd g148.1] at h78; replace h4 := SL.rc h4 (rn e265 ⟨ne_zm, ne_zm, trivial⟩) (rn e265 ⟨ne_zm, ne_zm, trivial⟩); replace h74 := OL.rc h74 (rn e265 ⟨mm, mm, trivial⟩) (rn e265 ⟨mm, mm, trivial⟩) (rn e265 ⟨ne_zm, ne_zm, trivial⟩) (pl hm0); replace h249 := TB.rc h249 (rn e265 ⟨mm, mm, trivial⟩) (rn e265 ⟨ne_zm, ne_zm, trivial⟩); replace h258 := TB3.rc h258 (rn e265 ⟨mm, mm, trivial⟩) (rn e265 ⟨mm, mm, trivial⟩) (rn e265 ⟨ne_zm, ne_zm, trivial⟩); replace E := E.rn B0 e265; replace B := B.rk e266 lm; refine nil (hK241 _ _ ?_); replace F : Fr a 139 [(0, .slice A2 a1.length C3), (3, .slice A72 l71.length C73), (4, .slice A76 l75.length C77), (5, .int .i64 i79), (13, .pointer p248), (14, .pointer p257)] := F.sub ⟨rfl, rfl, rfl, rfl, rfl, rfl, trivial⟩; refine sq fun K268 hK268 => ?_; refine sr fun K269 hK269 => qm F fun a F => ?_; refine qv F (r_pneqA F Tryz.underlying23 rfl rfl (TB.isNone h249)) fun a F => ?_; refine qm F fun a F => ?_; refine qv F (r_pneqA F Tryz.underlying26 rfl rfl (TB3.isNone h258)) fun a F => ?_; refine qv F (r_bneq F Tryz.underlying4 rfl rfl) fun a F => ?_
    as_aux_lemma =>
    refine nil (hK269 _ _ ?_)
    by_cases hb270 : ((!Option.isNone t242) == (!Option.isNone t251)) = true
    ·replace H := ip hb270 H; refine wcf (fb F (congrArg not hb270)) (wp_skip (hK268 _ _ ?_)); refine sq fun K272 hK272 => ?_; refine sr fun K273 hK273 => qm F fun a F => ?_; refine qv F (r_pneqA F Tryz.underlying26 rfl rfl (TB3.isNone h258)) fun a F => ?_; refine nil (hK273 _ _ ?_)
     by_cases hb274 : (Option.isNone t251) = true
     ·replace H := ip hb274 H; refine wcf (fb F (congrArg not hb274)) (wp_skip (hK272 _ _ ?_)); replace F : Fr a 139 [(0, .slice A2 a1.length C3), (3, .slice A72 l71.length C73), (4, .slice A76 l75.length C77), (5, .int .i64 i79)] := F.sub ⟨rfl, rfl, rfl, rfl, trivial⟩; refine wp_exit ?_; refine thenE ?_; refine inbE ?_; refine hK93 _ _ ?_; refine reg ?_; refine qm F fun a F => ?_; refine qv F (r_add F rfl rfl) fun a F => ?_; refine qa F fun a F => nil ?_; replace H := HN83 _ (si H).symm; exact hX82 _ _ _ (Nat.lt_succ_self _) ⟨l71, A72, C73, l75, A76, C77, (IntKind.i64.wrap (i79 + 1)), c264, F.sub ⟨rfl, rfl, rfl, rfl, trivial⟩, E, B, h4, h74, h78, H⟩
     replace H := im hb274 H; refine wct (fb F (congrArg not (bfalse hb274))) ?_
     as_aux_lemma =>
     refine sr fun K275 hK275 => qm F fun a F => qm F fun a F => ?_; have h276 : GR KO_Tab (m + 23) c264 w254 ([] : List (List Value)) ([] : List (Option Tab)) := GR.nil (pl hm0); obtain ⟨c277, e278, e279, h276⟩ := GRL.push (zs := [m + 20]) (ds := ([.pointer p248] : List Value)) (x := t242) h276 ⟨p248, rfl, h249⟩ rfl ⟨⟨mm, (pl hm0)⟩, trivial⟩ ⟨trivial, trivial⟩; replace h4 := SL.rc h4 (rn e278 ⟨ne_zm, trivial⟩) (rn e278 ⟨ne_zm, trivial⟩); replace h74 := OL.rc h74 (rn e278 ⟨mm, trivial⟩) (rn e278 ⟨mm, trivial⟩) (rn e278 ⟨ne_zm, trivial⟩) (pl hm0); replace h78 := OL.rc h78 (rn e278 ⟨mm, trivial⟩) (rn e278 ⟨mm, trivial⟩) (rn e278 ⟨ne_zm, trivial⟩) (pl hm0); replace h258 := TB3.rc h258 (rn e278 ⟨mm, trivial⟩) (rn e278 ⟨mm, trivial⟩) (rn e278 ⟨ne_zm, trivial⟩); replace E := E.rn B0 e278; replace B := B.rk e279 lm; refine q_eff F rfl rfl (by decide) (e_buildSlice (n := 1) (e := 23) (c := c277) (k := Kraw KO_Tab.sz KO_Tab.pos) (i := 0) F [(0, .pointer p248)] [.pointer p248] ([([.pointer p248] : List Value)] : List (List Value)) (by exact ⟨rfl, rfl, trivial⟩) (fun w => by kernel_rfl) rfl (by decide) rfl ⟨⟨rfl, rfl, one_all rfl⟩, trivial⟩ (fun q => q) (m + 24)) ?_; rintro v w281 a ⟨c280, A282, C283, rfl, E284, h285, B286⟩ F; replace B := B286 _ B lm; replace h74 := h74.ev E284; replace h276 := h276.ev E284; replace E := E.n E284; replace h285 : OL KO_Tab (m + 24) (m + 23) c280 w281 A282 C283 [t242] := OL.mk h285 h276; replace H := ifN H; obtain ⟨g287, H⟩ := H; refine q_eff F rfl rfl (by decide) (e_appendO (e := KO_Tab) (xs := l71) (ys := [t242]) (c := c280) (j := (m + 3)) (y0 := (m + 2)) F et_25 rfl rfl h74 h285 g287 (len_ok g287) (pl hm0) mm mm mm) ?_; rintro v w292 a ⟨c288, A293, C294, rfl, E295, B297, c289, e290, e291, h296⟩ F; replace B := B297 _ B lm; replace h4 := (h4.ev E284).ev E295
     as_aux_lemma =>
     replace h78 := (h78.ev E284).ev E295; replace h258 := (h258.ev E284).ev E295; replace E := E.trans E295 lc1; replace h4 := SL.rc h4 (rk e290 ne_zm) (rk e290 ne_zm); replace h78 := OL.rc h78 (rk e290 mm) (rk e290 mm) (rk e290 ne_zm) (pl hm0); replace h258 := TB3.rc h258 (rk e290 mm) (rk e290 mm) (rk e290 ne_zm); replace E := E.rk B0 e290; replace B := B.rk e291 lm; refine qa F fun a F => nil (hK275 _ _ ?_); refine reg ?_; refine qm F fun a F => qm F fun a F => ?_; have h298 : GR KO_Tb3 (m + 25) c289 w292 ([] : List (List Value)) ([] : List (Option Tb3)) := GR.nil (pl hm0); obtain ⟨c299, e300, e301, h298⟩ := GRL.push (zs := [m + 21, m + 22]) (ds := ([.pointer p257] : List Value)) (x := t251) h298 ⟨p257, rfl, h258⟩ rfl ⟨⟨mm, (pl hm0)⟩, ⟨mm, (pl hm0)⟩, trivial⟩ ⟨⟨mm, trivial⟩, trivial, trivial⟩; replace h4 := SL.rc h4 (rn e300 ⟨ne_zm, ne_zm, trivial⟩) (rn e300 ⟨ne_zm, ne_zm, trivial⟩); replace h78 := OL.rc h78 (rn e300 ⟨mm, mm, trivial⟩) (rn e300 ⟨mm, mm, trivial⟩) (rn e300 ⟨ne_zm, ne_zm, trivial⟩) (pl hm0); replace h296 := OL.rc h296 (rn e300 ⟨mm, mm, trivial⟩) (rn e300 ⟨mm, mm, trivial⟩) (rn e300 ⟨ne_zm, ne_zm, trivial⟩) (pl hm0); replace E := E.rn B0 e300; replace B := B.rk e301 lm; refine q_eff F rfl rfl (by decide) (e_buildSlice (n := 1) (e := 26) (c := c299) (k := Kraw KO_Tb3.sz KO_Tb3.pos) (i := 0) F [(0, .pointer p257)] [.pointer p257] ([([.pointer p257] : List Value)] : List (List Value)) (by exact ⟨rfl, rfl, trivial⟩) (fun w => by kernel_rfl) rfl (by decide) rfl ⟨⟨rfl, rfl, one_all rfl⟩, trivial⟩ (fun q => q) (m + 26)) ?_; rintro v w303 a ⟨c302, A304, C305, rfl, E306, h307, B308⟩ F; replace B := B308 _ B lm; replace h78 := h78.ev E306
     as_aux_lemma =>
     replace h298 := h298.ev E306; replace E := E.n E306; replace h307 : OL KO_Tb3 (m + 26) (m + 25) c302 w303 A304 C305 [t251] := OL.mk h307 h298; replace H := ifN H; obtain ⟨g309, H⟩ := H; refine q_eff F rfl rfl (by decide) (e_appendO (e := KO_Tb3) (xs := l75) (ys := [t251]) (c := c302) (j := (m + 7)) (y0 := (m + 6)) F et_28 rfl rfl h78 h307 g309 (len_ok g309) (pl hm0) mm mm mm) ?_; rintro v w314 a ⟨c310, A315, C316, rfl, E317, B319, c311, e312, e313, h318⟩ F; replace B := B319 _ B lm; replace h4 := (h4.ev E306).ev E317; replace h296 := (h296.ev E306).ev E317; replace E := E.trans E317 lc1; replace h4 := SL.rc h4 (rk e312 ne_zm) (rk e312 ne_zm); replace h296 := OL.rc h296 (rk e312 mm) (rk e312 mm) (rk e312 ne_zm) (pl hm0); replace E := E.rk B0 e312; replace B := B.rk e313 lm; refine qa F fun a F => nil (hK272 _ _ ?_); refine wp_exit ?_; refine thenE ?_; refine inbE ?_; refine hK93 _ _ ?_; refine reg ?_; refine qm F fun a F => ?_
     as_aux_lemma =>
     refine qv F (r_add F rfl rfl) fun a F => ?_; refine qa F fun a F => nil ?_; replace H := HN83 _ (si H).symm; exact hX82 _ _ _ (Nat.lt_succ_self _) ⟨(l71 ++ [t242]), A293, C294, (l75 ++ [t251]), A315, C316, (IntKind.i64.wrap (i79 + 1)), c311, F.sub ⟨rfl, rfl, rfl, rfl, trivial⟩, E, B, h4, h296, h318, H⟩
    replace H := im hb270 H; refine wct (fb F (congrArg not (bfalse hb270))) ?_; refine sr fun K271 hK271 => qa F fun a F => nil (hK271 _ _ ?_); replace F : Fr a 139 [(2, .bool false)] := F.sub ⟨rfl, trivial⟩; refine wp_ret ?_; refine thenR ?_; refine thenR ?_; refine inbR ?_; refine thenR ?_; refine thenR ?_; refine inbR ?_; refine thenR ?_; have hx_ := HD84 _ (si H).symm; have H := HR88; rw [← hx_] at H; replace H : some false = some r := H; obtain rfl := si H; refine out1 F rfl rfl ?_; exact ⟨cf (ct m) c264, rfl, E.lv B0, cfb⟩
   as_aux_lemma =>
   replace H := im hb240 H; refine wcf (fb F (dz hb240)) (wp_skip (hK238 _ _ ?_)); refine sr fun K320 hK320 => qm F fun a F => qm F fun a F => ?_; refine qv F (r_loads (cs := [.int .i64 ((rd a1 i79).Kind), .int .i64 ((rd a1 i79).Which), .int .i64 (((rd a1 i79).Op).Kind), .slice A101 (((rd a1 i79).Op).Key).length C102, .slice A104 (((rd a1 i79).Op).Value).length C105, .int .i64 (((rd a1 i79).Op).Rev), .slice A107 ((rd a1 i79).P).length C108]) F rfl ag_33 sz_33 h116) fun a F => ?_; obtain ⟨t321, q322, H⟩ := bind_some H; refine qc F Tryz.func11 (l3_does.calls k (m := m + 35) (a10 := l3_Step.mk ((rd a1 i79).Kind) ((rd a1 i79).Which) ((rd a1 i79).Op) ((rd a1 i79).P)) (pl hm0) B h146 h159 h103 h106 h109 ⟨(pl hm0), lm⟩ ⟨(pl hm0), lm, mm⟩ ⟨(pl hm0), lm, mm, mm⟩ ⟨(pl hm0), ne_zm, ne_zm, ne_zm⟩ ⟨(pl hm0), ne_zm, ne_zm, ne_zm⟩ ⟨(pl hm0), ne_zm, ne_zm, ne_zm⟩ _ q322) ?_; rintro e w324 ⟨c323, rfl, E325, B, h327, h328⟩; refine rt fun a F => ?_; replace h4 := h4.ev E325 (nor ne_zm (nor ne_zm ne_zm)) (nor ne_zm (nor ne_zm ne_zm)); replace h74 := h74.ev E325 (nor mm (nor mm mm)) (nor mm (nor mm mm)) (nor ne_zm (nor ne_zm ne_zm)); replace h78 := h78.ev E325 (nor mm (nor mm mm)) (nor mm (nor mm mm)) (nor ne_zm (nor ne_zm ne_zm)); replace h142 := h142.ev E325 (nor mm (nor mm mm)); replace h155 := h155.ev E325 (nor mm (nor mm mm)); replace E := E.trans E325 (fun x (q : x = m + 10 ∨ x = m + 11 ∨ x = m + 12) => q.elim (fun q => Or.inr (le_col q)) (fun q => q.elim (fun q => Or.inr (le_col q)) (fun q => Or.inr (le_col q)))); refine qa F fun a F => ?_; obtain ⟨c330, e331, e332, h74⟩ := OL.back (zs := [m + 10]) (k := t123) (ad := ad139) (x := t321.2.1) h74 g135.1 g135.2 e141 (by have q_ := h142; rw [qqa144] at q_; exact q_) ⟨p145, rfl, h327⟩ rfl ⟨⟨mm, (pl hm0)⟩, trivial⟩ ⟨trivial, trivial⟩ ⟨mm, trivial⟩ ⟨ne_zm, trivial⟩; replace h4 := SL.rc h4 (rn e331 ⟨ne_zm, trivial⟩) (rn e331 ⟨ne_zm, trivial⟩); replace h78 := OL.rc h78 (rn e331 ⟨mm, trivial⟩) (rn e331 ⟨mm, trivial⟩) (rn e331 ⟨ne_zm, trivial⟩) (pl hm0); replace h155 := AT.rc h155 (rn e331 ⟨mm, trivial⟩); replace h328 := TB3.rc h328 (rn e331 ⟨mm, trivial⟩) (rn e331 ⟨mm, trivial⟩) (rn e331 ⟨ne_zm, trivial⟩); replace E := E.rn B0 e331; replace B := B.rk e332 lm; have hl333 : l71.length = (l71.set t123.toNat t321.2.1).length := by simp
   replace F := F.sub (L' := [(0, .slice A2 a1.length C3), (3, .slice A72 (l71.set t123.toNat t321.2.1).length C73), (4, .slice A76 l75.length C77), (5, .int .i64 i79), (15, .bool t321.1), (104, .bool t321.1)]) ⟨rfl, (by rw [← hl333]; rfl), rfl, rfl, rfl, rfl, trivial⟩; obtain ⟨c334, e335, e336, h78⟩ := OL.back (zs := [m + 11, m + 12]) (k := t123) (ad := ad152) (x := t321.2.2) h78 g148.1 g148.2 e154 (by have q_ := h155; rw [qqa157] at q_; exact q_) ⟨p158, rfl, h328⟩ rfl ⟨⟨mm, (pl hm0)⟩, ⟨mm, (pl hm0)⟩, trivial⟩ ⟨⟨mm, trivial⟩, trivial, trivial⟩ ⟨mm, mm, trivial⟩ ⟨ne_zm, ne_zm, trivial⟩
   as_aux_lemma =>
   replace h4 := SL.rc h4 (rn e335 ⟨ne_zm, ne_zm, trivial⟩) (rn e335 ⟨ne_zm, ne_zm, trivial⟩); replace h74 := OL.rc h74 (rn e335 ⟨mm, mm, trivial⟩) (rn e335 ⟨mm, mm, trivial⟩) (rn e335 ⟨ne_zm, ne_zm, trivial⟩) (pl hm0); replace E := E.rn B0 e335; replace B := B.rk e336 lm; have hl337 : l75.length = (l75.set t123.toNat t321.2.2).length := by simp
   replace F := F.sub (L' := [(0, .slice A2 a1.length C3), (3, .slice A72 (l71.set t123.toNat t321.2.1).length C73), (4, .slice A76 (l75.set t123.toNat t321.2.2).length C77), (5, .int .i64 i79), (15, .bool t321.1), (104, .bool t321.1)]) ⟨rfl, rfl, (by rw [← hl337]; rfl), rfl, rfl, rfl, trivial⟩; refine nil (hK320 _ _ ?_); refine sr fun K338 hK338 => qm F fun a F => ?_; refine qv F (r_not F rfl) fun a F => ?_; refine nil (hK338 _ _ ?_)
   by_cases hb339 : t321.1 = true
   ·replace H := ip hb339 H; refine wcf (fb F (congrArg not hb339)) (wp_skip (hK93 _ _ ?_)); refine reg ?_; refine qm F fun a F => ?_; refine qv F (r_add F rfl rfl) fun a F => ?_; refine qa F fun a F => nil ?_; replace H := HN83 _ (si H).symm; exact hX82 _ _ _ (Nat.lt_succ_self _) ⟨(l71.set t123.toNat t321.2.1), A72, C73, (l75.set t123.toNat t321.2.2), A76, C77, (IntKind.i64.wrap (i79 + 1)), c334, F.sub ⟨rfl, rfl, rfl, rfl, trivial⟩, E, B, h4, h74, h78, H⟩
   replace H := im hb339 H; refine wct (fb F (congrArg not (bfalse hb339))) ?_; refine sr fun K340 hK340 => qa F fun a F => nil (hK340 _ _ ?_); replace F : Fr a 139 [(2, .bool false)] := F.sub ⟨rfl, trivial⟩
   as_aux_lemma =>
   refine wp_ret ?_; refine inbR ?_; refine thenR ?_; refine thenR ?_; refine inbR ?_; refine thenR ?_; have hx_ := HD84 _ (si H).symm; have H := HR88; rw [← hx_] at H; replace H : some false = some r := H; obtain rfl := si H; refine out1 F rfl rfl ?_; exact ⟨cf (ct m) c334, rfl, E.lv B0, cfb⟩
  replace H := im hb134 H; refine wcf (fb F (dz hb134)) (wp_skip (hK132 _ _ ?_)); refine sq fun K341 hK341 => ?_; refine sr fun K342 hK342 => qf F ff_33_0 fun a F => ?_; refine ql F ag_3 h116 fun a F => ?_; refine qv F (r_eql F rfl rfl) fun a F => ?_; refine nil (hK342 _ _ ?_)
  by_cases hb343 : ((rd a1 i79).Kind) = 6
  ·replace H := ip hb343 H; refine wct (fb F (dt hb343)) ?_
   as_aux_lemma =>
   refine sr fun K344 hK344 => qf F ff_33_3 fun a F => ?_; refine ql F ag_29 h116 fun a F => ?_; obtain ⟨t167, q168, H⟩ := bind_some H; refine qc F Tryz.func8 (l3_read.calls k (m := m + 35) (pl hm0) B h109 (pl hm0) (m + 13) lm (m + 14) lm (m + 15) lm _ q168) ?_; rintro e w346 ⟨c345, p349, p351, rfl, E347, B, h350, h352⟩; refine rt fun a F => ?_; replace h4 := h4.ev E347; replace h74 := h74.ev E347; replace h78 := h78.ev E347; replace E := E.n E347; refine qm F fun a F => ?_; refine qx F fun a F => ?_; refine qx F fun a F => ?_; refine qx F fun a F => ?_; refine qa F fun a F => qa F fun a F => qa F fun a F => nil (hK344 _ _ ?_); replace F : Fr a 139 [(0, .slice A2 a1.length C3), (3, .slice A72 l71.length C73), (4, .slice A76 l75.length C77), (5, .int .i64 i79), (10, .pointer p349), (11, .pointer p351), (12, .bool t167.2.2)] := F.sub ⟨rfl, rfl, rfl, rfl, rfl, rfl, rfl, trivial⟩; refine sq fun K354 hK354 => ?_; refine sr fun K355 hK355 => qm F fun a F => ?_; refine qv F (r_not F rfl) fun a F => ?_; refine nil (hK355 _ _ ?_)
   by_cases hb356 : t167.2.2 = true
   ·replace H := ip hb356 H; refine wcf (fb F (congrArg not hb356)) (wp_skip (hK354 _ _ ?_))
    as_aux_lemma =>
    refine sq fun K358 hK358 => ?_; refine sr fun K359 hK359 => qm F fun a F => ?_; refine qv F (r_pneqA F Tryz.underlying26 rfl rfl (TB3.isNone h352)) fun a F => ?_; refine nil (hK359 _ _ ?_)
    by_cases hb360 : (Option.isNone t167.2.1) = true
    ·replace H := ip hb360 H; refine wcf (fb F (congrArg not hb360)) (wp_skip (hK358 _ _ ?_)); refine wp_exit ?_; refine thenE ?_; refine inbE ?_; refine hK93 _ _ ?_; refine reg ?_; refine qm F fun a F => ?_; refine qv F (r_add F rfl rfl) fun a F => ?_; refine qa F fun a F => nil ?_; replace H := HN83 _ (si H).symm; exact hX82 _ _ _ (Nat.lt_succ_self _) ⟨l71, A72, C73, l75, A76, C77, (IntKind.i64.wrap (i79 + 1)), c345, F.sub ⟨rfl, rfl, rfl, rfl, trivial⟩, E, B, h4, h74, h78, H⟩
    replace H := im hb360 H; refine wct (fb F (congrArg not (bfalse hb360))) ?_; refine sr fun K361 hK361 => qm F fun a F => qm F fun a F => ?_; have h362 : GR KO_Tab (m + 16) c345 w346 ([] : List (List Value)) ([] : List (Option Tab)) := GR.nil (pl hm0); obtain ⟨c363, e364, e365, h362⟩ := GRL.push (zs := [m + 13]) (ds := ([.pointer p349] : List Value)) (x := t167.1) h362 ⟨p349, rfl, h350⟩ rfl ⟨⟨mm, (pl hm0)⟩, trivial⟩ ⟨trivial, trivial⟩; replace h4 := SL.rc h4 (rn e364 ⟨ne_zm, trivial⟩) (rn e364 ⟨ne_zm, trivial⟩)
    as_aux_lemma =>
    replace h74 := OL.rc h74 (rn e364 ⟨mm, trivial⟩) (rn e364 ⟨mm, trivial⟩) (rn e364 ⟨ne_zm, trivial⟩) (pl hm0); replace h78 := OL.rc h78 (rn e364 ⟨mm, trivial⟩) (rn e364 ⟨mm, trivial⟩) (rn e364 ⟨ne_zm, trivial⟩) (pl hm0); replace h352 := TB3.rc h352 (rn e364 ⟨mm, trivial⟩) (rn e364 ⟨mm, trivial⟩) (rn e364 ⟨ne_zm, trivial⟩); replace E := E.rn B0 e364; replace B := B.rk e365 lm; refine q_eff F rfl rfl (by decide) (e_buildSlice (n := 1) (e := 23) (c := c363) (k := Kraw KO_Tab.sz KO_Tab.pos) (i := 0) F [(0, .pointer p349)] [.pointer p349] ([([.pointer p349] : List Value)] : List (List Value)) (by exact ⟨rfl, rfl, trivial⟩) (fun w => by kernel_rfl) rfl (by decide) rfl ⟨⟨rfl, rfl, one_all rfl⟩, trivial⟩ (fun q => q) (m + 17)) ?_; rintro v w367 a ⟨c366, A368, C369, rfl, E370, h371, B372⟩ F; replace B := B372 _ B lm; replace h74 := h74.ev E370; replace h362 := h362.ev E370; replace E := E.n E370; replace h371 : OL KO_Tab (m + 17) (m + 16) c366 w367 A368 C369 [t167.1] := OL.mk h371 h362; replace H := ifN H; obtain ⟨g205, H⟩ := H; refine q_eff F rfl rfl (by decide) (e_appendO (e := KO_Tab) (xs := l71) (ys := [t167.1]) (c := c366) (j := (m + 3)) (y0 := (m + 2)) F et_25 rfl rfl h74 h371 g205 (len_ok g205) (pl hm0) mm mm mm) ?_; rintro v w377 a ⟨c373, A378, C379, rfl, E380, B382, c374, e375, e376, h381⟩ F; replace B := B382 _ B lm; replace h4 := (h4.ev E370).ev E380; replace h78 := (h78.ev E370).ev E380; replace h352 := (h352.ev E370).ev E380; replace E := E.trans E380 lc1; replace h4 := SL.rc h4 (rk e375 ne_zm) (rk e375 ne_zm)
    as_aux_lemma =>
    replace h78 := OL.rc h78 (rk e375 mm) (rk e375 mm) (rk e375 ne_zm) (pl hm0); replace h352 := TB3.rc h352 (rk e375 mm) (rk e375 mm) (rk e375 ne_zm); replace E := E.rk B0 e375; replace B := B.rk e376 lm; refine qa F fun a F => nil (hK361 _ _ ?_); refine reg ?_; refine qm F fun a F => qm F fun a F => ?_; have h383 : GR KO_Tb3 (m + 18) c374 w377 ([] : List (List Value)) ([] : List (Option Tb3)) := GR.nil (pl hm0); obtain ⟨c384, e385, e386, h383⟩ := GRL.push (zs := [m + 14, m + 15]) (ds := ([.pointer p351] : List Value)) (x := t167.2.1) h383 ⟨p351, rfl, h352⟩ rfl ⟨⟨mm, (pl hm0)⟩, ⟨mm, (pl hm0)⟩, trivial⟩ ⟨⟨mm, trivial⟩, trivial, trivial⟩; replace h4 := SL.rc h4 (rn e385 ⟨ne_zm, ne_zm, trivial⟩) (rn e385 ⟨ne_zm, ne_zm, trivial⟩); replace h78 := OL.rc h78 (rn e385 ⟨mm, mm, trivial⟩) (rn e385 ⟨mm, mm, trivial⟩) (rn e385 ⟨ne_zm, ne_zm, trivial⟩) (pl hm0); replace h381 := OL.rc h381 (rn e385 ⟨mm, mm, trivial⟩) (rn e385 ⟨mm, mm, trivial⟩) (rn e385 ⟨ne_zm, ne_zm, trivial⟩) (pl hm0); replace E := E.rn B0 e385; replace B := B.rk e386 lm; refine q_eff F rfl rfl (by decide) (e_buildSlice (n := 1) (e := 26) (c := c384) (k := Kraw KO_Tb3.sz KO_Tb3.pos) (i := 0) F [(0, .pointer p351)] [.pointer p351] ([([.pointer p351] : List Value)] : List (List Value)) (by exact ⟨rfl, rfl, trivial⟩) (fun w => by kernel_rfl) rfl (by decide) rfl ⟨⟨rfl, rfl, one_all rfl⟩, trivial⟩ (fun q => q) (m + 19)) ?_; rintro v w388 a ⟨c387, A389, C390, rfl, E391, h392, B393⟩ F; replace B := B393 _ B lm; replace h78 := h78.ev E391; replace h383 := h383.ev E391; replace E := E.n E391; replace h392 : OL KO_Tb3 (m + 19) (m + 18) c387 w388 A389 C390 [t167.2.1] := OL.mk h392 h383; replace H := ifN H; obtain ⟨g227, H⟩ := H
    as_aux_lemma =>
    refine q_eff F rfl rfl (by decide) (e_appendO (e := KO_Tb3) (xs := l75) (ys := [t167.2.1]) (c := c387) (j := (m + 7)) (y0 := (m + 6)) F et_28 rfl rfl h78 h392 g227 (len_ok g227) (pl hm0) mm mm mm) ?_; rintro v w398 a ⟨c394, A399, C400, rfl, E401, B403, c395, e396, e397, h402⟩ F; replace B := B403 _ B lm; replace h4 := (h4.ev E391).ev E401; replace h381 := (h381.ev E391).ev E401; replace E := E.trans E401 lc1; replace h4 := SL.rc h4 (rk e396 ne_zm) (rk e396 ne_zm); replace h381 := OL.rc h381 (rk e396 mm) (rk e396 mm) (rk e396 ne_zm) (pl hm0); replace E := E.rk B0 e396; replace B := B.rk e397 lm; refine qa F fun a F => nil (hK358 _ _ ?_); refine wp_exit ?_; refine thenE ?_; refine inbE ?_; refine hK93 _ _ ?_; refine reg ?_; refine qm F fun a F => ?_; refine qv F (r_add F rfl rfl) fun a F => ?_; refine qa F fun a F => nil ?_; replace H := HN83 _ (si H).symm; exact hX82 _ _ _ (Nat.lt_succ_self _) ⟨(l71 ++ [t167.1]), A378, C379, (l75 ++ [t167.2.1]), A399, C400, (IntKind.i64.wrap (i79 + 1)), c395, F.sub ⟨rfl, rfl, rfl, rfl, trivial⟩, E, B, h4, h381, h402, H⟩
   replace H := im hb356 H
   as_aux_lemma =>
   refine wct (fb F (congrArg not (bfalse hb356))) ?_; refine sr fun K357 hK357 => qa F fun a F => nil (hK357 _ _ ?_); replace F : Fr a 139 [(2, .bool false)] := F.sub ⟨rfl, trivial⟩; refine wp_ret ?_; refine thenR ?_; refine thenR ?_; refine inbR ?_; refine thenR ?_; refine thenR ?_; refine inbR ?_; refine thenR ?_; have hx_ := HD84 _ (si H).symm; have H := HR88; rw [← hx_] at H; replace H : some false = some r := H; obtain rfl := si H; refine out1 F rfl rfl ?_; exact ⟨cf (ct m) c345, rfl, E.lv B0, cfb⟩
  replace H := im hb343 H; refine wcf (fb F (dz hb343)) (wp_skip (hK341 _ _ ?_)); refine sq fun K404 hK404 => ?_; refine sr fun K405 hK405 => qf F ff_33_0 fun a F => ?_
  as_aux_lemma =>
  refine ql F ag_3 h116 fun a F => ?_; refine qv F (r_eql F rfl rfl) fun a F => ?_; refine nil (hK405 _ _ ?_)
  by_cases hb406 : ((rd a1 i79).Kind) = 5
  ·replace H := ip hb406 H; refine wct (fb F (dt hb406)) ?_; refine sr fun K407 hK407 => qm F fun a F => ?_; obtain ⟨t242, q243, H⟩ := bind_some H; refine qc F Tryz.func9 (T_Copy.calls (m := m + 35) (pl hm0) B (TB.nil (j := m)) (Nat.lt_add_of_pos_right (by decide)) (m + 20) lm _ q243) ?_; rintro e w409 ⟨c408, p412, rfl, E410, B, h413⟩; refine rt fun a F => ?_; replace E := E.n E410; refine qm F fun a F => ?_; obtain ⟨t251, q252, H⟩ := bind_some H; refine qc F Tryz.func10 (D_Copy.calls k (m := m + 35) (pl hm0) B (TB3.nil (j := m) (i := m + 27)) (Nat.lt_add_of_pos_right (by decide)) ⟨lm, ne_0m⟩ (m + 21) lm (m + 22) lm _ q252) ?_; rintro e w416 ⟨c415, p419, rfl, E417, B, h420⟩; refine rt fun a F => ?_; replace h4 := (h4.ev E410).ev E417; replace h74 := (h74.ev E410).ev E417; replace h78 := (h78.ev E410).ev E417; replace h413 := h413.ev E417; replace E := E.n E417; refine qa F fun a F => qa F fun a F => nil (hK407 _ _ ?_); replace F : Fr a 139 [(0, .slice A2 a1.length C3), (3, .slice A72 l71.length C73), (4, .slice A76 l75.length C77), (5, .int .i64 i79), (13, .pointer p412), (14, .pointer p419)] := F.sub ⟨rfl, rfl, rfl, rfl, rfl, rfl, trivial⟩
   as_aux_lemma =>
   refine sq fun K422 hK422 => ?_; refine sr fun K423 hK423 => qm F fun a F => ?_; refine qv F (r_pneqA F Tryz.underlying23 rfl rfl (TB.isNone h413)) fun a F => ?_; refine qm F fun a F => ?_; refine qv F (r_pneqA F Tryz.underlying26 rfl rfl (TB3.isNone h420)) fun a F => ?_; refine qv F (r_bneq F Tryz.underlying4 rfl rfl) fun a F => ?_; refine nil (hK423 _ _ ?_)
   by_cases hb424 : ((!Option.isNone t242) == (!Option.isNone t251)) = true
   ·replace H := ip hb424 H; refine wcf (fb F (congrArg not hb424)) (wp_skip (hK422 _ _ ?_)); refine sq fun K426 hK426 => ?_; refine sr fun K427 hK427 => qm F fun a F => ?_; refine qv F (r_pneqA F Tryz.underlying26 rfl rfl (TB3.isNone h420)) fun a F => ?_; refine nil (hK427 _ _ ?_)
    by_cases hb428 : (Option.isNone t251) = true
    ·replace H := ip hb428 H; refine wcf (fb F (congrArg not hb428)) (wp_skip (hK426 _ _ ?_)); replace F : Fr a 139 [(0, .slice A2 a1.length C3), (3, .slice A72 l71.length C73), (4, .slice A76 l75.length C77), (5, .int .i64 i79)] := F.sub ⟨rfl, rfl, rfl, rfl, trivial⟩; refine wp_exit ?_; refine thenE ?_; refine inbE ?_; refine hK93 _ _ ?_; refine reg ?_; refine qm F fun a F => ?_
     as_aux_lemma =>
     refine qv F (r_add F rfl rfl) fun a F => ?_; refine qa F fun a F => nil ?_; replace H := HN83 _ (si H).symm; exact hX82 _ _ _ (Nat.lt_succ_self _) ⟨l71, A72, C73, l75, A76, C77, (IntKind.i64.wrap (i79 + 1)), c415, F.sub ⟨rfl, rfl, rfl, rfl, trivial⟩, E, B, h4, h74, h78, H⟩
    replace H := im hb428 H; refine wct (fb F (congrArg not (bfalse hb428))) ?_; refine sr fun K429 hK429 => qm F fun a F => qm F fun a F => ?_; have h430 : GR KO_Tab (m + 23) c415 w416 ([] : List (List Value)) ([] : List (Option Tab)) := GR.nil (pl hm0); obtain ⟨c431, e432, e433, h430⟩ := GRL.push (zs := [m + 20]) (ds := ([.pointer p412] : List Value)) (x := t242) h430 ⟨p412, rfl, h413⟩ rfl ⟨⟨mm, (pl hm0)⟩, trivial⟩ ⟨trivial, trivial⟩; replace h4 := SL.rc h4 (rn e432 ⟨ne_zm, trivial⟩) (rn e432 ⟨ne_zm, trivial⟩); replace h74 := OL.rc h74 (rn e432 ⟨mm, trivial⟩) (rn e432 ⟨mm, trivial⟩) (rn e432 ⟨ne_zm, trivial⟩) (pl hm0); replace h78 := OL.rc h78 (rn e432 ⟨mm, trivial⟩) (rn e432 ⟨mm, trivial⟩) (rn e432 ⟨ne_zm, trivial⟩) (pl hm0); replace h420 := TB3.rc h420 (rn e432 ⟨mm, trivial⟩) (rn e432 ⟨mm, trivial⟩) (rn e432 ⟨ne_zm, trivial⟩); replace E := E.rn B0 e432; replace B := B.rk e433 lm; refine q_eff F rfl rfl (by decide) (e_buildSlice (n := 1) (e := 23) (c := c431) (k := Kraw KO_Tab.sz KO_Tab.pos) (i := 0) F [(0, .pointer p412)] [.pointer p412] ([([.pointer p412] : List Value)] : List (List Value)) (by exact ⟨rfl, rfl, trivial⟩) (fun w => by kernel_rfl) rfl (by decide) rfl ⟨⟨rfl, rfl, one_all rfl⟩, trivial⟩ (fun q => q) (m + 24)) ?_; rintro v w435 a ⟨c434, A436, C437, rfl, E438, h439, B440⟩ F; replace B := B440 _ B lm; replace h74 := h74.ev E438; replace h430 := h430.ev E438; replace E := E.n E438; replace h439 : OL KO_Tab (m + 24) (m + 23) c434 w435 A436 C437 [t242] := OL.mk h439 h430
    as_aux_lemma =>
    replace H := ifN H; obtain ⟨g287, H⟩ := H; refine q_eff F rfl rfl (by decide) (e_appendO (e := KO_Tab) (xs := l71) (ys := [t242]) (c := c434) (j := (m + 3)) (y0 := (m + 2)) F et_25 rfl rfl h74 h439 g287 (len_ok g287) (pl hm0) mm mm mm) ?_; rintro v w445 a ⟨c441, A446, C447, rfl, E448, B450, c442, e443, e444, h449⟩ F; replace B := B450 _ B lm; replace h4 := (h4.ev E438).ev E448; replace h78 := (h78.ev E438).ev E448; replace h420 := (h420.ev E438).ev E448; replace E := E.trans E448 lc1; replace h4 := SL.rc h4 (rk e443 ne_zm) (rk e443 ne_zm); replace h78 := OL.rc h78 (rk e443 mm) (rk e443 mm) (rk e443 ne_zm) (pl hm0); replace h420 := TB3.rc h420 (rk e443 mm) (rk e443 mm) (rk e443 ne_zm); replace E := E.rk B0 e443; replace B := B.rk e444 lm; refine qa F fun a F => nil (hK429 _ _ ?_); refine reg ?_; refine qm F fun a F => qm F fun a F => ?_; have h451 : GR KO_Tb3 (m + 25) c442 w445 ([] : List (List Value)) ([] : List (Option Tb3)) := GR.nil (pl hm0); obtain ⟨c452, e453, e454, h451⟩ := GRL.push (zs := [m + 21, m + 22]) (ds := ([.pointer p419] : List Value)) (x := t251) h451 ⟨p419, rfl, h420⟩ rfl ⟨⟨mm, (pl hm0)⟩, ⟨mm, (pl hm0)⟩, trivial⟩ ⟨⟨mm, trivial⟩, trivial, trivial⟩; replace h4 := SL.rc h4 (rn e453 ⟨ne_zm, ne_zm, trivial⟩) (rn e453 ⟨ne_zm, ne_zm, trivial⟩); replace h78 := OL.rc h78 (rn e453 ⟨mm, mm, trivial⟩) (rn e453 ⟨mm, mm, trivial⟩) (rn e453 ⟨ne_zm, ne_zm, trivial⟩) (pl hm0); replace h449 := OL.rc h449 (rn e453 ⟨mm, mm, trivial⟩) (rn e453 ⟨mm, mm, trivial⟩) (rn e453 ⟨ne_zm, ne_zm, trivial⟩) (pl hm0)
    as_aux_lemma =>
    replace E := E.rn B0 e453; replace B := B.rk e454 lm; refine q_eff F rfl rfl (by decide) (e_buildSlice (n := 1) (e := 26) (c := c452) (k := Kraw KO_Tb3.sz KO_Tb3.pos) (i := 0) F [(0, .pointer p419)] [.pointer p419] ([([.pointer p419] : List Value)] : List (List Value)) (by exact ⟨rfl, rfl, trivial⟩) (fun w => by kernel_rfl) rfl (by decide) rfl ⟨⟨rfl, rfl, one_all rfl⟩, trivial⟩ (fun q => q) (m + 26)) ?_; rintro v w456 a ⟨c455, A457, C458, rfl, E459, h460, B461⟩ F; replace B := B461 _ B lm; replace h78 := h78.ev E459; replace h451 := h451.ev E459; replace E := E.n E459; replace h460 : OL KO_Tb3 (m + 26) (m + 25) c455 w456 A457 C458 [t251] := OL.mk h460 h451; replace H := ifN H; obtain ⟨g309, H⟩ := H; refine q_eff F rfl rfl (by decide) (e_appendO (e := KO_Tb3) (xs := l75) (ys := [t251]) (c := c455) (j := (m + 7)) (y0 := (m + 6)) F et_28 rfl rfl h78 h460 g309 (len_ok g309) (pl hm0) mm mm mm) ?_; rintro v w466 a ⟨c462, A467, C468, rfl, E469, B471, c463, e464, e465, h470⟩ F; replace B := B471 _ B lm; replace h4 := (h4.ev E459).ev E469; replace h449 := (h449.ev E459).ev E469; replace E := E.trans E469 lc1; replace h4 := SL.rc h4 (rk e464 ne_zm) (rk e464 ne_zm); replace h449 := OL.rc h449 (rk e464 mm) (rk e464 mm) (rk e464 ne_zm) (pl hm0); replace E := E.rk B0 e464; replace B := B.rk e465 lm; refine qa F fun a F => nil (hK426 _ _ ?_)
    as_aux_lemma =>
    refine wp_exit ?_; refine thenE ?_; refine inbE ?_; refine hK93 _ _ ?_; refine reg ?_; refine qm F fun a F => ?_; refine qv F (r_add F rfl rfl) fun a F => ?_; refine qa F fun a F => nil ?_; replace H := HN83 _ (si H).symm; exact hX82 _ _ _ (Nat.lt_succ_self _) ⟨(l71 ++ [t242]), A446, C447, (l75 ++ [t251]), A467, C468, (IntKind.i64.wrap (i79 + 1)), c463, F.sub ⟨rfl, rfl, rfl, rfl, trivial⟩, E, B, h4, h449, h470, H⟩
   replace H := im hb424 H; refine wct (fb F (congrArg not (bfalse hb424))) ?_; refine sr fun K425 hK425 => qa F fun a F => nil (hK425 _ _ ?_); replace F : Fr a 139 [(2, .bool false)] := F.sub ⟨rfl, trivial⟩; refine wp_ret ?_; refine thenR ?_; refine thenR ?_; refine inbR ?_; refine thenR ?_; refine thenR ?_; refine inbR ?_; refine thenR ?_; have hx_ := HD84 _ (si H).symm; have H := HR88; rw [← hx_] at H
   as_aux_lemma =>
   replace H : some false = some r := H; obtain rfl := si H; refine out1 F rfl rfl ?_; exact ⟨cf (ct m) c415, rfl, E.lv B0, cfb⟩
  replace H := im hb406 H; refine wcf (fb F (dz hb406)) (wp_skip (hK404 _ _ ?_)); replace F : Fr a 139 [(0, .slice A2 a1.length C3), (3, .slice A72 l71.length C73), (4, .slice A76 l75.length C77), (5, .int .i64 i79), (6, .pointer (some qa114)), (8, .pointer none), (9, .pointer none)] := F.sub ⟨rfl, rfl, rfl, rfl, rfl, rfl, rfl, trivial⟩; refine sr fun K472 hK472 => qm F fun a F => qm F fun a F => ?_; refine qv F (r_loads (cs := [.int .i64 ((rd a1 i79).Kind), .int .i64 ((rd a1 i79).Which), .int .i64 (((rd a1 i79).Op).Kind), .slice A101 (((rd a1 i79).Op).Key).length C102, .slice A104 (((rd a1 i79).Op).Value).length C105, .int .i64 (((rd a1 i79).Op).Rev), .slice A107 ((rd a1 i79).P).length C108]) F rfl ag_33 sz_33 h116) fun a F => ?_; obtain ⟨t321, q322, H⟩ := bind_some H; refine qc F Tryz.func11 (l3_does.calls k (m := m + 35) (a10 := l3_Step.mk ((rd a1 i79).Kind) ((rd a1 i79).Which) ((rd a1 i79).Op) ((rd a1 i79).P)) (pl hm0) B (TB.nil (j := m)) (TB3.nil (j := m + 28) (i := m + 29)) h103 h106 h109 ⟨hm0, (Nat.lt_add_of_pos_right (by decide))⟩ ⟨(pl hm0), lm, ne_0m⟩ ⟨(pl hm0), lm, mm, ne_0m⟩ ⟨(pl hm0), (ne_z hm0), ne_zm, ne_zm⟩ ⟨(pl hm0), (ne_z hm0), ne_zm, ne_zm⟩ ⟨(pl hm0), (ne_z hm0), ne_zm, ne_zm⟩ _ q322) ?_; rintro e w474 ⟨c473, rfl, E475, B, h477, h478⟩; refine rt fun a F => ?_; replace h4 := h4.ev E475 (nor (ne_z hm0) (nor ne_zm ne_zm)) (nor (ne_z hm0) (nor ne_zm ne_zm)); replace h74 := h74.ev E475 (nor ne_0m (nor mm mm)) (nor ne_0m (nor mm mm)) (nor (ne_z hm0) (nor ne_zm ne_zm)); replace h78 := h78.ev E475 (nor ne_0m (nor mm mm)) (nor ne_0m (nor mm mm)) (nor (ne_z hm0) (nor ne_zm ne_zm)); replace E := E.trans E475 (fun x (q : x = m ∨ x = m + 28 ∨ x = m + 29) => q.elim (fun q => Or.inr (le_col0 q)) (fun q => q.elim (fun q => Or.inr (le_col q)) (fun q => Or.inr (le_col q)))); refine qa F fun a F => nil (hK472 _ _ ?_); refine sr fun K480 hK480 => qm F fun a F => ?_; refine qv F (r_not F rfl) fun a F => ?_; refine nil (hK480 _ _ ?_); replace F : Fr a 139 [(0, .slice A2 a1.length C3), (3, .slice A72 l71.length C73), (4, .slice A76 l75.length C77), (5, .int .i64 i79), (106, .bool (!t321.1))] := F.sub ⟨rfl, rfl, rfl, rfl, rfl, trivial⟩
  by_cases hb481 : t321.1 = true
  ·replace H := ip hb481 H
   as_aux_lemma =>
   refine wcf (fb F (congrArg not hb481)) (wp_skip (hK93 _ _ ?_)); refine reg ?_; refine qm F fun a F => ?_; refine qv F (r_add F rfl rfl) fun a F => ?_; refine qa F fun a F => nil ?_; replace H := HN83 _ (si H).symm; exact hX82 _ _ _ (Nat.lt_succ_self _) ⟨l71, A72, C73, l75, A76, C77, (IntKind.i64.wrap (i79 + 1)), c473, F.sub ⟨rfl, rfl, rfl, rfl, trivial⟩, E, B, h4, h74, h78, H⟩
  replace H := im hb481 H; refine wct (fb F (congrArg not (bfalse hb481))) ?_; refine sr fun K482 hK482 => qa F fun a F => nil (hK482 _ _ ?_); refine wp_ret ?_; refine inbR ?_; refine thenR ?_; refine thenR ?_; refine inbR ?_; refine thenR ?_; have hx_ := HD84 _ (si H).symm; have H := HR88; rw [← hx_] at H; replace H : some false = some r := H; obtain rfl := si H; refine out1 F rfl rfl ?_; exact ⟨cf (ct m) c473, rfl, E.lv B0, cfb⟩
 as_aux_lemma =>
 replace H := im hb92 H; refine wcf (fb F (dz hb92)) ?_; refine wp_exit ?_; refine thenE ?_; refine thenE ?_; refine inbE ?_; have hx_ := HD84 _ (si H).symm; have H := HR88; rw [← hx_] at H; exact J500 c80 w81 a l71 A72 C73 l75 A76 C77 (F.sub ⟨rfl, rfl, trivial⟩) E B h74 h78 H
end Go.Proofs.YtcolmmjcdlmcoaaGreat.G
namespace Go.Proofs.YtcolmmjcdlmcoaaGreat.G
open Go Go.ChangeShapes Go.WideShapes
set_option linter.unusedVariables false
set_option linter.unusedSimpArgs false
theorem bulk_one {H : Type} (d : DataW H) : 1 ≤ Rows.uptoBulk d := by
 cases d with
 | lit l => cases l <;> simp [Rows.uptoBulk]
 | nil => simp [Rows.uptoBulk]
 | ptr d => simp [Rows.uptoBulk]
 | slice elems spare => simp [Rows.uptoBulk]
 | agg parts => simp [Rows.uptoBulk]
 | iface t d => simp [Rows.uptoBulk]
 | map entries => simp [Rows.uptoBulk]
 | held h => simp [Rows.uptoBulk]
theorem bulk_slice {H : Type} (elems spare : List (DataW H)) : Rows.uptoBulkAll elems + 1 ≤ Rows.uptoBulk (.slice elems spare) := by
 simp only [Rows.uptoBulk]
 omega
theorem bulk_agg {H : Type} (parts : List (DataW H)) : Rows.uptoBulkAll parts + 1 ≤ Rows.uptoBulk (.agg parts) := by
 simp only [Rows.uptoBulk]
 omega
theorem bulk_all {H : Type} : ∀ l : List (DataW H), Rows.uptoBulkAll l = (l.map Rows.uptoBulk).sum
 | [] => by simp [Rows.uptoBulkAll]
 | d :: l => by simp [Rows.uptoBulkAll, bulk_all l]
def c0 : Nat → Nat := fun _ => 0
def Opens {α : Type} (P : Program) (w : World) (t : TypeId) (e : K α) (wt : α → Nat) (ok : α → Prop) : Prop :=
 ∀ (H : Type) (enc : TypeId × Value → H) (fuel : Nat) (cs : List Value) (x : DataW H × List MemPlace), DataW.trod enc P w 0 (fun _ => true) true fuel t cs = some x → ∃ y, e.rep 0 c0 w cs y ∧ wt y ≤ Rows.uptoBulk x.1 ∧ ok y
section
variable {α : Type} {P : Program} {w : World} {t u : TypeId} {e : K α} {wt : α → Nat} {ok : α → Prop}
theorem opens_int {k : IntKind} (ht : P.underlying t = some (.int k)) : Opens P w t (Kint k) (fun _ => 1) (fun n => (Lit.int k n).wf = true) := by
 intro H enc fuel cs x h; obtain ⟨n, rfl, rfl, hw⟩ := DataW.trod_int ht h; exact ⟨n, rfl, bulk_one _, hw⟩
theorem at_cell {p : Addr} {v : Value} (h : w.cell? p = some v) : p = ⟨p.block, p.off, none⟩ ∧ ∃ cur ty fz, w.heap[p.block]? = some (.cells cur ty fz) ∧ cur[p.off]? = some v := by
 obtain ⟨b, off, spot⟩ := p
 simp only [World.cell?] at h
 split at h
 ·rename_i c ty fz hb
  cases spot with
  | some s => simp at h
  | none => exact ⟨rfl, c, ty, fz, hb, by simpa using h⟩
 ·cases h
theorem at_cells {p : Addr} {n : Nat} {cs : List Value} (hn : cs.length = n) (hp : 0 < n) (h : ∀ i, i < n → w.cell? (p.add i) = cs[i]?) : AT false 0 c0 w p cs := by
 have h0 := h 0 hp; have e0 : p.add 0 = p := by simp [Addr.add]
 rw [e0, List.getElem?_eq_getElem (by omega)] at h0; obtain ⟨ep, cur, ty, fz, hb, hc⟩ := at_cell h0; refine ⟨p.block, p.off, cur, ty, fz, ep, hb, rfl, fun k hk => ?_, fun q => by cases q⟩; have hk' := h k (by omega); rw [ep, add_eq] at hk'
 simp only [World.cell?, hb] at hk'
 simpa using hk'
theorem sum_le {β γ : Type} (f : β → Nat) (g : γ → Nat) : ∀ (l : List β) (m : List γ), l.length = m.length → (∀ i (h : i < l.length) (h' : i < m.length), f l[i] ≤ g m[i]) → (l.map f).sum ≤ (m.map g).sum
 | [], [], _, _ => Nat.le_refl _
 | [], _ :: _, h, _ => by simp at h
 | _ :: _, [], h, _ => by simp at h
 | a :: l, b :: m, h, hh => by
  simp only [List.map_cons, List.sum_cons]
  have h0 := hh 0 (by simp) (by simp)
  simp only [List.getElem_cons_zero] at h0
  have := sum_le f g l m (by simpa using h) (fun i h1 h2 => by
   have := hh (i + 1) (by simp; omega) (by simp; omega)
   simpa using this)
  omega
theorem open_sl [Inhabited α] (ht : P.underlying t = some (.slice u)) (hc : P.cellsOf u = e.sz) (hu : Opens P w u e wt ok) {H : Type} {enc : TypeId × Value → H} {fuel : Nat} {cs : List Value} {x : DataW H × List MemPlace}
  (h : DataW.trod enc P w 0 (fun _ => true) true fuel t cs = some x) :
  ∃ A cap xs, cs = [.slice A xs.length cap] ∧ SL false e 0 0 c0 w A cap xs ∧ (xs.map wt).sum + 1 ≤ Rows.uptoBulk x.1 ∧ ∀ y ∈ xs, ok y := by
 rcases Deep.open_slice ht h with ⟨rfl, rfl⟩ | ⟨a, len, cap, m, n, D, Pl, rfl, _, hl, hm, hmm, rfl, hx⟩
 ·exact ⟨none, 0, [], rfl, SL.nil, by simp [Rows.uptoBulk], fun y hy => by cases hy⟩
 simp only [if_true] at hmm
 subst hmm; have hp := e.pos; rw [hc] at hx; have each : ∀ i, i < m → ∃ y : List Value × α, (y.1.length = e.sz ∧ ∀ k, k < e.sz → w.cell? ((a.add (i * e.sz)).add k) = y.1[k]?) ∧ e.rep 0 c0 w y.1 y.2 ∧ wt y.2 ≤ Rows.uptoBulk (D i) ∧ ok y.2 := by
  intro i hi; obtain ⟨cs', h1, h2⟩ := hx i hi; obtain ⟨_, g1, g2⟩ := World.cells?_some h1; obtain ⟨y, g3, g4, g5⟩ := hu H enc n cs' _ h2; exact ⟨(cs', y), ⟨g1, g2⟩, g3, g4, g5⟩
 obtain ⟨y, hy⟩ := Deep.choose_lt each
 let V : Nat → Value := fun q => (y (q / e.sz)).1.getD (q % e.sz) default
 have hV : ∀ i k, k < e.sz → V (i * e.sz + k) = (y i).1.getD k default := by
  intro i k hk
  show (y ((i * e.sz + k) / e.sz)).1.getD ((i * e.sz + k) % e.sz) default = _
  rw [Nat.mul_comm, Nat.mul_add_div hp, Nat.div_eq_of_lt hk, Nat.add_zero, Nat.mul_add_mod, Nat.mod_eq_of_lt hk]
 let cs := (List.range (m * e.sz)).map V
 have hcs : cs.length = m * e.sz := by simp [cs]
 have hcell : ∀ q, q < m * e.sz → w.cell? (a.add q) = cs[q]? := by
  intro q hq; have hi : q / e.sz < m := (Nat.div_lt_iff_lt_mul hp).2 hq; have hk : q % e.sz < e.sz := Nat.mod_lt _ hp; obtain ⟨⟨g1, g2⟩, _⟩ := hy _ hi; have g := g2 _ hk; have e1 : (a.add (q / e.sz * e.sz)).add (q % e.sz) = a.add q := by
   have e2 : q / e.sz * e.sz + q % e.sz = q := Nat.div_add_mod' q e.sz; obtain ⟨b, off, s⟩ := a
   simp only [Addr.add]
   split <;> split <;> split <;> simp_all <;> omega
  rw [e1] at g; rw [g]
  simp only [cs, List.getElem?_map, List.getElem?_range hq, Option.map_some]
  show _ = some ((y (q / e.sz)).1.getD (q % e.sz) default)
  rw [List.getD_eq_getElem?_getD, List.getElem?_eq_getElem (by omega)]
  rfl
 refine ⟨some a, m, (List.range len).map fun i => (y i).2, by simp, ⟨cs, by simpa using hl, hm, hcs, ?_, fun n hn => ?_⟩, ?_, ?_⟩
 ·rcases Nat.eq_zero_or_pos (m * e.sz) with q | q
  ·left; exact List.length_eq_zero_iff.1 (by omega)
  ·right; exact ⟨a, rfl, at_cells hcs q hcell⟩
 ·simp only [List.length_map, List.length_range] at hn
  obtain ⟨⟨g1, _⟩, g3, _, _⟩ := hy n (by omega); have e1 : (cs.drop (n * e.sz)).take e.sz = (y n).1 := by
   apply List.ext_getElem?
   intro k
   by_cases hk : k < e.sz
   ·have hq : n * e.sz + k < m * e.sz := by
     have : (n + 1) * e.sz ≤ m * e.sz := Nat.mul_le_mul_right _ (by omega); rw [Nat.succ_mul] at this; omega
    rw [List.getElem?_take_of_lt hk, List.getElem?_drop]
    simp only [cs, List.getElem?_map, List.getElem?_range hq, Option.map_some]
    rw [hV n k hk, List.getD_eq_getElem?_getD, List.getElem?_eq_getElem (by omega)]
    rfl
   ·rw [List.getElem?_eq_none (by simp; omega), List.getElem?_eq_none (by omega)]
  rw [e1]
  simpa using g3
 ·refine Nat.le_trans (Nat.succ_le_succ ?_) (bulk_slice _ _)
  rw [bulk_all]; rw [List.map_map, List.map_map]; have := sum_le (fun i => wt (y i).2) (fun i => Rows.uptoBulk (D i)) (List.range len) (List.range len) rfl (fun i h1 h2 => by
   simp only [List.length_range] at h1
   simp only [List.getElem_range]
   exact (hy i (by omega)).2.2.1)
  exact this
 ·intro z hz
  obtain ⟨i, hi, rfl⟩ := List.mem_map.1 hz; exact (hy i (by have := List.mem_range.1 hi; omega)).2.2.2
theorem opens_slice [Inhabited α] (ht : P.underlying t = some (.slice u)) (hc : P.cellsOf u = e.sz) (hu : Opens P w u e wt ok) : Opens P w t (Kslice e) (fun xs => (xs.map wt).sum + 1) (fun xs => ∀ y ∈ xs, ok y) := by
 intro H enc fuel cs x h; obtain ⟨A, cap, xs, h1, h2, h3, h4⟩ := open_sl ht hc hu h; exact ⟨xs, ⟨A, cap, h1, h2⟩, h3, h4⟩
end
end Go.Proofs.YtcolmmjcdlmcoaaGreat.G
namespace Go.Proofs.YtcolmmjcdlmcoaaGreat.G
open Go Go.ChangeShapes Go.WideShapes
set_option linter.unusedVariables false
theorem row_own : ownKnob Tryz.prog.godebug = none := by kernel_rfl
theorem row_laidOut : laidOutB Tryz.prog = true := by kernel_rfl
def intok (n : Int) : Prop := (Lit.int .i64 n).wf = true
def byteok (n : Int) : Prop := (Lit.int .u8 n).wf = true
def bytesok (xs : List Int) : Prop := ∀ n ∈ xs, byteok n
theorem byteok.range {n : Int} (h : byteok n) : 0 ≤ n ∧ n ≤ 255 := by simpa [byteok, Lit.wf, IntKind.min, IntKind.max, IntKind.signed, IntKind.bits] using h
theorem sum_one {α : Type} (xs : List α) : (xs.map fun _ => 1).sum = xs.length := by
 induction xs with
 | nil => rfl
 | cons x xs ih => simp [ih]; omega
theorem mem_sum {α : Type} (f : α → Nat) : ∀ {xs : List α} {x : α}, x ∈ xs → f x ≤ (xs.map f).sum
 | y :: xs, x, h => by
  rcases List.mem_cons.1 h with e | h
  ·subst e; simp
  ·have := mem_sum f h; simp only [List.map_cons, List.sum_cons]; omega
theorem len_sum {α : Type} (f : α → Nat) (hf : ∀ x, 1 ≤ f x) : ∀ xs : List α, xs.length ≤ (xs.map f).sum
 | [] => Nat.le_refl _
 | x :: xs => by have := len_sum f hf xs; have := hf x; simp only [List.map_cons, List.sum_cons, List.length_cons]; omega
theorem cells_3 : Tryz.prog.cellsOf 3 = 1 := by kernel_rfl
theorem cells_5 : Tryz.prog.cellsOf 5 = 1 := by kernel_rfl
theorem cells_29 : Tryz.prog.cellsOf 29 = 1 := by kernel_rfl
theorem cells_31 : Tryz.prog.cellsOf 31 = 4 := by kernel_rfl
theorem cells_33 : Tryz.prog.cellsOf 33 = 7 := by kernel_rfl
theorem opens_bytes {w : World} : Opens Tryz.prog w 29 (Kslice (Kint .u8)) (fun xs => xs.length + 1) bytesok := by
 intro H enc fuel cs x h; obtain ⟨y, h1, h2, h3⟩ := opens_slice (e := Kint .u8) Tryz.underlying29 cells_5 (opens_int Tryz.underlying5) H enc fuel cs x h; have h2' : (y.map fun _ => 1).sum + 1 ≤ Rows.uptoBulk x.1 := h2; rw [sum_one] at h2'; exact ⟨y, h1, h2', h3⟩
abbrev wt_api_Op (o : AO) : Nat := o.Key.length + o.Value.length + 1
def ok_api_Op (o : AO) : Prop := intok o.Kind ∧ bytesok o.Key ∧ bytesok o.Value ∧ intok o.Rev
set_option maxRecDepth 100000 in
theorem opens_api_Op {w : World} : Opens Tryz.prog w 31 K_api_Op wt_api_Op ok_api_Op := by
 intro H enc fuel cs x h; obtain ⟨xs, n, rfl, rfl, hl, hxl, hf⟩ := DataW.trod_struct Tryz.underlying31 h; rw [cells_31] at hl
 match cs, hl with
 | [v0, v1, v2, v3], _ =>
  match xs, hxl with
  | [x0, x1, x2, x3], _ =>
   have g0 : DataW.trod enc Tryz.prog w 0 (fun _ => true) true n 3 (([v0, v1, v2, v3].drop 0).take (Tryz.prog.cellsOf 3)) = some x0 := hf 0 _ rfl; rw [cells_3] at g0; replace g0 : DataW.trod enc Tryz.prog w 0 (fun _ => true) true n 3 [v0] = some x0 := g0; obtain ⟨y0, r0, -, k0⟩ := opens_int (w := w) Tryz.underlying3 H enc n _ _ g0; have g1 : DataW.trod enc Tryz.prog w 0 (fun _ => true) true n 29 (([v0, v1, v2, v3].drop 1).take (Tryz.prog.cellsOf 29)) = some x1 := hf 1 _ rfl; rw [cells_29] at g1; replace g1 : DataW.trod enc Tryz.prog w 0 (fun _ => true) true n 29 [v1] = some x1 := g1; obtain ⟨y1, ⟨A1, C1, e1, s1⟩, b1, k1⟩ := opens_bytes (w := w) H enc n _ _ g1; have g2 : DataW.trod enc Tryz.prog w 0 (fun _ => true) true n 29 (([v0, v1, v2, v3].drop 2).take (Tryz.prog.cellsOf 29)) = some x2 := hf 2 _ rfl; rw [cells_29] at g2; replace g2 : DataW.trod enc Tryz.prog w 0 (fun _ => true) true n 29 [v2] = some x2 := g2; obtain ⟨y2, ⟨A2, C2, e2, s2⟩, b2, k2⟩ := opens_bytes (w := w) H enc n _ _ g2; have g3 : DataW.trod enc Tryz.prog w 0 (fun _ => true) true n 3 (([v0, v1, v2, v3].drop 3).take (Tryz.prog.cellsOf 3)) = some x3 := hf 3 _ rfl; rw [cells_3] at g3; replace g3 : DataW.trod enc Tryz.prog w 0 (fun _ => true) true n 3 [v3] = some x3 := g3; obtain ⟨y3, r3, -, k3⟩ := opens_int (w := w) Tryz.underlying3 H enc n _ _ g3; obtain rfl : v0 = .int .i64 y0 := List.head_eq_of_cons_eq r0; obtain rfl := List.head_eq_of_cons_eq e1; obtain rfl := List.head_eq_of_cons_eq e2; obtain rfl : v3 = .int .i64 y3 := List.head_eq_of_cons_eq r3; refine ⟨⟨y0, y1, y2, y3⟩, ⟨A1, C1, A2, C2, rfl, s1, s2⟩, ?_, ⟨k0, k1, k2, k3⟩⟩; refine Nat.le_trans ?_ (bulk_agg _)
   simp only [List.map_cons, List.map_nil, Rows.uptoBulkAll]
   have q0 := bulk_one x0.1; have q1 : y1.length + 1 ≤ Rows.uptoBulk x1.1 := b1; have q2 : y2.length + 1 ≤ Rows.uptoBulk x2.1 := b2; have q3 := bulk_one x3.1
   show y1.length + y2.length + 1 ≤ _
   omega
abbrev wt_haulagelaw13_Step (o : l3_Step) : Nat := wt_api_Op o.Op + o.P.length + 1
def ok_haulagelaw13_Step (o : l3_Step) : Prop := intok o.Kind ∧ intok o.Which ∧ ok_api_Op o.Op ∧ bytesok o.P
set_option maxRecDepth 100000 in
theorem opens_haulagelaw13_Step {w : World} : Opens Tryz.prog w 33 K_haulagelaw13_Step wt_haulagelaw13_Step ok_haulagelaw13_Step := by
 intro H enc fuel cs x h; obtain ⟨xs, n, rfl, rfl, hl, hxl, hf⟩ := DataW.trod_struct Tryz.underlying33 h; rw [cells_33] at hl
 match cs, hl with
 | [v0, v1, v2, v3, v4, v5, v6], _ =>
  match xs, hxl with
  | [x0, x1, x2, x3], _ =>
   have g0 : DataW.trod enc Tryz.prog w 0 (fun _ => true) true n 3 (([v0, v1, v2, v3, v4, v5, v6].drop 0).take (Tryz.prog.cellsOf 3)) = some x0 := hf 0 _ rfl; rw [cells_3] at g0; replace g0 : DataW.trod enc Tryz.prog w 0 (fun _ => true) true n 3 [v0] = some x0 := g0; obtain ⟨y0, r0, -, k0⟩ := opens_int (w := w) Tryz.underlying3 H enc n _ _ g0; have g1 : DataW.trod enc Tryz.prog w 0 (fun _ => true) true n 3 (([v0, v1, v2, v3, v4, v5, v6].drop 1).take (Tryz.prog.cellsOf 3)) = some x1 := hf 1 _ rfl; rw [cells_3] at g1; replace g1 : DataW.trod enc Tryz.prog w 0 (fun _ => true) true n 3 [v1] = some x1 := g1; obtain ⟨y1, r1, -, k1⟩ := opens_int (w := w) Tryz.underlying3 H enc n _ _ g1; have g2 : DataW.trod enc Tryz.prog w 0 (fun _ => true) true n 31 (([v0, v1, v2, v3, v4, v5, v6].drop 2).take (Tryz.prog.cellsOf 31)) = some x2 := hf 2 _ rfl; rw [cells_31] at g2; replace g2 : DataW.trod enc Tryz.prog w 0 (fun _ => true) true n 31 [v2, v3, v4, v5] = some x2 := g2; obtain ⟨y2, ⟨m2_0, m2_1, m2_2, m2_3, e2, s2_0, s2_1⟩, b2, k2⟩ := opens_api_Op (w := w) H enc n _ _ g2; have g3 : DataW.trod enc Tryz.prog w 0 (fun _ => true) true n 29 (([v0, v1, v2, v3, v4, v5, v6].drop 6).take (Tryz.prog.cellsOf 29)) = some x3 := hf 3 _ rfl; rw [cells_29] at g3; replace g3 : DataW.trod enc Tryz.prog w 0 (fun _ => true) true n 29 [v6] = some x3 := g3; obtain ⟨y3, ⟨A3, C3, e3, s3⟩, b3, k3⟩ := opens_bytes (w := w) H enc n _ _ g3; obtain rfl : v0 = .int .i64 y0 := List.head_eq_of_cons_eq r0; obtain rfl : v1 = .int .i64 y1 := List.head_eq_of_cons_eq r1
   simp only [List.cons.injEq, and_true] at e2
   obtain ⟨rfl, rfl, rfl, rfl⟩ := e2; obtain rfl := List.head_eq_of_cons_eq e3; refine ⟨⟨y0, y1, y2, y3⟩, ⟨m2_0, m2_1, m2_2, m2_3, A3, C3, rfl, s2_0, s2_1, s3⟩, ?_, ⟨k0, k1, k2, k3⟩⟩; refine Nat.le_trans ?_ (bulk_agg _)
   simp only [List.map_cons, List.map_nil, Rows.uptoBulkAll]
   have q0 := bulk_one x0.1; have q1 := bulk_one x1.1; have q2 : wt_api_Op y2 ≤ Rows.uptoBulk x2.1 := b2; have q3 : y3.length + 1 ≤ Rows.uptoBulk x3.1 := b3
   show wt_api_Op y2 + y3.length + 1 ≤ _
   omega
theorem wt_haulagelaw13_Step_pos (o : l3_Step) : 1 ≤ wt_haulagelaw13_Step o := by unfold wt_haulagelaw13_Step; omega
theorem arg_steps {H : Type} {enc : TypeId × Value → H} {w : World} {v : Value} {d : DataW H} {p : List MemPlace} (hv : ∃ a len cap, v = .slice a len cap) (h : DataW.Trod enc Tryz.prog w 0 (fun _ => true) true 22 v d p) :
  ∃ A C xs, v = .slice A xs.length C ∧ SL false K_haulagelaw13_Step 0 0 c0 w A C xs ∧ (xs.map wt_haulagelaw13_Step).sum + 1 ≤ Rows.uptoBulk d ∧ ∀ o ∈ xs, ok_haulagelaw13_Step o := by
 obtain ⟨a, len, cap, rfl⟩ := hv; obtain ⟨fuel, hf⟩ := h; obtain ⟨A, C, xs, e, h1, h2, h3⟩ := open_sl (e := K_haulagelaw13_Step) Tryz.underlying22 cells_33 opens_haulagelaw13_Step hf; refine ⟨A, C, xs, ?_, h1, h2, h3⟩; have e' : [Value.slice a len cap] = [.slice A xs.length C] := e; exact List.head_eq_of_cons_eq e'
end Go.Proofs.YtcolmmjcdlmcoaaGreat.G
namespace Go.Proofs.YtcolmmjcdlmcoaaGreat.G
open Go
set_option linter.unusedVariables false
set_option linter.unusedSimpArgs false
theorem lA {α : Type} {x y : List α} : (x ++ y).length = x.length + y.length := List.length_append
theorem oB {α β : Type} {a : α} {f : α → Option β} : (some a).bind f = f a := rfl
abbrev Ent := ByteArray × TC
def Tr.list : Tr → List Ent
 | .nil => []
 | .node l r k v _ _ => l.list ++ (k, v) :: r.list
def Tr.hgt : Tr → Nat
 | .nil => 0
 | .node l r _ _ _ _ => 1 + max l.hgt r.hgt
def Tr.WF : Tr → Prop
 | .nil => True
 | .node l r k v s d => l.WF ∧ r.WF ∧ s = ((Tr.node l r k v s d).list.length : Int) ∧ d = ((Tr.node l r k v s d).hgt : Int)
theorem Tr.hgt_le : ∀ t : Tr, t.hgt ≤ t.list.length
 | .nil => Nat.le_refl _
 | .node l r k v s d => by
  have := hgt_le l; have := hgt_le r
  simp only [Tr.hgt, Tr.list, lA, List.length_cons]; omega
theorem len_eq {t : Tr} (h : t.WF) : t_Len.f t = some (t.list.length : Int) := by
 cases t with
 | nil => rfl
 | node l r k v s d => show (if (Tr.node l r k v s d).isNil = true then some 0 else some s) = _; rw [if_neg (by simp [Tr.isNil])]; exact congrArg some h.2.2.1
theorem dep_eq {t : Tr} (h : t.WF) : t_Depth.f t = some (t.hgt : Int) := by
 cases t with
 | nil => rfl
 | node l r k v s d => show (if (Tr.node l r k v s d).isNil = true then some 0 else some d) = _; rw [if_neg (by simp [Tr.isNil])]; exact congrArg some h.2.2.2
theorem wr {n : Int} (h0 : -1000000000000000000 ≤ n) (h1 : n ≤ 1000000000000000000) : IntKind.i64.wrap n = n := by rw [IntKind.wrap_i64]; omega
def big : Nat := 1099511627776
theorem node_eq {l r : Tr} {k : ByteArray} {v : TC} (hl : l.WF) (hr : r.WF) (hb : l.list.length + r.list.length < big) :
  ∃ t, tree_node.f l k v r = some t ∧ t.WF ∧ t.list = l.list ++ (k, v) :: r.list ∧ (∃ s d, t = .node l r k v s d) := by
 have h1 := l.hgt_le; have h2 := r.hgt_le; unfold big at hb; refine ⟨.node l r k v (l.list.length + 1 + r.list.length) (1 + max l.hgt r.hgt), ?_, ⟨hl, hr, ?_, ?_⟩, rfl, _, _, rfl⟩
 ·simp only [tree_node.f, len_eq hl, len_eq hr, dep_eq hl, dep_eq hr, oB]
  rw [wr (n := (l.list.length : Int) + 1) (by omega) (by omega), wr (by omega) (by omega), wr (by omega) (by omega)]
  simp; omega
 ·simp only [Tr.list, lA, List.length_cons]; omega
 ·simp only [Tr.hgt]; omega
theorem turnL {l r : Tr} {k : ByteArray} {v : TC} {s d : Int} (hl : l.WF) (hr : r.WF) (hn : r.list ≠ []) (hb : l.list.length + r.list.length < big) :
  ∃ t, tree_turnLeft.f (.node l r k v s d) = some t ∧ t.WF ∧ t.list = l.list ++ (k, v) :: r.list := by
 cases r with
 | nil => exact absurd rfl hn
 | node rl rr rk rv rs rd =>
  obtain ⟨h1, h2, _⟩ := hr
  simp only [Tr.list, lA, List.length_cons] at hb
  obtain ⟨a, ea, wa, la, _⟩ := node_eq (k := k) (v := v) hl h1 (by omega); obtain ⟨b, eb, wb, lb, _⟩ := node_eq (k := rk) (v := rv) wa h2 (by rw [la]; simp only [lA, List.length_cons]; omega); refine ⟨b, ?_, wb, ?_⟩
  ·simp only [tree_turnLeft.f, Tr.cs, ea, eb, oB]
  ·rw [lb, la]; simp [Tr.list]
theorem turnR {l r : Tr} {k : ByteArray} {v : TC} {s d : Int} (hl : l.WF) (hr : r.WF) (hn : l.list ≠ []) (hb : l.list.length + r.list.length < big) :
  ∃ t, tree_turnRight.f (.node l r k v s d) = some t ∧ t.WF ∧ t.list = l.list ++ (k, v) :: r.list := by
 cases l with
 | nil => exact absurd rfl hn
 | node rl rr rk rv rs rd =>
  obtain ⟨h1, h2, _⟩ := hl
  simp only [Tr.list, lA, List.length_cons] at hb
  obtain ⟨a, ea, wa, la, _⟩ := node_eq (k := k) (v := v) h2 hr (by omega); obtain ⟨b, eb, wb, lb, _⟩ := node_eq (k := rk) (v := rv) h1 wa (by rw [la]; simp only [lA, List.length_cons]; omega); refine ⟨b, ?_, wb, ?_⟩
  ·simp only [tree_turnRight.f, Tr.cs, ea, eb, oB]
  ·rw [lb, la]; simp [Tr.list]
theorem hgt_pos {t : Tr} (h : 0 < t.hgt) : t.list ≠ [] := by
 cases t with
 | nil => simp [Tr.hgt] at h
 | node l r k v s d => simp [Tr.list]
theorem join_eq : ∀ (n : Nat) (l r : Tr) (k : ByteArray) (v : TC), l.hgt + r.hgt < n → l.WF → r.WF → l.list.length + r.list.length + 1 < big →
  ∃ t, tree_join.f n l k v r = some t ∧ t.WF ∧ t.list = l.list ++ (k, v) :: r.list
 | 0, _, _, _, _, h, _, _, _ => absurd h (by omega)
 | n + 1, l, r, k, v, hn, hl, hr, hb => by
  have h1 := l.hgt_le; have h2 := r.hgt_le; have hb' := hb; unfold big at hb'
  simp only [tree_join.f, dep_eq hl, dep_eq hr, oB]
  rw [wr (n := (r.hgt : Int) + 1) (by omega) (by omega), wr (n := (l.hgt : Int) + 1) (by omega) (by omega)]
  by_cases c1 : (r.hgt : Int) + 1 < l.hgt
  ·rw [if_pos c1]
   cases l with
   | nil => simp [Tr.hgt] at c1; omega
   | node ll lr lk lv ls ld =>
    obtain ⟨wl, wr', _, _⟩ := hl
    simp only [Tr.hgt] at hn
    simp only [Tr.list, lA, List.length_cons] at hb
    obtain ⟨u, eu, wu, lu⟩ := join_eq n lr r k v (by omega) wr' hr (by omega)
    simp only [Tr.cs, eu, oB]
    have hul : u.list.length = lr.list.length + r.list.length + 1 := by rw [lu]; simp; omega
    cases u with
    | nil => simp [Tr.list] at lu
    | node ul ur uk uv us ud =>
     have wu' := wu; obtain ⟨wul, wur, hus, hud⟩ := wu
     simp only [dep_eq wl, dep_eq wul, dep_eq wur, oB]
     have h3 := ll.hgt_le; unfold big at hb; rw [wr (n := (ll.hgt : Int) + 1) (by omega) (by omega)]; have hull : ul.list.length + ur.list.length + 1 = lr.list.length + r.list.length + 1 := by rw [← hul]; simp [Tr.list]; omega
     split
     ·split
      ·rename_i c3
       obtain ⟨x, ex, wx, lx⟩ := turnR (k := uk) (v := uv) (s := us) (d := ud) wul wur (hgt_pos (by omega)) (by unfold big; omega); obtain ⟨y, ey, wy, ly, s', d', hy⟩ := node_eq (k := lk) (v := lv) wl wx (by rw [lx]; simp only [lA, List.length_cons]; unfold big; omega); subst hy; obtain ⟨z, ez, wz, lz⟩ := turnL (k := lk) (v := lv) (s := s') (d := d') wl wx (by rw [lx]; simp) (by rw [lx]; simp only [lA, List.length_cons]; unfold big; omega); refine ⟨z, by simp only [ex, ey, ez, oB], wz, ?_⟩; have e1 : x.list = lr.list ++ (k, v) :: r.list := by rw [lx, ← lu]; simp [Tr.list]
       rw [lz, e1]; simp [Tr.list]
      ·obtain ⟨y, ey, wy, ly, s', d', hy⟩ := node_eq (k := lk) (v := lv) wl wu' (by rw [hul]; unfold big; omega)
       subst hy; obtain ⟨z, ez, wz, lz⟩ := turnL (k := lk) (v := lv) (s := s') (d := d') wl wu' (by simp [Tr.list]) (by rw [hul]; unfold big; omega); refine ⟨z, by simp only [ey, ez, oB], wz, ?_⟩; rw [lz, lu]; simp [Tr.list]
     ·obtain ⟨y, ey, wy, ly, _⟩ := node_eq (k := lk) (v := lv) wl wu' (by rw [hul]; unfold big; omega)
      refine ⟨y, by simp only [ey, oB], wy, ?_⟩; rw [ly, lu]; simp [Tr.list]
  ·rw [if_neg c1]
   by_cases c2 : (l.hgt : Int) + 1 < r.hgt
   ·rw [if_pos c2]
    cases r with
    | nil => simp [Tr.hgt] at c2; omega
    | node rl rr rk rv rs rd =>
     obtain ⟨wl, wr', _, _⟩ := hr
     simp only [Tr.hgt] at hn
     simp only [Tr.list, lA, List.length_cons] at hb
     obtain ⟨u, eu, wu, lu⟩ := join_eq n l rl k v (by omega) hl wl (by omega)
     simp only [Tr.cs, eu, oB]
     have hul : u.list.length = l.list.length + rl.list.length + 1 := by rw [lu]; simp; omega
     cases u with
     | nil => simp [Tr.list] at lu
     | node ul ur uk uv us ud =>
      have wu' := wu; obtain ⟨wul, wur, hus, hud⟩ := wu
      simp only [dep_eq wr', dep_eq wul, dep_eq wur, oB]
      have h3 := rr.hgt_le; unfold big at hb; rw [wr (n := (rr.hgt : Int) + 1) (by omega) (by omega)]; have hull : ul.list.length + ur.list.length + 1 = l.list.length + rl.list.length + 1 := by rw [← hul]; simp [Tr.list]; omega
      split
      ·split
       ·rename_i c3
        obtain ⟨x, ex, wx, lx⟩ := turnL (k := uk) (v := uv) (s := us) (d := ud) wul wur (hgt_pos (by omega)) (by unfold big; omega); obtain ⟨y, ey, wy, ly, s', d', hy⟩ := node_eq (k := rk) (v := rv) wx wr' (by rw [lx]; simp only [lA, List.length_cons]; unfold big; omega); subst hy; obtain ⟨z, ez, wz, lz⟩ := turnR (k := rk) (v := rv) (s := s') (d := d') wx wr' (by rw [lx]; simp) (by rw [lx]; simp only [lA, List.length_cons]; unfold big; omega); refine ⟨z, by simp only [ex, ey, ez, oB], wz, ?_⟩; have e1 : x.list = l.list ++ (k, v) :: rl.list := by rw [lx, ← lu]; simp [Tr.list]
        rw [lz, e1]; simp [Tr.list]
       ·obtain ⟨y, ey, wy, ly, s', d', hy⟩ := node_eq (k := rk) (v := rv) wu' wr' (by rw [hul]; unfold big; omega)
        subst hy; obtain ⟨z, ez, wz, lz⟩ := turnR (k := rk) (v := rv) (s := s') (d := d') wu' wr' (by simp [Tr.list]) (by rw [hul]; unfold big; omega); refine ⟨z, by simp only [ey, ez, oB], wz, ?_⟩; rw [lz, lu]; simp [Tr.list]
      ·obtain ⟨y, ey, wy, ly, _⟩ := node_eq (k := rk) (v := rv) wu' wr' (by rw [hul]; unfold big; omega)
       refine ⟨y, by simp only [ey, oB], wy, ?_⟩; rw [ly, lu]; simp [Tr.list]
   ·rw [if_neg c2]
    obtain ⟨y, ey, wy, ly, _⟩ := node_eq (k := k) (v := v) hl hr (by omega); exact ⟨y, by simp only [ey, oB], wy, ly⟩
theorem last_eq : ∀ (n : Nat) (t : Tr), 2 * t.list.length < n → t.WF → t.list ≠ [] → t.list.length < big →
  ∃ u k v, tree_last.f n t = some (u, k, v) ∧ u.WF ∧ t.list = u.list ++ [(k, v)]
 | 0, _, h, _, _, _ => absurd h (by omega)
 | n + 1, t, hn, ht, hne, hb => by
  cases t with
  | nil => exact absurd rfl hne
  | node l r k v s d =>
   obtain ⟨wl, wr', _, _⟩ := ht
   simp only [Tr.list, lA, List.length_cons] at hn hb
   cases r with
   | nil => exact ⟨l, k, v, rfl, wl, by simp [Tr.list]⟩
   | node rl rr rk rv rs rd =>
    obtain ⟨u, k', v', e, wu, lu⟩ := last_eq n (.node rl rr rk rv rs rd) (by omega) wr' (by simp [Tr.list]) (by omega); have h1 := l.hgt_le; have h2 := u.hgt_le; have hlen : (Tr.node rl rr rk rv rs rd).list.length = u.list.length + 1 := by rw [lu]; simp
    obtain ⟨x, ex, wx, lx⟩ := join_eq n l u k v (by omega) wl wu (by omega); refine ⟨x, k', v', ?_, wx, ?_⟩
    ·simp only [tree_last.f, Tr.cs]
     rw [if_neg (by simp [Tr.isNil])]
     simp only [e, ex, oB]
    ·rw [lx]; show l.list ++ (k, v) :: (Tr.node rl rr rk rv rs rd).list = _; rw [lu]; simp
theorem both_eq (n : Nat) (l r : Tr) (hn : 2 * l.list.length + r.list.length + 1 < n) (hl : l.WF) (hr : r.WF) (hb : l.list.length + r.list.length < big) :
  ∃ t, tree_both.f n l r = some t ∧ t.WF ∧ t.list = l.list ++ r.list := by
 cases l with
 | nil => exact ⟨r, rfl, hr, rfl⟩
 | node ll lr lk lv ls ld =>
  obtain ⟨u, k, v, e, wu, lu⟩ := last_eq n (.node ll lr lk lv ls ld) (by omega) hl (by simp [Tr.list]) (by omega); have hlen : (Tr.node ll lr lk lv ls ld).list.length = u.list.length + 1 := by rw [lu]; simp
  have h1 := u.hgt_le; have h2 := r.hgt_le; obtain ⟨x, ex, wx, lx⟩ := join_eq n u r k v (by omega) wu hr (by omega); refine ⟨x, ?_, wx, ?_⟩
  ·unfold tree_both.f
   rw [if_neg (by simp [Tr.isNil])]
   simp only [e, ex, oB]
  ·rw [lx, lu]; simp
def lt (a b : ByteArray) : Bool := Op.bytesLess a.toList b.toList
theorem nan_eq (a : ByteArray) : cmp_isNaN.f a = some false := by simp [cmp_isNaN.f]
theorem less_eq (a b : ByteArray) : cmp_Less.f a b = some (lt a b) := by
 simp only [cmp_Less.f, nan_eq, oB]
 rw [if_neg (by simp)]; rfl
theorem compare_eq (a b : ByteArray) : cmp_Compare.f a b = some (if lt a b = true then -1 else if (a.toList == b.toList) = true then 0 else 1) := by
 simp only [cmp_Compare.f, nan_eq, oB]
 rw [if_neg (by simp), if_neg (by simp)]; unfold lt
 split
 ·rfl
 ·rename_i h
  simp [h]
  split <;> rfl
theorem bl_irr : ∀ x : List UInt8, Op.bytesLess x x = false
 | [] => rfl
 | a :: x => by simp [Op.bytesLess, bl_irr x]
theorem bl_tri : ∀ x y : List UInt8, Op.bytesLess x y = false → Op.bytesLess y x = false → x = y
 | [], [], _, _ => rfl
 | [], _ :: _, h, _ => by simp [Op.bytesLess] at h
 | _ :: _, [], _, h => by simp [Op.bytesLess] at h
 | a :: x, b :: y, h1, h2 => by
  simp only [Op.bytesLess, Bool.or_eq_false_iff, Bool.and_eq_false_iff, decide_eq_false_iff_not, beq_eq_false_iff_ne] at h1 h2
  have hab : a = b := by
   have g1 := h1.1; have g2 := h2.1
   simp only [UInt8.lt_iff_toNat_lt] at g1 g2
   exact UInt8.toNat_inj.1 (by omega)
  subst hab; have e1 := h1.2.resolve_left (fun q => q rfl); have e2 := h2.2.resolve_left (fun q => q rfl); rw [bl_tri x y e1 e2]
theorem bl_tr : ∀ x y z : List UInt8, Op.bytesLess x y = true → Op.bytesLess y z = true → Op.bytesLess x z = true
 | x, [], [], _, h => by simp [Op.bytesLess] at h
 | x, b :: y, [], _, h => by simp [Op.bytesLess] at h
 | [], [], c :: z, h, _ => by simp [Op.bytesLess] at h
 | a :: x, [], c :: z, h, _ => by simp [Op.bytesLess] at h
 | [], b :: y, c :: z, _, _ => rfl
 | a :: x, b :: y, c :: z, h1, h2 => by
  simp only [Op.bytesLess, Bool.or_eq_true, Bool.and_eq_true, decide_eq_true_eq, beq_iff_eq] at h1 h2 ⊢
  simp only [UInt8.lt_iff_toNat_lt] at h1 h2 ⊢
  rcases h1 with h1 | ⟨rfl, h1⟩
  ·rcases h2 with h2 | ⟨rfl, h2⟩
   ·left; omega
   ·left; exact h1
  ·rcases h2 with h2 | ⟨rfl, h2⟩
   ·left; exact h2
   ·right; exact ⟨rfl, bl_tr x y z h1 h2⟩
theorem toList_inj {a b : ByteArray} (h : a.toList = b.toList) : a = b := by
 rw [ByteArray.toList_eq, ByteArray.toList_eq] at h
 cases a; cases b
 simp only [ByteArray.mk.injEq]
 exact Array.toList_inj.1 h
theorem lt_irr (a : ByteArray) : lt a a = false := bl_irr _
theorem lt_tr {a b c : ByteArray} (h1 : lt a b = true) (h2 : lt b c = true) : lt a c = true := bl_tr _ _ _ h1 h2
theorem lt_tri {a b : ByteArray} (h1 : lt a b = false) (h2 : lt b a = false) : a = b := toList_inj (bl_tri _ _ h1 h2)
def Ord (L : List Ent) : Prop := L.Pairwise fun x y => lt x.1 y.1 = true
def ins (k : ByteArray) (v : TC) : List Ent → List Ent
 | [] => [(k, v)]
 | (a, x) :: L => if lt k a = true then (k, v) :: (a, x) :: L else if lt a k = true then (a, x) :: ins k v L else (k, v) :: L
def del (k : ByteArray) : List Ent → List Ent
 | [] => []
 | (a, x) :: L => if lt k a = true then (a, x) :: L else if lt a k = true then (a, x) :: del k L else L
def look (k : ByteArray) : List Ent → Option TC
 | [] => none
 | (a, x) :: L => if lt k a = true then none else if lt a k = true then look k L else some x
theorem Ord.split {A B : List Ent} {x : Ent} (h : Ord (A ++ x :: B)) : Ord A ∧ Ord B ∧ (∀ y ∈ A, lt y.1 x.1 = true) ∧ (∀ y ∈ B, lt x.1 y.1 = true) := by
 unfold Ord at h ⊢; rw [List.pairwise_append] at h; obtain ⟨h1, h2, h3⟩ := h; rw [List.pairwise_cons] at h2; exact ⟨h1, h2.2, fun y hy => h3 y hy x (by simp), h2.1⟩
theorem lt_asym {a b : ByteArray} (h : lt a b = true) : lt b a = false := by
 cases hb : lt b a with
 | false => rfl
 | true => have := lt_tr h hb; rw [lt_irr] at this; cases this
theorem ins_left {k : ByteArray} {v : TC} {x : Ent} {B : List Ent} (hk : lt k x.1 = true) : ∀ A : List Ent, ins k v (A ++ x :: B) = ins k v A ++ x :: B
 | [] => by simp [ins, hk]
 | (a, y) :: A => by
  simp only [List.cons_append, ins]
  split
  ·rfl
  ·split
   ·rw [ins_left hk A]; rfl
   ·rfl
theorem ins_right {k : ByteArray} {v : TC} {x : Ent} {B : List Ent} (hk : lt x.1 k = true) : ∀ A : List Ent, (∀ y ∈ A, lt y.1 x.1 = true) → ins k v (A ++ x :: B) = A ++ x :: ins k v B
 | [], _ => by simp [ins, hk, lt_asym hk]
 | (a, y) :: A, h => by
  have h1 : lt a k = true := lt_tr (h (a, y) (by simp)) hk
  simp only [List.cons_append, ins, h1, lt_asym h1]
  rw [ins_right hk A (fun y hy => h y (by simp [hy]))]
  simp
theorem ins_here {k : ByteArray} {v y : TC} {B : List Ent} : ∀ A : List Ent, (∀ y ∈ A, lt y.1 k = true) → ins k v (A ++ (k, y) :: B) = A ++ (k, v) :: B
 | [], _ => by simp [ins, lt_irr]
 | (a, y) :: A, h => by
  have h1 : lt a k = true := h (a, y) (by simp)
  simp only [List.cons_append, ins, h1, lt_asym h1]
  rw [ins_here A (fun y hy => h y (by simp [hy]))]
  simp
theorem ins_len (k : ByteArray) (v : TC) : ∀ L : List Ent, (ins k v L).length ≤ L.length + 1
 | [] => by simp [ins]
 | (a, x) :: L => by
  have := ins_len k v L
  simp only [ins]
  split
  ·simp
  ·split <;> simp <;> omega
theorem put_eq : ∀ (n : Nat) (t : Tr) (k : ByteArray) (v : TC), 2 * t.list.length + 3 < n → t.WF → Ord t.list → t.list.length + 1 < big →
  ∃ u, t_Put.f n t k v = some u ∧ u.WF ∧ u.list = ins k v t.list
 | 0, _, _, _, h, _, _, _ => absurd h (by omega)
 | n + 1, t, k, v, hn, ht, ho, hb => by
  cases t with
  | nil =>
   obtain ⟨u, eu, wu, lu, _⟩ := node_eq (l := .nil) (r := .nil) (k := k) (v := v) trivial trivial (by simp [Tr.list, big]); refine ⟨u, ?_, wu, by rw [lu]; rfl⟩
   simp only [t_Put.f, eu, oB]
   rw [if_pos (by rfl)]
  | node l r a x s d =>
   obtain ⟨wl, wr', _, _⟩ := ht; obtain ⟨ol, or', hA, hB⟩ := Ord.split (show Ord (l.list ++ (a, x) :: r.list) from ho)
   simp only [Tr.list, lA, List.length_cons] at hn hb
   simp only [t_Put.f, Tr.cs, compare_eq, oB]
   rw [if_neg (by simp [Tr.isNil])]
   cases h1 : lt k a with
   | true =>
    obtain ⟨u, eu, wu, lu⟩ := put_eq n l k v (by omega) wl ol (by omega); have hu := ins_len k v l.list; rw [← lu] at hu; have g1 := u.hgt_le; have g2 := r.hgt_le; obtain ⟨z, ez, wz, lz⟩ := join_eq n u r a x (by omega) wu wr' (by omega); refine ⟨z, ?_, wz, ?_⟩
    ·simp [eu, ez]
    ·rw [lz, lu]; exact (ins_left (x := (a, x)) h1 l.list).symm
   | false =>
    cases h2 : lt a k with
    | true =>
     have hne : (k.toList == a.toList) = false := by
      cases q : (k.toList == a.toList) with
      | false => rfl
      | true => have := toList_inj (eq_of_beq q); subst this; rw [lt_irr] at h2; cases h2
     obtain ⟨u, eu, wu, lu⟩ := put_eq n r k v (by omega) wr' or' (by omega); have hu := ins_len k v r.list; rw [← lu] at hu; have g1 := u.hgt_le; have g2 := l.hgt_le; obtain ⟨z, ez, wz, lz⟩ := join_eq n l u a x (by omega) wl wu (by omega); refine ⟨z, ?_, wz, ?_⟩
     ·simp [hne, eu, ez]
     ·rw [lz, lu]; exact (ins_right (x := (a, x)) h2 l.list hA).symm
    | false =>
     have he := lt_tri h1 h2; subst he; obtain ⟨z, ez, wz, lz, _⟩ := node_eq (k := k) (v := v) wl wr' (by omega); refine ⟨z, ?_, wz, ?_⟩
     ·simp [ez]
     ·rw [lz]; exact (ins_here l.list hA).symm
theorem keq {a b : ByteArray} : (a.toList == b.toList) = decide (a = b) := by
 by_cases h : a = b
 ·subst h; simp
 ·rw [dz h]
  cases q : (a.toList == b.toList) with
  | false => rfl
  | true => exact absurd (toList_inj (eq_of_beq q)) h
theorem mem_ins {k : ByteArray} {v : TC} {y : Ent} : ∀ L : List Ent, y ∈ ins k v L → y = (k, v) ∨ y ∈ L
 | [], h => by simp only [ins, List.mem_singleton] at h; exact Or.inl h
 | (a, x) :: L, h => by
  simp only [ins] at h
  split at h
  ·simp only [List.mem_cons] at h ⊢; exact h
  ·split at h
   ·simp only [List.mem_cons] at h ⊢
    rcases h with h | h
    ·exact Or.inr (Or.inl h)
    ·rcases mem_ins L h with h | h
     ·exact Or.inl h
     ·exact Or.inr (Or.inr h)
   ·simp only [List.mem_cons] at h ⊢
    rcases h with h | h
    ·exact Or.inl h
    ·exact Or.inr (Or.inr h)
theorem mem_del {k : ByteArray} {y : Ent} : ∀ L : List Ent, y ∈ del k L → y ∈ L
 | [], h => by simp [del] at h
 | (a, x) :: L, h => by
  simp only [del] at h
  split at h
  ·exact h
  ·split at h
   ·simp only [List.mem_cons] at h ⊢
    rcases h with h | h
    ·exact Or.inl h
    ·exact Or.inr (mem_del L h)
   ·exact List.mem_cons_of_mem _ h
theorem ins_ord {k : ByteArray} {v : TC} : ∀ L : List Ent, Ord L → Ord (ins k v L)
 | [], _ => by simp [ins, Ord]
 | (a, x) :: L, h => by
  have h' := h; unfold Ord at h'; rw [List.pairwise_cons] at h'
  simp only [ins]
  split
  ·rename_i c
   unfold Ord; rw [List.pairwise_cons]; refine ⟨?_, h⟩; intro y hy
   rcases List.mem_cons.1 hy with rfl | hy
   ·exact c
   ·exact lt_tr c (h'.1 y hy)
  ·split
   ·rename_i c1 c
    unfold Ord; rw [List.pairwise_cons]; refine ⟨?_, ins_ord L h'.2⟩; intro y hy
    rcases mem_ins L hy with rfl | hy
    ·exact c
    ·exact h'.1 y hy
   ·rename_i c1 c2
    have he : k = a := lt_tri (by simpa using c1) (by simpa using c2); subst he; unfold Ord; rw [List.pairwise_cons]; exact ⟨h'.1, h'.2⟩
theorem del_ord {k : ByteArray} : ∀ L : List Ent, Ord L → Ord (del k L)
 | [], _ => by simp [del, Ord]
 | (a, x) :: L, h => by
  have h' := h; unfold Ord at h'; rw [List.pairwise_cons] at h'
  simp only [del]
  split
  ·exact h
  ·split
   ·unfold Ord
    rw [List.pairwise_cons]; exact ⟨fun y hy => h'.1 y (mem_del L hy), del_ord L h'.2⟩
   ·exact h'.2
theorem del_left {k : ByteArray} {x : Ent} {B : List Ent} (hk : lt k x.1 = true) : ∀ A : List Ent, del k (A ++ x :: B) = del k A ++ x :: B
 | [] => by simp [del, hk]
 | (a, y) :: A => by
  simp only [List.cons_append, del]
  split
  ·rfl
  ·split
   ·rw [del_left hk A]; rfl
   ·rfl
theorem del_right {k : ByteArray} {x : Ent} {B : List Ent} (hk : lt x.1 k = true) : ∀ A : List Ent, (∀ y ∈ A, lt y.1 x.1 = true) → del k (A ++ x :: B) = A ++ x :: del k B
 | [], _ => by simp [del, hk, lt_asym hk]
 | (a, y) :: A, h => by
  have h1 : lt a k = true := lt_tr (h (a, y) (by simp)) hk
  simp only [List.cons_append, del, h1, lt_asym h1]
  rw [del_right hk A (fun y hy => h y (by simp [hy]))]
  simp
theorem del_here {k : ByteArray} {y : TC} {B : List Ent} : ∀ A : List Ent, (∀ y ∈ A, lt y.1 k = true) → del k (A ++ (k, y) :: B) = A ++ B
 | [], _ => by simp [del, lt_irr]
 | (a, y) :: A, h => by
  have h1 : lt a k = true := h (a, y) (by simp)
  simp only [List.cons_append, del, h1, lt_asym h1]
  rw [del_here A (fun y hy => h y (by simp [hy]))]
  simp
theorem del_len (k : ByteArray) : ∀ L : List Ent, (del k L).length ≤ L.length
 | [] => by simp [del]
 | (a, x) :: L => by
  have := del_len k L
  simp only [del]
  split
  ·simp
  ·split <;> simp <;> omega
theorem look_left {k : ByteArray} {x : Ent} {B : List Ent} (hk : lt k x.1 = true) : ∀ A : List Ent, look k (A ++ x :: B) = look k A
 | [] => by simp [look, hk]
 | (a, y) :: A => by
  simp only [List.cons_append, look]
  rw [look_left hk A]
theorem look_right {k : ByteArray} {x : Ent} {B : List Ent} (hk : lt x.1 k = true) : ∀ A : List Ent, (∀ y ∈ A, lt y.1 x.1 = true) → look k (A ++ x :: B) = look k B
 | [], _ => by simp [look, hk, lt_asym hk]
 | (a, y) :: A, h => by
  have h1 : lt a k = true := lt_tr (h (a, y) (by simp)) hk
  simp only [List.cons_append, look, h1, lt_asym h1]
  rw [look_right hk A (fun y hy => h y (by simp [hy]))]
  simp
theorem look_here {k : ByteArray} {y : TC} {B : List Ent} : ∀ A : List Ent, (∀ y ∈ A, lt y.1 k = true) → look k (A ++ (k, y) :: B) = some y
 | [], _ => by simp [look, lt_irr]
 | (a, y) :: A, h => by
  have h1 : lt a k = true := h (a, y) (by simp)
  simp only [List.cons_append, look, h1, lt_asym h1]
  rw [look_here A (fun y hy => h y (by simp [hy]))]
  simp
theorem del_none {k : ByteArray} : ∀ L : List Ent, look k L = none → del k L = L
 | [], _ => rfl
 | (a, x) :: L, h => by
  simp only [look] at h
  simp only [del]
  split
  ·rfl
  ·rename_i c1
   rw [if_neg c1] at h
   split
   ·rename_i c2; rw [if_pos c2] at h; rw [del_none L h]
   ·rename_i c2; rw [if_neg c2] at h; cases h
theorem look_mem {k : ByteArray} {x : TC} : ∀ L : List Ent, look k L = some x → (k, x) ∈ L
 | [], h => by simp [look] at h
 | (a, y) :: L, h => by
  simp only [look] at h
  split at h
  ·cases h
  ·split at h
   ·exact List.mem_cons_of_mem _ (look_mem L h)
   ·rename_i c1 c2
    have he : k = a := lt_tri (by simpa using c1) (by simpa using c2); subst he
    cases h
    simp
theorem keqb {k a : ByteArray} (h : lt a k = true) : (k.toList == a.toList) = false := by
 cases q : (k.toList == a.toList) with
 | false => rfl
 | true => have := toList_inj (eq_of_beq q); subst this; rw [lt_irr] at h; cases h
theorem delete_eq : ∀ (n : Nat) (t : Tr) (k : ByteArray), 4 * t.list.length + 3 < n → t.WF → Ord t.list → t.list.length + 1 < big →
  ∃ u, t_Delete.f n t k = some (u, (look k t.list).isSome) ∧ u.WF ∧ u.list = del k t.list
 | 0, _, _, h, _, _, _ => absurd h (by omega)
 | n + 1, t, k, hn, ht, ho, hb => by
  cases t with
  | nil => exact ⟨.nil, rfl, trivial, rfl⟩
  | node l r a x s d =>
   have ht' := ht; obtain ⟨wl, wr', _, _⟩ := ht; obtain ⟨ol, or', hA, hB⟩ := Ord.split (show Ord (l.list ++ (a, x) :: r.list) from ho)
   simp only [Tr.list, lA, List.length_cons] at hn hb
   simp only [t_Delete.f, Tr.cs, compare_eq, oB]
   rw [if_neg (by simp [Tr.isNil])]
   cases h1 : lt k a with
   | true =>
    obtain ⟨u, eu, wu, lu⟩ := delete_eq n l k (by omega) wl ol (by omega); have hl : look k (l.list ++ (a, x) :: r.list) = look k l.list := look_left (x := (a, x)) h1 l.list; have hd : del k (l.list ++ (a, x) :: r.list) = del k l.list ++ (a, x) :: r.list := del_left (x := (a, x)) h1 l.list
    show ∃ u : Tr, _ = some (u, (look k (l.list ++ (a, x) :: r.list)).isSome) ∧ u.WF ∧ u.list = del k (l.list ++ (a, x) :: r.list)
    rw [hl, hd]
    cases hs : (look k l.list).isSome with
    | false =>
     rw [hs] at eu; refine ⟨_, ?_, ht', ?_⟩
     ·simp [eu]
     ·rw [del_none l.list (by simpa using hs)]; rfl
    | true =>
     rw [hs] at eu; have hu := del_len k l.list; rw [← lu] at hu; have g1 := u.hgt_le; have g2 := r.hgt_le; obtain ⟨z, ez, wz, lz⟩ := join_eq n u r a x (by omega) wu wr' (by omega); refine ⟨z, ?_, wz, ?_⟩
     ·simp [eu, ez]
     ·rw [lz, lu]
   | false =>
    cases h2 : lt a k with
    | true =>
     obtain ⟨u, eu, wu, lu⟩ := delete_eq n r k (by omega) wr' or' (by omega); have hl : look k (l.list ++ (a, x) :: r.list) = look k r.list := look_right (x := (a, x)) h2 l.list hA; have hd : del k (l.list ++ (a, x) :: r.list) = l.list ++ (a, x) :: del k r.list := del_right (x := (a, x)) h2 l.list hA
     show ∃ u : Tr, _ = some (u, (look k (l.list ++ (a, x) :: r.list)).isSome) ∧ u.WF ∧ u.list = del k (l.list ++ (a, x) :: r.list)
     rw [hl, hd]
     cases hs : (look k r.list).isSome with
     | false =>
      rw [hs] at eu; refine ⟨_, ?_, ht', ?_⟩
      ·simp [keqb h2, eu]
      ·rw [del_none r.list (by simpa using hs)]; rfl
     | true =>
      rw [hs] at eu; have hu := del_len k r.list; rw [← lu] at hu; have g1 := u.hgt_le; have g2 := l.hgt_le; obtain ⟨z, ez, wz, lz⟩ := join_eq n l u a x (by omega) wl wu (by omega); refine ⟨z, ?_, wz, ?_⟩
      ·simp [keqb h2, eu, ez]
      ·rw [lz, lu]
    | false =>
     have he := lt_tri h1 h2; subst he; obtain ⟨z, ez, wz, lz⟩ := both_eq n l r (by omega) wl wr' (by omega); refine ⟨z, ?_, wz, ?_⟩
     ·show _ = some (z, (look k (l.list ++ (k, x) :: r.list)).isSome)
      rw [look_here l.list hA]; simp [ez]
     ·rw [lz]; exact (del_here l.list hA).symm
theorem loop_next {S X : Type} {f : S → Option (Ctl S X)} {n : Nat} {s s' : S} (h : f s = some (.next s')) : loop f (n + 1) s = loop f n s' := by
 show (f s).bind _ = _; rw [h]; rfl
theorem loop_done {S X : Type} {f : S → Option (Ctl S X)} {n : Nat} {s : S} {x : X} (h : f s = some (.done x)) : loop f (n + 1) s = some x := by
 show (f s).bind _ = _; rw [h]; rfl
def gotQ (o : Option TC) : TC × Bool := match o with
 | some x => (x, true)
 | none => (TC.mk [] 0, false)
theorem get_eq : ∀ (n : Nat) (t : Tr) (k : ByteArray), t.hgt < n → Ord t.list →
  t_Get.f n t k = some (gotQ (look k t.list)) := by
 have key : ∀ (n : Nat) (t : Tr) (k : ByteArray), t.hgt < n → Ord t.list →
  loop (t_Get.b1 k) n t = some ((look k t.list).elim (Sum.inl ()) fun x => Sum.inr (x, true)) := by
  intro n
  induction n with
  | zero => intro t k h; omega
  | succ n ih =>
   intro t k hn ho
   cases t with
   | nil => rfl
   | node l r a x s d =>
    obtain ⟨ol, or', hA, hB⟩ := Ord.split (show Ord (l.list ++ (a, x) :: r.list) from ho)
    simp only [Tr.hgt] at hn
    simp only [Tr.list]
    cases h1 : lt k a with
    | true =>
     rw [look_left (x := (a, x)) h1 l.list, loop_next (s' := l)]
     ·exact ih l k (by omega) ol
     ·unfold t_Get.b1
      rw [if_neg (by simp [Tr.isNil])]
      simp [Tr.cs, compare_eq, h1]
    | false =>
     cases h2 : lt a k with
     | true =>
      rw [look_right (x := (a, x)) h2 l.list hA, loop_next (s' := r)]
      ·exact ih r k (by omega) or'
      ·unfold t_Get.b1
       rw [if_neg (by simp [Tr.isNil])]
       simp [Tr.cs, compare_eq, h1, keqb h2]
     | false =>
      have he := lt_tri h1 h2; subst he; rw [look_here l.list hA, loop_done (x := Sum.inr (x, true))]
      ·rfl
      ·unfold t_Get.b1
       rw [if_neg (by simp [Tr.isNil])]
       simp [Tr.cs, compare_eq, h1]
 intro n t k hn ho; unfold t_Get.f
 show (loop (t_Get.b1 k) n t).bind _ = _
 rw [key n t k hn ho]
 cases look k t.list <;> rfl
section
variable {σ X : Type} (g : σ → ByteArray → TC → Option (Ctl σ X))
def foldC : List Ent → σ → Option (Ctl σ X)
 | [], s => some (.next s)
 | (k, v) :: L, s => thenC (g s k v) fun s => foldC L s
theorem thenC_assoc (y : Option (Ctl σ X)) (f h : σ → Option (Ctl σ X)) : thenC (thenC y f) h = thenC y fun s => thenC (f s) h := by
 cases y with
 | none => rfl
 | some c => cases c <;> rfl
theorem foldC_app : ∀ (A B : List Ent) (s : σ), foldC g (A ++ B) s = thenC (foldC g A s) fun s => foldC g B s
 | [], B, s => rfl
 | (k, v) :: A, B, s => by
  show thenC (g s k v) (fun s => foldC g (A ++ B) s) = thenC (thenC (g s k v) fun s => foldC g A s) fun s => foldC g B s
  rw [thenC_assoc]
  congr 1; funext s; exact foldC_app A B s
theorem up_eq : ∀ (t : Tr) (s : σ), Tr.up g t s = foldC g t.list s
 | .nil, s => rfl
 | .node l r k v _ _, s => by
  show thenC (Tr.up g l s) _ = foldC g (l.list ++ (k, v) :: r.list) s
  rw [foldC_app, up_eq l s]
  congr 1; funext s'
  show thenC _ _ = thenC _ _
  congr 1; funext s''; exact up_eq r s''
def above (key : ByteArray) (L : List Ent) : List Ent := L.filter fun e => !lt e.1 key
theorem from_eq (key : ByteArray) : ∀ (t : Tr) (s : σ), Ord t.list → Tr.from key g t s = foldC g (above key t.list) s
 | .nil, s, _ => rfl
 | .node l r k v _ _, s, ho => by
  obtain ⟨ol, or', hA, hB⟩ := Ord.split (show Ord (l.list ++ (k, v) :: r.list) from ho)
  show (cmp_Less.f k key).bind _ = foldC g (above key (l.list ++ (k, v) :: r.list)) s
  rw [less_eq, oB]; unfold above; rw [List.filter_append]
  cases h : lt k key with
  | true =>
   rw [if_pos rfl, from_eq key r s or']; have e1 : l.list.filter (fun e => !lt e.1 key) = [] := by
    rw [List.filter_eq_nil_iff]; intro a ha
    simp [lt_tr (hA a ha) h]
   rw [e1, List.filter_cons, if_neg (by simp [h])]
   rfl
  | false =>
   rw [if_neg (by simp), List.filter_cons, if_pos (by simp [h])]; have e2 : r.list.filter (fun e => !lt e.1 key) = r.list := by
    rw [List.filter_eq_self]; intro a ha; have := hB a ha
    simp only [Bool.not_eq_true']
    cases q : lt a.1 key with
    | false => rfl
    | true => rw [lt_tr this q] at h; cases h
   rw [e2, foldC_app, from_eq key l s ol]
   congr 1; funext s'
   show thenC _ _ = thenC _ _
   congr 1; funext s''; exact up_eq g r s''
end
def seekQ (L : List Ent) : ByteArray × TC × Bool := match L with
 | [] => (.empty, TC.mk [] 0, false)
 | (k, v) :: _ => (k, v, true)
theorem seek_eq (t : Tr) (key : ByteArray) (ho : Ord t.list) :
  t_Seek.f t key = some (seekQ (above key t.list)) := by
 unfold t_Seek.f
 show (some (It.from t key)).bind _ = _
 rw [oB]
 show (Tr.from key _ t ()).bind _ = _
 rw [from_eq _ key t () ho]
 cases above key t.list with
 | nil => rfl
 | cons e L => rfl
end Go.Proofs.YtcolmmjcdlmcoaaGreat.G