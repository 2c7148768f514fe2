/- The row of 'ShardMoves', its '..UptoSaid': whatever the input of bulk at most 1048576, the law returns true and the input reads as it did; its condition: that bulk. -/
import Derived.Test.YthankpjbfpcldaaGreatHShardMovesA
import Derived.Test.YthankpjbfpcldaaGreatRows
import Derived.Deep.Slices
import Derived.ChangeArms
import Derived.Test.YthankpjbfpcldaaGreatHShardMovesB
import Derived.KernelRfl
import Derived.Laws.OwnMore
import Derived.Laws.Strings
import Derived.Test.YthankpjbfpcldaaGreatHShardMovesE
import Derived.WalkKit
import Derived.ProofKit
import Derived.OpenShut
import Derived.JoinedCond
import Derived.Below
import Derived.ChangeOld
namespace Go.Proofs.YthankpjbfpcldaaGreat.G
open Go Go.ChangeShapes Go.WideShapes
set_option linter.unusedVariables false
set_option linter.unusedSimpArgs false
theorem bulk_one {H : Type} (d : DataW H) : 1 ≤ Rows.uptoBulk d := by
 cases d with
 | lit l => cases l <;> simp [Rows.uptoBulk]
 | nil => simp [Rows.uptoBulk]
 | ptr d => simp [Rows.uptoBulk]
 | slice elems spare => simp [Rows.uptoBulk]
 | agg parts => simp [Rows.uptoBulk]
 | iface t d => simp [Rows.uptoBulk]
 | map entries => simp [Rows.uptoBulk]
 | held h => simp [Rows.uptoBulk]
theorem bulk_slice {H : Type} (elems spare : List (DataW H)) : Rows.uptoBulkAll elems + 1 ≤ Rows.uptoBulk (.slice elems spare) := by
 simp only [Rows.uptoBulk]
 omega
theorem bulk_agg {H : Type} (parts : List (DataW H)) : Rows.uptoBulkAll parts + 1 ≤ Rows.uptoBulk (.agg parts) := by
 simp only [Rows.uptoBulk]
 omega
theorem bulk_all {H : Type} : ∀ l : List (DataW H), Rows.uptoBulkAll l = (l.map Rows.uptoBulk).sum
 | [] => by simp [Rows.uptoBulkAll]
 | d :: l => by simp [Rows.uptoBulkAll, bulk_all l]
def c0 : Nat → Nat := fun _ => 0
def Opens {α : Type} (P : Program) (w : World) (t : TypeId) (e : K α) (wt : α → Nat) (ok : α → Prop) : Prop :=
 ∀ (H : Type) (enc : TypeId × Value → H) (fuel : Nat) (cs : List Value) (x : DataW H × List MemPlace), DataW.trod enc P w 0 (fun _ => true) true fuel t cs = some x → ∃ y, e.rep 0 c0 w cs y ∧ wt y ≤ Rows.uptoBulk x.1 ∧ ok y
section
variable {α : Type} {P : Program} {w : World} {t u : TypeId} {e : K α} {wt : α → Nat} {ok : α → Prop}
theorem opens_int {k : IntKind} (ht : P.underlying t = some (.int k)) : Opens P w t (Kint k) (fun _ => 1) (fun n => (Lit.int k n).wf = true) := by
 intro H enc fuel cs x h; obtain ⟨n, rfl, rfl, hw⟩ := DataW.trod_int ht h; exact ⟨n, rfl, bulk_one _, hw⟩
theorem at_cell {p : Addr} {v : Value} (h : w.cell? p = some v) : p = ⟨p.block, p.off, none⟩ ∧ ∃ cur ty fz, w.heap[p.block]? = some (.cells cur ty fz) ∧ cur[p.off]? = some v := by
 obtain ⟨b, off, spot⟩ := p
 simp only [World.cell?] at h
 split at h
 ·rename_i c ty fz hb
  cases spot with
  | some s => simp at h
  | none => exact ⟨rfl, c, ty, fz, hb, by simpa using h⟩
 ·cases h
theorem at_cells {p : Addr} {n : Nat} {cs : List Value} (hn : cs.length = n) (hp : 0 < n) (h : ∀ i, i < n → w.cell? (p.add i) = cs[i]?) : AT false 0 c0 w p cs := by
 have h0 := h 0 hp; have e0 : p.add 0 = p := by simp [Addr.add]
 rw [e0, List.getElem?_eq_getElem (by omega)] at h0; obtain ⟨ep, cur, ty, fz, hb, hc⟩ := at_cell h0; refine ⟨p.block, p.off, cur, ty, fz, ep, hb, rfl, fun k hk => ?_, fun q => by cases q⟩; have hk' := h k (by omega); rw [ep, add_eq] at hk'
 simp only [World.cell?, hb] at hk'
 simpa using hk'
theorem sum_le {β γ : Type} (f : β → Nat) (g : γ → Nat) : ∀ (l : List β) (m : List γ), l.length = m.length → (∀ i (h : i < l.length) (h' : i < m.length), f l[i] ≤ g m[i]) → (l.map f).sum ≤ (m.map g).sum
 | [], [], _, _ => Nat.le_refl _
 | [], _ :: _, h, _ => by simp at h
 | _ :: _, [], h, _ => by simp at h
 | a :: l, b :: m, h, hh => by
  simp only [List.map_cons, List.sum_cons]
  have h0 := hh 0 (by simp) (by simp)
  simp only [List.getElem_cons_zero] at h0
  have := sum_le f g l m (by simpa using h) (fun i h1 h2 => by
   have := hh (i + 1) (by simp; omega) (by simp; omega)
   simpa using this)
  omega
theorem open_sl [Inhabited α] (ht : P.underlying t = some (.slice u)) (hc : P.cellsOf u = e.sz) (hu : Opens P w u e wt ok) {H : Type} {enc : TypeId × Value → H} {fuel : Nat} {cs : List Value} {x : DataW H × List MemPlace}
  (h : DataW.trod enc P w 0 (fun _ => true) true fuel t cs = some x) :
  ∃ A cap xs, cs = [.slice A xs.length cap] ∧ SL false e 0 0 c0 w A cap xs ∧ (xs.map wt).sum + 1 ≤ Rows.uptoBulk x.1 ∧ ∀ y ∈ xs, ok y := by
 rcases Deep.open_slice ht h with ⟨rfl, rfl⟩ | ⟨a, len, cap, m, n, D, Pl, rfl, _, hl, hm, hmm, rfl, hx⟩
 ·exact ⟨none, 0, [], rfl, SL.nil, by simp [Rows.uptoBulk], fun y hy => by cases hy⟩
 simp only [if_true] at hmm
 subst hmm; have hp := e.pos; rw [hc] at hx; have each : ∀ i, i < m → ∃ y : List Value × α, (y.1.length = e.sz ∧ ∀ k, k < e.sz → w.cell? ((a.add (i * e.sz)).add k) = y.1[k]?) ∧ e.rep 0 c0 w y.1 y.2 ∧ wt y.2 ≤ Rows.uptoBulk (D i) ∧ ok y.2 := by
  intro i hi; obtain ⟨cs', h1, h2⟩ := hx i hi; obtain ⟨_, g1, g2⟩ := World.cells?_some h1; obtain ⟨y, g3, g4, g5⟩ := hu H enc n cs' _ h2; exact ⟨(cs', y), ⟨g1, g2⟩, g3, g4, g5⟩
 obtain ⟨y, hy⟩ := Deep.choose_lt each
 let V : Nat → Value := fun q => (y (q / e.sz)).1.getD (q % e.sz) default
 have hV : ∀ i k, k < e.sz → V (i * e.sz + k) = (y i).1.getD k default := by
  intro i k hk
  show (y ((i * e.sz + k) / e.sz)).1.getD ((i * e.sz + k) % e.sz) default = _
  rw [Nat.mul_comm, Nat.mul_add_div hp, Nat.div_eq_of_lt hk, Nat.add_zero, Nat.mul_add_mod, Nat.mod_eq_of_lt hk]
 let cs := (List.range (m * e.sz)).map V
 have hcs : cs.length = m * e.sz := by simp [cs]
 have hcell : ∀ q, q < m * e.sz → w.cell? (a.add q) = cs[q]? := by
  intro q hq; have hi : q / e.sz < m := (Nat.div_lt_iff_lt_mul hp).2 hq; have hk : q % e.sz < e.sz := Nat.mod_lt _ hp; obtain ⟨⟨g1, g2⟩, _⟩ := hy _ hi; have g := g2 _ hk; have e1 : (a.add (q / e.sz * e.sz)).add (q % e.sz) = a.add q := by
   have e2 : q / e.sz * e.sz + q % e.sz = q := Nat.div_add_mod' q e.sz; obtain ⟨b, off, s⟩ := a
   simp only [Addr.add]
   split <;> split <;> split <;> simp_all <;> omega
  rw [e1] at g; rw [g]
  simp only [cs, List.getElem?_map, List.getElem?_range hq, Option.map_some]
  show _ = some ((y (q / e.sz)).1.getD (q % e.sz) default)
  rw [List.getD_eq_getElem?_getD, List.getElem?_eq_getElem (by omega)]
  rfl
 refine ⟨some a, m, (List.range len).map fun i => (y i).2, by simp, ⟨cs, by simpa using hl, hm, hcs, ?_, fun n hn => ?_⟩, ?_, ?_⟩
 ·rcases Nat.eq_zero_or_pos (m * e.sz) with q | q
  ·left; exact List.length_eq_zero_iff.1 (by omega)
  ·right; exact ⟨a, rfl, at_cells hcs q hcell⟩
 ·simp only [List.length_map, List.length_range] at hn
  obtain ⟨⟨g1, _⟩, g3, _, _⟩ := hy n (by omega); have e1 : (cs.drop (n * e.sz)).take e.sz = (y n).1 := by
   apply List.ext_getElem?
   intro k
   by_cases hk : k < e.sz
   ·have hq : n * e.sz + k < m * e.sz := by
     have : (n + 1) * e.sz ≤ m * e.sz := Nat.mul_le_mul_right _ (by omega); rw [Nat.succ_mul] at this; omega
    rw [List.getElem?_take_of_lt hk, List.getElem?_drop]
    simp only [cs, List.getElem?_map, List.getElem?_range hq, Option.map_some]
    rw [hV n k hk, List.getD_eq_getElem?_getD, List.getElem?_eq_getElem (by omega)]
    rfl
   ·rw [List.getElem?_eq_none (by simp; omega), List.getElem?_eq_none (by omega)]
  rw [e1]
  simpa using g3
 ·refine Nat.le_trans (Nat.succ_le_succ ?_) (bulk_slice _ _)
  rw [bulk_all]; rw [List.map_map, List.map_map]; have := sum_le (fun i => wt (y i).2) (fun i => Rows.uptoBulk (D i)) (List.range len) (List.range len) rfl (fun i h1 h2 => by
   simp only [List.length_range] at h1
   simp only [List.getElem_range]
   exact (hy i (by omega)).2.2.1)
  exact this
 ·intro z hz
  obtain ⟨i, hi, rfl⟩ := List.mem_map.1 hz; exact (hy i (by have := List.mem_range.1 hi; omega)).2.2.2
theorem opens_slice [Inhabited α] (ht : P.underlying t = some (.slice u)) (hc : P.cellsOf u = e.sz) (hu : Opens P w u e wt ok) : Opens P w t (Kslice e) (fun xs => (xs.map wt).sum + 1) (fun xs => ∀ y ∈ xs, ok y) := by
 intro H enc fuel cs x h; obtain ⟨A, cap, xs, h1, h2, h3, h4⟩ := open_sl ht hc hu h; exact ⟨xs, ⟨A, cap, h1, h2⟩, h3, h4⟩
end
end Go.Proofs.YthankpjbfpcldaaGreat.G
namespace Go.Proofs.YthankpjbfpcldaaGreat.G
open Go Go.ChangeShapes Go.WideShapes
set_option linter.unusedVariables false
theorem row_own : ownKnob Tryz.prog.godebug = none := by kernel_rfl
theorem row_laidOut : laidOutB Tryz.prog = true := by kernel_rfl
def intok (n : Int) : Prop := (Lit.int .i64 n).wf = true
def byteok (n : Int) : Prop := (Lit.int .u8 n).wf = true
def bytesok (xs : List Int) : Prop := ∀ n ∈ xs, byteok n
theorem sum_one {α : Type} (xs : List α) : (xs.map fun _ => 1).sum = xs.length := by
 induction xs with
 | nil => rfl
 | cons x xs ih => simp [ih]; omega
theorem len_sum {α : Type} (f : α → Nat) (hf : ∀ x, 1 ≤ f x) : ∀ xs : List α, xs.length ≤ (xs.map f).sum
 | [] => Nat.le_refl _
 | x :: xs => by have := len_sum f hf xs; have := hf x; simp only [List.map_cons, List.sum_cons, List.length_cons]; omega
theorem cells_3 : Tryz.prog.cellsOf 3 = 1 := by kernel_rfl
theorem cells_5 : Tryz.prog.cellsOf 5 = 1 := by kernel_rfl
theorem cells_27 : Tryz.prog.cellsOf 27 = 1 := by kernel_rfl
theorem cells_29 : Tryz.prog.cellsOf 29 = 4 := by kernel_rfl
theorem cells_38 : Tryz.prog.cellsOf 38 = 8 := by kernel_rfl
theorem opens_bytes {w : World} : Opens Tryz.prog w 27 (Kslice (Kint .u8)) (fun xs => xs.length + 1) bytesok := by
 intro H enc fuel cs x h; obtain ⟨y, h1, h2, h3⟩ := opens_slice (e := Kint .u8) Tryz.underlying27 cells_5 (opens_int Tryz.underlying5) H enc fuel cs x h; have h2' : (y.map fun _ => 1).sum + 1 ≤ Rows.uptoBulk x.1 := h2; rw [sum_one] at h2'; exact ⟨y, h1, h2', h3⟩
abbrev wt_api_Op (o : AO) : Nat := o.Key.length + o.Value.length + 1
def ok_api_Op (o : AO) : Prop := intok o.Kind ∧ bytesok o.Key ∧ bytesok o.Value ∧ intok o.Rev
set_option maxRecDepth 100000 in
theorem opens_api_Op {w : World} : Opens Tryz.prog w 29 K_api_Op wt_api_Op ok_api_Op := by
 intro H enc fuel cs x h; obtain ⟨xs, n, rfl, rfl, hl, hxl, hf⟩ := DataW.trod_struct Tryz.underlying29 h; rw [cells_29] at hl
 match cs, hl with
 | [v0, v1, v2, v3], _ =>
  match xs, hxl with
  | [x0, x1, x2, x3], _ =>
   have g0 : DataW.trod enc Tryz.prog w 0 (fun _ => true) true n 3 (([v0, v1, v2, v3].drop 0).take (Tryz.prog.cellsOf 3)) = some x0 := hf 0 _ rfl; rw [cells_3] at g0; replace g0 : DataW.trod enc Tryz.prog w 0 (fun _ => true) true n 3 [v0] = some x0 := g0; obtain ⟨y0, r0, -, k0⟩ := opens_int (w := w) Tryz.underlying3 H enc n _ _ g0; have g1 : DataW.trod enc Tryz.prog w 0 (fun _ => true) true n 27 (([v0, v1, v2, v3].drop 1).take (Tryz.prog.cellsOf 27)) = some x1 := hf 1 _ rfl; rw [cells_27] at g1; replace g1 : DataW.trod enc Tryz.prog w 0 (fun _ => true) true n 27 [v1] = some x1 := g1; obtain ⟨y1, ⟨A1, C1, e1, s1⟩, b1, k1⟩ := opens_bytes (w := w) H enc n _ _ g1; have g2 : DataW.trod enc Tryz.prog w 0 (fun _ => true) true n 27 (([v0, v1, v2, v3].drop 2).take (Tryz.prog.cellsOf 27)) = some x2 := hf 2 _ rfl; rw [cells_27] at g2; replace g2 : DataW.trod enc Tryz.prog w 0 (fun _ => true) true n 27 [v2] = some x2 := g2; obtain ⟨y2, ⟨A2, C2, e2, s2⟩, b2, k2⟩ := opens_bytes (w := w) H enc n _ _ g2; have g3 : DataW.trod enc Tryz.prog w 0 (fun _ => true) true n 3 (([v0, v1, v2, v3].drop 3).take (Tryz.prog.cellsOf 3)) = some x3 := hf 3 _ rfl; rw [cells_3] at g3; replace g3 : DataW.trod enc Tryz.prog w 0 (fun _ => true) true n 3 [v3] = some x3 := g3; obtain ⟨y3, r3, -, k3⟩ := opens_int (w := w) Tryz.underlying3 H enc n _ _ g3; obtain rfl : v0 = .int .i64 y0 := List.head_eq_of_cons_eq r0; obtain rfl := List.head_eq_of_cons_eq e1; obtain rfl := List.head_eq_of_cons_eq e2; obtain rfl : v3 = .int .i64 y3 := List.head_eq_of_cons_eq r3; refine ⟨⟨y0, y1, y2, y3⟩, ⟨A1, C1, A2, C2, rfl, s1, s2⟩, ?_, ⟨k0, k1, k2, k3⟩⟩; refine Nat.le_trans ?_ (bulk_agg _)
   simp only [List.map_cons, List.map_nil, Rows.uptoBulkAll]
   have q0 := bulk_one x0.1; have q1 : y1.length + 1 ≤ Rows.uptoBulk x1.1 := b1; have q2 : y2.length + 1 ≤ Rows.uptoBulk x2.1 := b2; have q3 := bulk_one x3.1
   show y1.length + y2.length + 1 ≤ _
   omega
abbrev wt_haulagelaw14_Step (o : L_Step) : Nat := wt_api_Op o.Op + 1
def ok_haulagelaw14_Step (o : L_Step) : Prop := intok o.Who ∧ intok o.Kind ∧ intok o.Client ∧ intok o.Seq ∧ ok_api_Op o.Op
set_option maxRecDepth 100000 in
theorem opens_haulagelaw14_Step {w : World} : Opens Tryz.prog w 38 K_haulagelaw14_Step wt_haulagelaw14_Step ok_haulagelaw14_Step := by
 intro H enc fuel cs x h; obtain ⟨xs, n, rfl, rfl, hl, hxl, hf⟩ := DataW.trod_struct Tryz.underlying38 h; rw [cells_38] at hl
 match cs, hl with
 | [v0, v1, v2, v3, v4, v5, v6, v7], _ =>
  match xs, hxl with
  | [x0, x1, x2, x3, x4], _ =>
   have g0 : DataW.trod enc Tryz.prog w 0 (fun _ => true) true n 3 (([v0, v1, v2, v3, v4, v5, v6, v7].drop 0).take (Tryz.prog.cellsOf 3)) = some x0 := hf 0 _ rfl; rw [cells_3] at g0; replace g0 : DataW.trod enc Tryz.prog w 0 (fun _ => true) true n 3 [v0] = some x0 := g0; obtain ⟨y0, r0, -, k0⟩ := opens_int (w := w) Tryz.underlying3 H enc n _ _ g0; have g1 : DataW.trod enc Tryz.prog w 0 (fun _ => true) true n 3 (([v0, v1, v2, v3, v4, v5, v6, v7].drop 1).take (Tryz.prog.cellsOf 3)) = some x1 := hf 1 _ rfl; rw [cells_3] at g1; replace g1 : DataW.trod enc Tryz.prog w 0 (fun _ => true) true n 3 [v1] = some x1 := g1; obtain ⟨y1, r1, -, k1⟩ := opens_int (w := w) Tryz.underlying3 H enc n _ _ g1; have g2 : DataW.trod enc Tryz.prog w 0 (fun _ => true) true n 3 (([v0, v1, v2, v3, v4, v5, v6, v7].drop 2).take (Tryz.prog.cellsOf 3)) = some x2 := hf 2 _ rfl; rw [cells_3] at g2; replace g2 : DataW.trod enc Tryz.prog w 0 (fun _ => true) true n 3 [v2] = some x2 := g2; obtain ⟨y2, r2, -, k2⟩ := opens_int (w := w) Tryz.underlying3 H enc n _ _ g2; have g3 : DataW.trod enc Tryz.prog w 0 (fun _ => true) true n 3 (([v0, v1, v2, v3, v4, v5, v6, v7].drop 3).take (Tryz.prog.cellsOf 3)) = some x3 := hf 3 _ rfl; rw [cells_3] at g3; replace g3 : DataW.trod enc Tryz.prog w 0 (fun _ => true) true n 3 [v3] = some x3 := g3; obtain ⟨y3, r3, -, k3⟩ := opens_int (w := w) Tryz.underlying3 H enc n _ _ g3; have g4 : DataW.trod enc Tryz.prog w 0 (fun _ => true) true n 29 (([v0, v1, v2, v3, v4, v5, v6, v7].drop 4).take (Tryz.prog.cellsOf 29)) = some x4 := hf 4 _ rfl; rw [cells_29] at g4; replace g4 : DataW.trod enc Tryz.prog w 0 (fun _ => true) true n 29 [v4, v5, v6, v7] = some x4 := g4; obtain ⟨y4, ⟨m4_0, m4_1, m4_2, m4_3, e4, s4_0, s4_1⟩, b4, k4⟩ := opens_api_Op (w := w) H enc n _ _ g4; obtain rfl : v0 = .int .i64 y0 := List.head_eq_of_cons_eq r0; obtain rfl : v1 = .int .i64 y1 := List.head_eq_of_cons_eq r1; obtain rfl : v2 = .int .i64 y2 := List.head_eq_of_cons_eq r2; obtain rfl : v3 = .int .i64 y3 := List.head_eq_of_cons_eq r3
   simp only [List.cons.injEq, and_true] at e4
   obtain ⟨rfl, rfl, rfl, rfl⟩ := e4; refine ⟨⟨y0, y1, y2, y3, y4⟩, ⟨m4_0, m4_1, m4_2, m4_3, rfl, s4_0, s4_1⟩, ?_, ⟨k0, k1, k2, k3, k4⟩⟩; refine Nat.le_trans ?_ (bulk_agg _)
   simp only [List.map_cons, List.map_nil, Rows.uptoBulkAll]
   have q0 := bulk_one x0.1; have q1 := bulk_one x1.1; have q2 := bulk_one x2.1; have q3 := bulk_one x3.1; have q4 : wt_api_Op y4 ≤ Rows.uptoBulk x4.1 := b4
   show wt_api_Op y4 + 1 ≤ _
   omega
theorem wt_haulagelaw14_Step_pos (o : L_Step) : 1 ≤ wt_haulagelaw14_Step o := by unfold wt_haulagelaw14_Step; omega
theorem arg_steps {H : Type} {enc : TypeId × Value → H} {w : World} {v : Value} {d : DataW H} {p : List MemPlace} (hv : ∃ a len cap, v = .slice a len cap) (h : DataW.Trod enc Tryz.prog w 0 (fun _ => true) true 22 v d p) :
  ∃ A C xs, v = .slice A xs.length C ∧ SL false K_haulagelaw14_Step 0 0 c0 w A C xs ∧ (xs.map wt_haulagelaw14_Step).sum + 1 ≤ Rows.uptoBulk d ∧ ∀ o ∈ xs, ok_haulagelaw14_Step o := by
 obtain ⟨a, len, cap, rfl⟩ := hv; obtain ⟨fuel, hf⟩ := h; obtain ⟨A, C, xs, e, h1, h2, h3⟩ := open_sl (e := K_haulagelaw14_Step) Tryz.underlying22 cells_38 opens_haulagelaw14_Step hf; refine ⟨A, C, xs, ?_, h1, h2, h3⟩; have e' : [Value.slice a len cap] = [.slice A xs.length C] := e; exact List.head_eq_of_cons_eq e'
end Go.Proofs.YthankpjbfpcldaaGreat.G
namespace Go.Proofs.YthankpjbfpcldaaGreat.G
open Go
set_option linter.unusedVariables false
set_option linter.unusedSimpArgs false
theorem lA {α : Type} {x y : List α} : (x ++ y).length = x.length + y.length := List.length_append
theorem oB {α β : Type} {a : α} {f : α → Option β} : (some a).bind f = f a := rfl
abbrev Ent := ByteArray × TC
def Tr.list : Tr → List Ent
 | .nil => []
 | .node l r k v _ _ => l.list ++ (k, v) :: r.list
def Tr.hgt : Tr → Nat
 | .nil => 0
 | .node l r _ _ _ _ => 1 + max l.hgt r.hgt
def Tr.WF : Tr → Prop
 | .nil => True
 | .node l r k v s d => l.WF ∧ r.WF ∧ s = ((Tr.node l r k v s d).list.length : Int) ∧ d = ((Tr.node l r k v s d).hgt : Int)
theorem Tr.hgt_le : ∀ t : Tr, t.hgt ≤ t.list.length
 | .nil => Nat.le_refl _
 | .node l r k v s d => by
  have := hgt_le l; have := hgt_le r
  simp only [Tr.hgt, Tr.list, lA, List.length_cons]; omega
theorem len_eq {t : Tr} (h : t.WF) : t_Len.f t = some (t.list.length : Int) := by
 cases t with
 | nil => rfl
 | node l r k v s d => show (if (Tr.node l r k v s d).isNil = true then some 0 else some s) = _; rw [if_neg (by simp [Tr.isNil])]; exact congrArg some h.2.2.1
theorem dep_eq {t : Tr} (h : t.WF) : t_Depth.f t = some (t.hgt : Int) := by
 cases t with
 | nil => rfl
 | node l r k v s d => show (if (Tr.node l r k v s d).isNil = true then some 0 else some d) = _; rw [if_neg (by simp [Tr.isNil])]; exact congrArg some h.2.2.2
theorem wr {n : Int} (h0 : -1000000000000000000 ≤ n) (h1 : n ≤ 1000000000000000000) : IntKind.i64.wrap n = n := by rw [IntKind.wrap_i64]; omega
def big : Nat := 1099511627776
theorem node_eq {l r : Tr} {k : ByteArray} {v : TC} (hl : l.WF) (hr : r.WF) (hb : l.list.length + r.list.length < big) :
  ∃ t, tree_node.f l k v r = some t ∧ t.WF ∧ t.list = l.list ++ (k, v) :: r.list ∧ (∃ s d, t = .node l r k v s d) := by
 have h1 := l.hgt_le; have h2 := r.hgt_le; unfold big at hb; refine ⟨.node l r k v (l.list.length + 1 + r.list.length) (1 + max l.hgt r.hgt), ?_, ⟨hl, hr, ?_, ?_⟩, rfl, _, _, rfl⟩
 ·simp only [tree_node.f, len_eq hl, len_eq hr, dep_eq hl, dep_eq hr, oB]
  rw [wr (n := (l.list.length : Int) + 1) (by omega) (by omega), wr (by omega) (by omega), wr (by omega) (by omega)]
  simp; omega
 ·simp only [Tr.list, lA, List.length_cons]; omega
 ·simp only [Tr.hgt]; omega
theorem turnL {l r : Tr} {k : ByteArray} {v : TC} {s d : Int} (hl : l.WF) (hr : r.WF) (hn : r.list ≠ []) (hb : l.list.length + r.list.length < big) :
  ∃ t, tree_turnLeft.f (.node l r k v s d) = some t ∧ t.WF ∧ t.list = l.list ++ (k, v) :: r.list := by
 cases r with
 | nil => exact absurd rfl hn
 | node rl rr rk rv rs rd =>
  obtain ⟨h1, h2, _⟩ := hr
  simp only [Tr.list, lA, List.length_cons] at hb
  obtain ⟨a, ea, wa, la, _⟩ := node_eq (k := k) (v := v) hl h1 (by omega); obtain ⟨b, eb, wb, lb, _⟩ := node_eq (k := rk) (v := rv) wa h2 (by rw [la]; simp only [lA, List.length_cons]; omega); refine ⟨b, ?_, wb, ?_⟩
  ·simp only [tree_turnLeft.f, Tr.cs, ea, eb, oB]
  ·rw [lb, la]; simp [Tr.list]
theorem turnR {l r : Tr} {k : ByteArray} {v : TC} {s d : Int} (hl : l.WF) (hr : r.WF) (hn : l.list ≠ []) (hb : l.list.length + r.list.length < big) :
  ∃ t, tree_turnRight.f (.node l r k v s d) = some t ∧ t.WF ∧ t.list = l.list ++ (k, v) :: r.list := by
 cases l with
 | nil => exact absurd rfl hn
 | node rl rr rk rv rs rd =>
  obtain ⟨h1, h2, _⟩ := hl
  simp only [Tr.list, lA, List.length_cons] at hb
  obtain ⟨a, ea, wa, la, _⟩ := node_eq (k := k) (v := v) h2 hr (by omega); obtain ⟨b, eb, wb, lb, _⟩ := node_eq (k := rk) (v := rv) h1 wa (by rw [la]; simp only [lA, List.length_cons]; omega); refine ⟨b, ?_, wb, ?_⟩
  ·simp only [tree_turnRight.f, Tr.cs, ea, eb, oB]
  ·rw [lb, la]; simp [Tr.list]
theorem hgt_pos {t : Tr} (h : 0 < t.hgt) : t.list ≠ [] := by
 cases t with
 | nil => simp [Tr.hgt] at h
 | node l r k v s d => simp [Tr.list]
theorem join_eq : ∀ (n : Nat) (l r : Tr) (k : ByteArray) (v : TC), l.hgt + r.hgt < n → l.WF → r.WF → l.list.length + r.list.length + 1 < big →
  ∃ t, tree_join.f n l k v r = some t ∧ t.WF ∧ t.list = l.list ++ (k, v) :: r.list
 | 0, _, _, _, _, h, _, _, _ => absurd h (by omega)
 | n + 1, l, r, k, v, hn, hl, hr, hb => by
  have h1 := l.hgt_le; have h2 := r.hgt_le; have hb' := hb; unfold big at hb'
  simp only [tree_join.f, dep_eq hl, dep_eq hr, oB]
  rw [wr (n := (r.hgt : Int) + 1) (by omega) (by omega), wr (n := (l.hgt : Int) + 1) (by omega) (by omega)]
  by_cases c1 : (r.hgt : Int) + 1 < l.hgt
  ·rw [if_pos c1]
   cases l with
   | nil => simp [Tr.hgt] at c1; omega
   | node ll lr lk lv ls ld =>
    obtain ⟨wl, wr', _, _⟩ := hl
    simp only [Tr.hgt] at hn
    simp only [Tr.list, lA, List.length_cons] at hb
    obtain ⟨u, eu, wu, lu⟩ := join_eq n lr r k v (by omega) wr' hr (by omega)
    simp only [Tr.cs, eu, oB]
    have hul : u.list.length = lr.list.length + r.list.length + 1 := by rw [lu]; simp; omega
    cases u with
    | nil => simp [Tr.list] at lu
    | node ul ur uk uv us ud =>
     have wu' := wu; obtain ⟨wul, wur, hus, hud⟩ := wu
     simp only [dep_eq wl, dep_eq wul, dep_eq wur, oB]
     have h3 := ll.hgt_le; unfold big at hb; rw [wr (n := (ll.hgt : Int) + 1) (by omega) (by omega)]; have hull : ul.list.length + ur.list.length + 1 = lr.list.length + r.list.length + 1 := by rw [← hul]; simp [Tr.list]; omega
     split
     ·split
      ·rename_i c3
       obtain ⟨x, ex, wx, lx⟩ := turnR (k := uk) (v := uv) (s := us) (d := ud) wul wur (hgt_pos (by omega)) (by unfold big; omega); obtain ⟨y, ey, wy, ly, s', d', hy⟩ := node_eq (k := lk) (v := lv) wl wx (by rw [lx]; simp only [lA, List.length_cons]; unfold big; omega); subst hy; obtain ⟨z, ez, wz, lz⟩ := turnL (k := lk) (v := lv) (s := s') (d := d') wl wx (by rw [lx]; simp) (by rw [lx]; simp only [lA, List.length_cons]; unfold big; omega); refine ⟨z, by simp only [ex, ey, ez, oB], wz, ?_⟩; have e1 : x.list = lr.list ++ (k, v) :: r.list := by rw [lx, ← lu]; simp [Tr.list]
       rw [lz, e1]; simp [Tr.list]
      ·obtain ⟨y, ey, wy, ly, s', d', hy⟩ := node_eq (k := lk) (v := lv) wl wu' (by rw [hul]; unfold big; omega)
       subst hy; obtain ⟨z, ez, wz, lz⟩ := turnL (k := lk) (v := lv) (s := s') (d := d') wl wu' (by simp [Tr.list]) (by rw [hul]; unfold big; omega); refine ⟨z, by simp only [ey, ez, oB], wz, ?_⟩; rw [lz, lu]; simp [Tr.list]
     ·obtain ⟨y, ey, wy, ly, _⟩ := node_eq (k := lk) (v := lv) wl wu' (by rw [hul]; unfold big; omega)
      refine ⟨y, by simp only [ey, oB], wy, ?_⟩; rw [ly, lu]; simp [Tr.list]
  ·rw [if_neg c1]
   by_cases c2 : (l.hgt : Int) + 1 < r.hgt
   ·rw [if_pos c2]
    cases r with
    | nil => simp [Tr.hgt] at c2; omega
    | node rl rr rk rv rs rd =>
     obtain ⟨wl, wr', _, _⟩ := hr
     simp only [Tr.hgt] at hn
     simp only [Tr.list, lA, List.length_cons] at hb
     obtain ⟨u, eu, wu, lu⟩ := join_eq n l rl k v (by omega) hl wl (by omega)
     simp only [Tr.cs, eu, oB]
     have hul : u.list.length = l.list.length + rl.list.length + 1 := by rw [lu]; simp; omega
     cases u with
     | nil => simp [Tr.list] at lu
     | node ul ur uk uv us ud =>
      have wu' := wu; obtain ⟨wul, wur, hus, hud⟩ := wu
      simp only [dep_eq wr', dep_eq wul, dep_eq wur, oB]
      have h3 := rr.hgt_le; unfold big at hb; rw [wr (n := (rr.hgt : Int) + 1) (by omega) (by omega)]; have hull : ul.list.length + ur.list.length + 1 = l.list.length + rl.list.length + 1 := by rw [← hul]; simp [Tr.list]; omega
      split
      ·split
       ·rename_i c3
        obtain ⟨x, ex, wx, lx⟩ := turnL (k := uk) (v := uv) (s := us) (d := ud) wul wur (hgt_pos (by omega)) (by unfold big; omega); obtain ⟨y, ey, wy, ly, s', d', hy⟩ := node_eq (k := rk) (v := rv) wx wr' (by rw [lx]; simp only [lA, List.length_cons]; unfold big; omega); subst hy; obtain ⟨z, ez, wz, lz⟩ := turnR (k := rk) (v := rv) (s := s') (d := d') wx wr' (by rw [lx]; simp) (by rw [lx]; simp only [lA, List.length_cons]; unfold big; omega); refine ⟨z, by simp only [ex, ey, ez, oB], wz, ?_⟩; have e1 : x.list = l.list ++ (k, v) :: rl.list := by rw [lx, ← lu]; simp [Tr.list]
        rw [lz, e1]; simp [Tr.list]
       ·obtain ⟨y, ey, wy, ly, s', d', hy⟩ := node_eq (k := rk) (v := rv) wu' wr' (by rw [hul]; unfold big; omega)
        subst hy; obtain ⟨z, ez, wz, lz⟩ := turnR (k := rk) (v := rv) (s := s') (d := d') wu' wr' (by simp [Tr.list]) (by rw [hul]; unfold big; omega); refine ⟨z, by simp only [ey, ez, oB], wz, ?_⟩; rw [lz, lu]; simp [Tr.list]
      ·obtain ⟨y, ey, wy, ly, _⟩ := node_eq (k := rk) (v := rv) wu' wr' (by rw [hul]; unfold big; omega)
       refine ⟨y, by simp only [ey, oB], wy, ?_⟩; rw [ly, lu]; simp [Tr.list]
   ·rw [if_neg c2]
    obtain ⟨y, ey, wy, ly, _⟩ := node_eq (k := k) (v := v) hl hr (by omega); exact ⟨y, by simp only [ey, oB], wy, ly⟩
theorem last_eq : ∀ (n : Nat) (t : Tr), 2 * t.list.length < n → t.WF → t.list ≠ [] → t.list.length < big →
  ∃ u k v, tree_last.f n t = some (u, k, v) ∧ u.WF ∧ t.list = u.list ++ [(k, v)]
 | 0, _, h, _, _, _ => absurd h (by omega)
 | n + 1, t, hn, ht, hne, hb => by
  cases t with
  | nil => exact absurd rfl hne
  | node l r k v s d =>
   obtain ⟨wl, wr', _, _⟩ := ht
   simp only [Tr.list, lA, List.length_cons] at hn hb
   cases r with
   | nil => exact ⟨l, k, v, rfl, wl, by simp [Tr.list]⟩
   | node rl rr rk rv rs rd =>
    obtain ⟨u, k', v', e, wu, lu⟩ := last_eq n (.node rl rr rk rv rs rd) (by omega) wr' (by simp [Tr.list]) (by omega); have h1 := l.hgt_le; have h2 := u.hgt_le; have hlen : (Tr.node rl rr rk rv rs rd).list.length = u.list.length + 1 := by rw [lu]; simp
    obtain ⟨x, ex, wx, lx⟩ := join_eq n l u k v (by omega) wl wu (by omega); refine ⟨x, k', v', ?_, wx, ?_⟩
    ·simp only [tree_last.f, Tr.cs]
     rw [if_neg (by simp [Tr.isNil])]
     simp only [e, ex, oB]
    ·rw [lx]; show l.list ++ (k, v) :: (Tr.node rl rr rk rv rs rd).list = _; rw [lu]; simp
theorem both_eq (n : Nat) (l r : Tr) (hn : 2 * l.list.length + r.list.length + 1 < n) (hl : l.WF) (hr : r.WF) (hb : l.list.length + r.list.length < big) :
  ∃ t, tree_both.f n l r = some t ∧ t.WF ∧ t.list = l.list ++ r.list := by
 cases l with
 | nil => exact ⟨r, rfl, hr, rfl⟩
 | node ll lr lk lv ls ld =>
  obtain ⟨u, k, v, e, wu, lu⟩ := last_eq n (.node ll lr lk lv ls ld) (by omega) hl (by simp [Tr.list]) (by omega); have hlen : (Tr.node ll lr lk lv ls ld).list.length = u.list.length + 1 := by rw [lu]; simp
  have h1 := u.hgt_le; have h2 := r.hgt_le; obtain ⟨x, ex, wx, lx⟩ := join_eq n u r k v (by omega) wu hr (by omega); refine ⟨x, ?_, wx, ?_⟩
  ·unfold tree_both.f
   rw [if_neg (by simp [Tr.isNil])]
   simp only [e, ex, oB]
  ·rw [lx, lu]; simp
def lt (a b : ByteArray) : Bool := Op.bytesLess a.toList b.toList
theorem nan_eq (a : ByteArray) : cmp_isNaN.f a = some false := by simp [cmp_isNaN.f]
theorem less_eq (a b : ByteArray) : cmp_Less.f a b = some (lt a b) := by
 simp only [cmp_Less.f, nan_eq, oB]
 rw [if_neg (by simp)]; rfl
theorem compare_eq (a b : ByteArray) : cmp_Compare.f a b = some (if lt a b = true then -1 else if (a.toList == b.toList) = true then 0 else 1) := by
 simp only [cmp_Compare.f, nan_eq, oB]
 rw [if_neg (by simp), if_neg (by simp)]; unfold lt
 split
 ·rfl
 ·rename_i h
  simp [h]
  split <;> rfl
theorem bl_irr : ∀ x : List UInt8, Op.bytesLess x x = false
 | [] => rfl
 | a :: x => by simp [Op.bytesLess, bl_irr x]
theorem bl_tri : ∀ x y : List UInt8, Op.bytesLess x y = false → Op.bytesLess y x = false → x = y
 | [], [], _, _ => rfl
 | [], _ :: _, h, _ => by simp [Op.bytesLess] at h
 | _ :: _, [], _, h => by simp [Op.bytesLess] at h
 | a :: x, b :: y, h1, h2 => by
  simp only [Op.bytesLess, Bool.or_eq_false_iff, Bool.and_eq_false_iff, decide_eq_false_iff_not, beq_eq_false_iff_ne] at h1 h2
  have hab : a = b := by
   have g1 := h1.1; have g2 := h2.1
   simp only [UInt8.lt_iff_toNat_lt] at g1 g2
   exact UInt8.toNat_inj.1 (by omega)
  subst hab; have e1 := h1.2.resolve_left (fun q => q rfl); have e2 := h2.2.resolve_left (fun q => q rfl); rw [bl_tri x y e1 e2]
theorem bl_tr : ∀ x y z : List UInt8, Op.bytesLess x y = true → Op.bytesLess y z = true → Op.bytesLess x z = true
 | x, [], [], _, h => by simp [Op.bytesLess] at h
 | x, b :: y, [], _, h => by simp [Op.bytesLess] at h
 | [], [], c :: z, h, _ => by simp [Op.bytesLess] at h
 | a :: x, [], c :: z, h, _ => by simp [Op.bytesLess] at h
 | [], b :: y, c :: z, _, _ => rfl
 | a :: x, b :: y, c :: z, h1, h2 => by
  simp only [Op.bytesLess, Bool.or_eq_true, Bool.and_eq_true, decide_eq_true_eq, beq_iff_eq] at h1 h2 ⊢
  simp only [UInt8.lt_iff_toNat_lt] at h1 h2 ⊢
  rcases h1 with h1 | ⟨rfl, h1⟩
  ·rcases h2 with h2 | ⟨rfl, h2⟩
   ·left; omega
   ·left; exact h1
  ·rcases h2 with h2 | ⟨rfl, h2⟩
   ·left; exact h2
   ·right; exact ⟨rfl, bl_tr x y z h1 h2⟩
theorem toList_inj {a b : ByteArray} (h : a.toList = b.toList) : a = b := by
 rw [ByteArray.toList_eq, ByteArray.toList_eq] at h
 cases a; cases b
 simp only [ByteArray.mk.injEq]
 exact Array.toList_inj.1 h
theorem lt_irr (a : ByteArray) : lt a a = false := bl_irr _
theorem lt_tr {a b c : ByteArray} (h1 : lt a b = true) (h2 : lt b c = true) : lt a c = true := bl_tr _ _ _ h1 h2
theorem lt_tri {a b : ByteArray} (h1 : lt a b = false) (h2 : lt b a = false) : a = b := toList_inj (bl_tri _ _ h1 h2)
def Ord (L : List Ent) : Prop := L.Pairwise fun x y => lt x.1 y.1 = true
def ins (k : ByteArray) (v : TC) : List Ent → List Ent
 | [] => [(k, v)]
 | (a, x) :: L => if lt k a = true then (k, v) :: (a, x) :: L else if lt a k = true then (a, x) :: ins k v L else (k, v) :: L
def del (k : ByteArray) : List Ent → List Ent
 | [] => []
 | (a, x) :: L => if lt k a = true then (a, x) :: L else if lt a k = true then (a, x) :: del k L else L
def look (k : ByteArray) : List Ent → Option TC
 | [] => none
 | (a, x) :: L => if lt k a = true then none else if lt a k = true then look k L else some x
theorem Ord.split {A B : List Ent} {x : Ent} (h : Ord (A ++ x :: B)) : Ord A ∧ Ord B ∧ (∀ y ∈ A, lt y.1 x.1 = true) ∧ (∀ y ∈ B, lt x.1 y.1 = true) := by
 unfold Ord at h ⊢; rw [List.pairwise_append] at h; obtain ⟨h1, h2, h3⟩ := h; rw [List.pairwise_cons] at h2; exact ⟨h1, h2.2, fun y hy => h3 y hy x (by simp), h2.1⟩
theorem lt_asym {a b : ByteArray} (h : lt a b = true) : lt b a = false := by
 cases hb : lt b a with
 | false => rfl
 | true => have := lt_tr h hb; rw [lt_irr] at this; cases this
theorem ins_left {k : ByteArray} {v : TC} {x : Ent} {B : List Ent} (hk : lt k x.1 = true) : ∀ A : List Ent, ins k v (A ++ x :: B) = ins k v A ++ x :: B
 | [] => by simp [ins, hk]
 | (a, y) :: A => by
  simp only [List.cons_append, ins]
  split
  ·rfl
  ·split
   ·rw [ins_left hk A]; rfl
   ·rfl
theorem ins_right {k : ByteArray} {v : TC} {x : Ent} {B : List Ent} (hk : lt x.1 k = true) : ∀ A : List Ent, (∀ y ∈ A, lt y.1 x.1 = true) → ins k v (A ++ x :: B) = A ++ x :: ins k v B
 | [], _ => by simp [ins, hk, lt_asym hk]
 | (a, y) :: A, h => by
  have h1 : lt a k = true := lt_tr (h (a, y) (by simp)) hk
  simp only [List.cons_append, ins, h1, lt_asym h1]
  rw [ins_right hk A (fun y hy => h y (by simp [hy]))]
  simp
theorem ins_here {k : ByteArray} {v y : TC} {B : List Ent} : ∀ A : List Ent, (∀ y ∈ A, lt y.1 k = true) → ins k v (A ++ (k, y) :: B) = A ++ (k, v) :: B
 | [], _ => by simp [ins, lt_irr]
 | (a, y) :: A, h => by
  have h1 : lt a k = true := h (a, y) (by simp)
  simp only [List.cons_append, ins, h1, lt_asym h1]
  rw [ins_here A (fun y hy => h y (by simp [hy]))]
  simp
theorem ins_len (k : ByteArray) (v : TC) : ∀ L : List Ent, (ins k v L).length ≤ L.length + 1
 | [] => by simp [ins]
 | (a, x) :: L => by
  have := ins_len k v L
  simp only [ins]
  split
  ·simp
  ·split <;> simp <;> omega
theorem put_eq : ∀ (n : Nat) (t : Tr) (k : ByteArray) (v : TC), 2 * t.list.length + 3 < n → t.WF → Ord t.list → t.list.length + 1 < big →
  ∃ u, t_Put.f n t k v = some u ∧ u.WF ∧ u.list = ins k v t.list
 | 0, _, _, _, h, _, _, _ => absurd h (by omega)
 | n + 1, t, k, v, hn, ht, ho, hb => by
  cases t with
  | nil =>
   obtain ⟨u, eu, wu, lu, _⟩ := node_eq (l := .nil) (r := .nil) (k := k) (v := v) trivial trivial (by simp [Tr.list, big]); refine ⟨u, ?_, wu, by rw [lu]; rfl⟩
   simp only [t_Put.f, eu, oB]
   rw [if_pos (by rfl)]
  | node l r a x s d =>
   obtain ⟨wl, wr', _, _⟩ := ht; obtain ⟨ol, or', hA, hB⟩ := Ord.split (show Ord (l.list ++ (a, x) :: r.list) from ho)
   simp only [Tr.list, lA, List.length_cons] at hn hb
   simp only [t_Put.f, Tr.cs, compare_eq, oB]
   rw [if_neg (by simp [Tr.isNil])]
   cases h1 : lt k a with
   | true =>
    obtain ⟨u, eu, wu, lu⟩ := put_eq n l k v (by omega) wl ol (by omega); have hu := ins_len k v l.list; rw [← lu] at hu; have g1 := u.hgt_le; have g2 := r.hgt_le; obtain ⟨z, ez, wz, lz⟩ := join_eq n u r a x (by omega) wu wr' (by omega); refine ⟨z, ?_, wz, ?_⟩
    ·simp [eu, ez]
    ·rw [lz, lu]; exact (ins_left (x := (a, x)) h1 l.list).symm
   | false =>
    cases h2 : lt a k with
    | true =>
     have hne : (k.toList == a.toList) = false := by
      cases q : (k.toList == a.toList) with
      | false => rfl
      | true => have := toList_inj (eq_of_beq q); subst this; rw [lt_irr] at h2; cases h2
     obtain ⟨u, eu, wu, lu⟩ := put_eq n r k v (by omega) wr' or' (by omega); have hu := ins_len k v r.list; rw [← lu] at hu; have g1 := u.hgt_le; have g2 := l.hgt_le; obtain ⟨z, ez, wz, lz⟩ := join_eq n l u a x (by omega) wl wu (by omega); refine ⟨z, ?_, wz, ?_⟩
     ·simp [hne, eu, ez]
     ·rw [lz, lu]; exact (ins_right (x := (a, x)) h2 l.list hA).symm
    | false =>
     have he := lt_tri h1 h2; subst he; obtain ⟨z, ez, wz, lz, _⟩ := node_eq (k := k) (v := v) wl wr' (by omega); refine ⟨z, ?_, wz, ?_⟩
     ·simp [ez]
     ·rw [lz]; exact (ins_here l.list hA).symm
theorem keq {a b : ByteArray} : (a.toList == b.toList) = decide (a = b) := by
 by_cases h : a = b
 ·subst h; simp
 ·rw [dz h]
  cases q : (a.toList == b.toList) with
  | false => rfl
  | true => exact absurd (toList_inj (eq_of_beq q)) h
theorem mem_ins {k : ByteArray} {v : TC} {y : Ent} : ∀ L : List Ent, y ∈ ins k v L → y = (k, v) ∨ y ∈ L
 | [], h => by simp only [ins, List.mem_singleton] at h; exact Or.inl h
 | (a, x) :: L, h => by
  simp only [ins] at h
  split at h
  ·simp only [List.mem_cons] at h ⊢; exact h
  ·split at h
   ·simp only [List.mem_cons] at h ⊢
    rcases h with h | h
    ·exact Or.inr (Or.inl h)
    ·rcases mem_ins L h with h | h
     ·exact Or.inl h
     ·exact Or.inr (Or.inr h)
   ·simp only [List.mem_cons] at h ⊢
    rcases h with h | h
    ·exact Or.inl h
    ·exact Or.inr (Or.inr h)
theorem mem_del {k : ByteArray} {y : Ent} : ∀ L : List Ent, y ∈ del k L → y ∈ L
 | [], h => by simp [del] at h
 | (a, x) :: L, h => by
  simp only [del] at h
  split at h
  ·exact h
  ·split at h
   ·simp only [List.mem_cons] at h ⊢
    rcases h with h | h
    ·exact Or.inl h
    ·exact Or.inr (mem_del L h)
   ·exact List.mem_cons_of_mem _ h
theorem ins_ord {k : ByteArray} {v : TC} : ∀ L : List Ent, Ord L → Ord (ins k v L)
 | [], _ => by simp [ins, Ord]
 | (a, x) :: L, h => by
  have h' := h; unfold Ord at h'; rw [List.pairwise_cons] at h'
  simp only [ins]
  split
  ·rename_i c
   unfold Ord; rw [List.pairwise_cons]; refine ⟨?_, h⟩; intro y hy
   rcases List.mem_cons.1 hy with rfl | hy
   ·exact c
   ·exact lt_tr c (h'.1 y hy)
  ·split
   ·rename_i c1 c
    unfold Ord; rw [List.pairwise_cons]; refine ⟨?_, ins_ord L h'.2⟩; intro y hy
    rcases mem_ins L hy with rfl | hy
    ·exact c
    ·exact h'.1 y hy
   ·rename_i c1 c2
    have he : k = a := lt_tri (by simpa using c1) (by simpa using c2); subst he; unfold Ord; rw [List.pairwise_cons]; exact ⟨h'.1, h'.2⟩
theorem del_ord {k : ByteArray} : ∀ L : List Ent, Ord L → Ord (del k L)
 | [], _ => by simp [del, Ord]
 | (a, x) :: L, h => by
  have h' := h; unfold Ord at h'; rw [List.pairwise_cons] at h'
  simp only [del]
  split
  ·exact h
  ·split
   ·unfold Ord
    rw [List.pairwise_cons]; exact ⟨fun y hy => h'.1 y (mem_del L hy), del_ord L h'.2⟩
   ·exact h'.2
theorem del_left {k : ByteArray} {x : Ent} {B : List Ent} (hk : lt k x.1 = true) : ∀ A : List Ent, del k (A ++ x :: B) = del k A ++ x :: B
 | [] => by simp [del, hk]
 | (a, y) :: A => by
  simp only [List.cons_append, del]
  split
  ·rfl
  ·split
   ·rw [del_left hk A]; rfl
   ·rfl
theorem del_right {k : ByteArray} {x : Ent} {B : List Ent} (hk : lt x.1 k = true) : ∀ A : List Ent, (∀ y ∈ A, lt y.1 x.1 = true) → del k (A ++ x :: B) = A ++ x :: del k B
 | [], _ => by simp [del, hk, lt_asym hk]
 | (a, y) :: A, h => by
  have h1 : lt a k = true := lt_tr (h (a, y) (by simp)) hk
  simp only [List.cons_append, del, h1, lt_asym h1]
  rw [del_right hk A (fun y hy => h y (by simp [hy]))]
  simp
theorem del_here {k : ByteArray} {y : TC} {B : List Ent} : ∀ A : List Ent, (∀ y ∈ A, lt y.1 k = true) → del k (A ++ (k, y) :: B) = A ++ B
 | [], _ => by simp [del, lt_irr]
 | (a, y) :: A, h => by
  have h1 : lt a k = true := h (a, y) (by simp)
  simp only [List.cons_append, del, h1, lt_asym h1]
  rw [del_here A (fun y hy => h y (by simp [hy]))]
  simp
theorem del_len (k : ByteArray) : ∀ L : List Ent, (del k L).length ≤ L.length
 | [] => by simp [del]
 | (a, x) :: L => by
  have := del_len k L
  simp only [del]
  split
  ·simp
  ·split <;> simp <;> omega
theorem look_left {k : ByteArray} {x : Ent} {B : List Ent} (hk : lt k x.1 = true) : ∀ A : List Ent, look k (A ++ x :: B) = look k A
 | [] => by simp [look, hk]
 | (a, y) :: A => by
  simp only [List.cons_append, look]
  rw [look_left hk A]
theorem look_right {k : ByteArray} {x : Ent} {B : List Ent} (hk : lt x.1 k = true) : ∀ A : List Ent, (∀ y ∈ A, lt y.1 x.1 = true) → look k (A ++ x :: B) = look k B
 | [], _ => by simp [look, hk, lt_asym hk]
 | (a, y) :: A, h => by
  have h1 : lt a k = true := lt_tr (h (a, y) (by simp)) hk
  simp only [List.cons_append, look, h1, lt_asym h1]
  rw [look_right hk A (fun y hy => h y (by simp [hy]))]
  simp
theorem look_here {k : ByteArray} {y : TC} {B : List Ent} : ∀ A : List Ent, (∀ y ∈ A, lt y.1 k = true) → look k (A ++ (k, y) :: B) = some y
 | [], _ => by simp [look, lt_irr]
 | (a, y) :: A, h => by
  have h1 : lt a k = true := h (a, y) (by simp)
  simp only [List.cons_append, look, h1, lt_asym h1]
  rw [look_here A (fun y hy => h y (by simp [hy]))]
  simp
theorem del_none {k : ByteArray} : ∀ L : List Ent, look k L = none → del k L = L
 | [], _ => rfl
 | (a, x) :: L, h => by
  simp only [look] at h
  simp only [del]
  split
  ·rfl
  ·rename_i c1
   rw [if_neg c1] at h
   split
   ·rename_i c2; rw [if_pos c2] at h; rw [del_none L h]
   ·rename_i c2; rw [if_neg c2] at h; cases h
theorem look_mem {k : ByteArray} {x : TC} : ∀ L : List Ent, look k L = some x → (k, x) ∈ L
 | [], h => by simp [look] at h
 | (a, y) :: L, h => by
  simp only [look] at h
  split at h
  ·cases h
  ·split at h
   ·exact List.mem_cons_of_mem _ (look_mem L h)
   ·rename_i c1 c2
    have he : k = a := lt_tri (by simpa using c1) (by simpa using c2); subst he
    cases h
    simp
theorem keqb {k a : ByteArray} (h : lt a k = true) : (k.toList == a.toList) = false := by
 cases q : (k.toList == a.toList) with
 | false => rfl
 | true => have := toList_inj (eq_of_beq q); subst this; rw [lt_irr] at h; cases h
theorem delete_eq : ∀ (n : Nat) (t : Tr) (k : ByteArray), 4 * t.list.length + 3 < n → t.WF → Ord t.list → t.list.length + 1 < big →
  ∃ u, t_Delete.f n t k = some (u, (look k t.list).isSome) ∧ u.WF ∧ u.list = del k t.list
 | 0, _, _, h, _, _, _ => absurd h (by omega)
 | n + 1, t, k, hn, ht, ho, hb => by
  cases t with
  | nil => exact ⟨.nil, rfl, trivial, rfl⟩
  | node l r a x s d =>
   have ht' := ht; obtain ⟨wl, wr', _, _⟩ := ht; obtain ⟨ol, or', hA, hB⟩ := Ord.split (show Ord (l.list ++ (a, x) :: r.list) from ho)
   simp only [Tr.list, lA, List.length_cons] at hn hb
   simp only [t_Delete.f, Tr.cs, compare_eq, oB]
   rw [if_neg (by simp [Tr.isNil])]
   cases h1 : lt k a with
   | true =>
    obtain ⟨u, eu, wu, lu⟩ := delete_eq n l k (by omega) wl ol (by omega); have hl : look k (l.list ++ (a, x) :: r.list) = look k l.list := look_left (x := (a, x)) h1 l.list; have hd : del k (l.list ++ (a, x) :: r.list) = del k l.list ++ (a, x) :: r.list := del_left (x := (a, x)) h1 l.list
    show ∃ u : Tr, _ = some (u, (look k (l.list ++ (a, x) :: r.list)).isSome) ∧ u.WF ∧ u.list = del k (l.list ++ (a, x) :: r.list)
    rw [hl, hd]
    cases hs : (look k l.list).isSome with
    | false =>
     rw [hs] at eu; refine ⟨_, ?_, ht', ?_⟩
     ·simp [eu]
     ·rw [del_none l.list (by simpa using hs)]; rfl
    | true =>
     rw [hs] at eu; have hu := del_len k l.list; rw [← lu] at hu; have g1 := u.hgt_le; have g2 := r.hgt_le; obtain ⟨z, ez, wz, lz⟩ := join_eq n u r a x (by omega) wu wr' (by omega); refine ⟨z, ?_, wz, ?_⟩
     ·simp [eu, ez]
     ·rw [lz, lu]
   | false =>
    cases h2 : lt a k with
    | true =>
     obtain ⟨u, eu, wu, lu⟩ := delete_eq n r k (by omega) wr' or' (by omega); have hl : look k (l.list ++ (a, x) :: r.list) = look k r.list := look_right (x := (a, x)) h2 l.list hA; have hd : del k (l.list ++ (a, x) :: r.list) = l.list ++ (a, x) :: del k r.list := del_right (x := (a, x)) h2 l.list hA
     show ∃ u : Tr, _ = some (u, (look k (l.list ++ (a, x) :: r.list)).isSome) ∧ u.WF ∧ u.list = del k (l.list ++ (a, x) :: r.list)
     rw [hl, hd]
     cases hs : (look k r.list).isSome with
     | false =>
      rw [hs] at eu; refine ⟨_, ?_, ht', ?_⟩
      ·simp [keqb h2, eu]
      ·rw [del_none r.list (by simpa using hs)]; rfl
     | true =>
      rw [hs] at eu; have hu := del_len k r.list; rw [← lu] at hu; have g1 := u.hgt_le; have g2 := l.hgt_le; obtain ⟨z, ez, wz, lz⟩ := join_eq n l u a x (by omega) wl wu (by omega); refine ⟨z, ?_, wz, ?_⟩
      ·simp [keqb h2, eu, ez]
      ·rw [lz, lu]
    | false =>
     have he := lt_tri h1 h2; subst he; obtain ⟨z, ez, wz, lz⟩ := both_eq n l r (by omega) wl wr' (by omega); refine ⟨z, ?_, wz, ?_⟩
     ·show _ = some (z, (look k (l.list ++ (k, x) :: r.list)).isSome)
      rw [look_here l.list hA]; simp [ez]
     ·rw [lz]; exact (del_here l.list hA).symm
theorem loop_next {S X : Type} {f : S → Option (Ctl S X)} {n : Nat} {s s' : S} (h : f s = some (.next s')) : loop f (n + 1) s = loop f n s' := by
 show (f s).bind _ = _; rw [h]; rfl
theorem loop_done {S X : Type} {f : S → Option (Ctl S X)} {n : Nat} {s : S} {x : X} (h : f s = some (.done x)) : loop f (n + 1) s = some x := by
 show (f s).bind _ = _; rw [h]; rfl
def gotQ (o : Option TC) : TC × Bool := match o with
 | some x => (x, true)
 | none => (TC.mk [] 0, false)
theorem get_eq : ∀ (n : Nat) (t : Tr) (k : ByteArray), t.hgt < n → Ord t.list →
  t_Get.f n t k = some (gotQ (look k t.list)) := by
 have key : ∀ (n : Nat) (t : Tr) (k : ByteArray), t.hgt < n → Ord t.list →
  loop (t_Get.b1 k) n t = some ((look k t.list).elim (Sum.inl ()) fun x => Sum.inr (x, true)) := by
  intro n
  induction n with
  | zero => intro t k h; omega
  | succ n ih =>
   intro t k hn ho
   cases t with
   | nil => rfl
   | node l r a x s d =>
    obtain ⟨ol, or', hA, hB⟩ := Ord.split (show Ord (l.list ++ (a, x) :: r.list) from ho)
    simp only [Tr.hgt] at hn
    simp only [Tr.list]
    cases h1 : lt k a with
    | true =>
     rw [look_left (x := (a, x)) h1 l.list, loop_next (s' := l)]
     ·exact ih l k (by omega) ol
     ·unfold t_Get.b1
      rw [if_neg (by simp [Tr.isNil])]
      simp [Tr.cs, compare_eq, h1]
    | false =>
     cases h2 : lt a k with
     | true =>
      rw [look_right (x := (a, x)) h2 l.list hA, loop_next (s' := r)]
      ·exact ih r k (by omega) or'
      ·unfold t_Get.b1
       rw [if_neg (by simp [Tr.isNil])]
       simp [Tr.cs, compare_eq, h1, keqb h2]
     | false =>
      have he := lt_tri h1 h2; subst he; rw [look_here l.list hA, loop_done (x := Sum.inr (x, true))]
      ·rfl
      ·unfold t_Get.b1
       rw [if_neg (by simp [Tr.isNil])]
       simp [Tr.cs, compare_eq, h1]
 intro n t k hn ho; unfold t_Get.f
 show (loop (t_Get.b1 k) n t).bind _ = _
 rw [key n t k hn ho]
 cases look k t.list <;> rfl
section
variable {σ X : Type} (g : σ → ByteArray → TC → Option (Ctl σ X))
def foldC : List Ent → σ → Option (Ctl σ X)
 | [], s => some (.next s)
 | (k, v) :: L, s => thenC (g s k v) fun s => foldC L s
theorem thenC_assoc (y : Option (Ctl σ X)) (f h : σ → Option (Ctl σ X)) : thenC (thenC y f) h = thenC y fun s => thenC (f s) h := by
 cases y with
 | none => rfl
 | some c => cases c <;> rfl
theorem foldC_app : ∀ (A B : List Ent) (s : σ), foldC g (A ++ B) s = thenC (foldC g A s) fun s => foldC g B s
 | [], B, s => rfl
 | (k, v) :: A, B, s => by
  show thenC (g s k v) (fun s => foldC g (A ++ B) s) = thenC (thenC (g s k v) fun s => foldC g A s) fun s => foldC g B s
  rw [thenC_assoc]
  congr 1; funext s; exact foldC_app A B s
theorem up_eq : ∀ (t : Tr) (s : σ), Tr.up g t s = foldC g t.list s
 | .nil, s => rfl
 | .node l r k v _ _, s => by
  show thenC (Tr.up g l s) _ = foldC g (l.list ++ (k, v) :: r.list) s
  rw [foldC_app, up_eq l s]
  congr 1; funext s'
  show thenC _ _ = thenC _ _
  congr 1; funext s''; exact up_eq r s''
def above (key : ByteArray) (L : List Ent) : List Ent := L.filter fun e => !lt e.1 key
theorem from_eq (key : ByteArray) : ∀ (t : Tr) (s : σ), Ord t.list → Tr.from key g t s = foldC g (above key t.list) s
 | .nil, s, _ => rfl
 | .node l r k v _ _, s, ho => by
  obtain ⟨ol, or', hA, hB⟩ := Ord.split (show Ord (l.list ++ (k, v) :: r.list) from ho)
  show (cmp_Less.f k key).bind _ = foldC g (above key (l.list ++ (k, v) :: r.list)) s
  rw [less_eq, oB]; unfold above; rw [List.filter_append]
  cases h : lt k key with
  | true =>
   rw [if_pos rfl, from_eq key r s or']; have e1 : l.list.filter (fun e => !lt e.1 key) = [] := by
    rw [List.filter_eq_nil_iff]; intro a ha
    simp [lt_tr (hA a ha) h]
   rw [e1, List.filter_cons, if_neg (by simp [h])]
   rfl
  | false =>
   rw [if_neg (by simp), List.filter_cons, if_pos (by simp [h])]; have e2 : r.list.filter (fun e => !lt e.1 key) = r.list := by
    rw [List.filter_eq_self]; intro a ha; have := hB a ha
    simp only [Bool.not_eq_true']
    cases q : lt a.1 key with
    | false => rfl
    | true => rw [lt_tr this q] at h; cases h
   rw [e2, foldC_app, from_eq key l s ol]
   congr 1; funext s'
   show thenC _ _ = thenC _ _
   congr 1; funext s''; exact up_eq g r s''
end
def seekQ (L : List Ent) : ByteArray × TC × Bool := match L with
 | [] => (.empty, TC.mk [] 0, false)
 | (k, v) :: _ => (k, v, true)
theorem seek_eq (t : Tr) (key : ByteArray) (ho : Ord t.list) :
  t_Seek.f t key = some (seekQ (above key t.list)) := by
 unfold t_Seek.f
 show (some (It.from t key)).bind _ = _
 rw [oB]
 show (Tr.from key _ t ()).bind _ = _
 rw [from_eq _ key t () ho]
 cases above key t.list with
 | nil => rfl
 | cons e L => rfl
abbrev Fuel (k : Nat) : Prop := 1099511627776 ≤ k
theorem be {α β : Type} {x : Option α} {f : α → Option β} {a : α} (h : x = some a) : x.bind f = f a := by rw [h]; rfl
theorem shr7 (n : Nat) : shr .i64 (n : Int) 7 = ((n / 128 : Nat) : Int) := by
 unfold shr; have : (2 : Int) ^ (min (7 : Int).toNat IntKind.i64.bits) = 128 := by decide
 rw [this, Int.fdiv_eq_ediv_of_nonneg _ (by omega)]
 omega
theorem shr7u (n : Nat) : shr .u64 (n : Int) 7 = ((n / 128 : Nat) : Int) := by
 unfold shr; have : (2 : Int) ^ (min (7 : Int).toNat IntKind.u64.bits) = 128 := by decide
 rw [this, Int.fdiv_eq_ediv_of_nonneg _ (by omega)]
 omega
def nmF : Nat → Nat → Nat
 | 0, _ => 0
 | f + 1, n => if n ≤ 127 then 0 else nmF f (n / 128) + 1
def nm (n : Nat) : Nat := 1 + nmF 9 n
theorem nmF_le : ∀ f n, nmF f n ≤ f
 | 0, _ => Nat.le_refl _
 | f + 1, n => by
  have := nmF_le f (n / 128); unfold nmF; split <;> omega
theorem num_loop : ∀ (f n s k : Nat), n < 128 ^ f → f < k → s + f < 1000 → loop (fun (s_ : Int × Int) => table_num.b1 s_.1 s_.2) k ((n : Int), (s : Int)) = some ((s + nmF f n : Nat) : Int)
 | _, _, _, 0, _, h, _ => absurd h (by omega)
 | 0, n, s, k + 1, h, _, _ => by
  have : n = 0 := by simpa using h
  subst this; rw [loop_done (x := (s : Int))]
  ·simp [nmF]
  ·simp [table_num.b1]
 | f + 1, n, s, k + 1, h, hk, hs => by
  by_cases c : n ≤ 127
  ·rw [loop_done (x := (s : Int))]
   ·simp [nmF, c]
   ·unfold table_num.b1; rw [if_neg (by omega)]
  ·have hd : n / 128 < 128 ^ f := by rw [Nat.pow_succ] at h; omega
   rw [loop_next (s' := (((n / 128 : Nat) : Int), ((s + 1 : Nat) : Int)))]
   ·rw [num_loop f (n / 128) (s + 1) k hd (by omega) (by omega)]
    simp only [nmF, if_neg c]; congr 2; omega
   ·unfold table_num.b1
    rw [if_pos (by omega), shr7, wr (by omega) (by omega)]
    congr 3
theorem num_eq {k n : Nat} (hk : Fuel k) (hn : n < 9223372036854775808) : table_num.f k (n : Int) = some (nm n : Int) := by
 unfold table_num.f; rw [show ((n : Int), (1 : Int)) = ((n : Int), ((1 : Nat) : Int)) from rfl, be (num_loop 9 n 1 k (by omega) (by omega) (by omega))]
 rfl
def lg (k : ByteArray) (c : TC) : Int := nm k.size + k.size + nm c.value.length + c.value.length + nm c.rev.toNat
def sz (L : List Ent) : Int := (L.map fun e => lg e.1 e.2).sum
structure Inv (L : List Ent) (r : Nat) : Prop where
 ord : Ord L
 len : L.length ≤ r
 ent : ∀ e ∈ L, 1 ≤ e.1.size ∧ e.1.size ≤ 64 ∧ e.2.value.length ≤ 256 ∧ 1 ≤ e.2.rev ∧ e.2.rev ≤ r
theorem nm_le (n : Nat) : 1 ≤ nm n ∧ nm n ≤ 10 := by have := nmF_le 9 n; unfold nm; omega
theorem lg_le {k : ByteArray} {c : TC} (h1 : k.size ≤ 64) (h2 : c.value.length ≤ 256) : 0 ≤ lg k c ∧ lg k c ≤ 400 := by
 have := nm_le k.size; have := nm_le c.value.length; have := nm_le c.rev.toNat; unfold lg; omega
theorem sz_le : ∀ {L : List Ent} {r : Nat}, (∀ e ∈ L, 1 ≤ e.1.size ∧ e.1.size ≤ 64 ∧ e.2.value.length ≤ 256 ∧ 1 ≤ e.2.rev ∧ e.2.rev ≤ (r : Int)) → 0 ≤ sz L ∧ sz L ≤ 400 * L.length
 | [], _, _ => by simp [sz]
 | e :: L, r, h => by
  have h1 := sz_le (L := L) (r := r) (fun x hx => h x (by simp [hx])); have h2 := h e (by simp); have h3 := lg_le h2.2.1 h2.2.2.1
  simp only [sz, List.map_cons, List.sum_cons, List.length_cons] at h1 ⊢
  omega
theorem long_eq {k : Nat} (hk : Fuel k) {key : ByteArray} {c : TC} (h1 : key.size ≤ 64) (h2 : c.value.length ≤ 256) (h3 : 0 ≤ c.rev) (h4 : c.rev ≤ 1099511627776) : table_long.f k key c = some (lg key c) := by
 have e3 : (c.rev : Int) = ((c.rev.toNat : Nat) : Int) := by omega
 have := nm_le key.size; have := nm_le c.value.length; have := nm_le c.rev.toNat; unfold table_long.f; rw [be (num_eq hk (n := key.size) (by omega)), be (num_eq hk (n := c.value.length) (by omega)), e3, be (num_eq hk (n := c.rev.toNat) (by omega))]; rw [wr (n := (nm key.size : Int) + key.size) (by omega) (by omega), wr (n := (nm key.size : Int) + key.size + nm c.value.length) (by omega) (by omega), wr (n := (nm key.size : Int) + key.size + nm c.value.length + c.value.length) (by omega) (by omega), wr (by omega) (by omega)]
 rfl
theorem sz_cons (e : Ent) (L : List Ent) : sz (e :: L) = lg e.1 e.2 + sz L := by simp [sz]
theorem sz_ins (k : ByteArray) (v : TC) : ∀ L : List Ent, sz (ins k v L) = sz L + lg k v - (look k L).elim 0 (fun o => lg k o)
 | [] => by simp [ins, look, sz]
 | (a, x) :: L => by
  simp only [ins, look]
  split
  ·simp only [sz_cons, Option.elim]; omega
  ·split
   ·rw [sz_cons, sz_cons, sz_ins k v L]; omega
   ·rename_i c1 c2
    have he : k = a := lt_tri (by simpa using c1) (by simpa using c2); subst he
    simp only [sz_cons, Option.elim]; omega
theorem sz_del (k : ByteArray) : ∀ L : List Ent, sz (del k L) = sz L - (look k L).elim 0 (fun o => lg k o)
 | [] => by simp [del, look, sz]
 | (a, x) :: L => by
  simp only [del, look]
  split
  ·simp only [Option.elim]; omega
  ·split
   ·rw [sz_cons, sz_cons, sz_del k L]; omega
   ·rename_i c1 c2
    have he : k = a := lt_tri (by simpa using c1) (by simpa using c2); subst he
    simp only [sz_cons, Option.elim]; omega
theorem Inv.look {L : List Ent} {r : Nat} (h : Inv L r) {k : ByteArray} {c : TC} (hl : look k L = some c) : 1 ≤ k.size ∧ k.size ≤ 64 ∧ c.value.length ≤ 256 ∧ 1 ≤ c.rev ∧ c.rev ≤ r := h.ent _ (look_mem L hl)
theorem Inv.ins {L : List Ent} {r : Nat} (h : Inv L r) {k : ByteArray} {v : List Int} (h1 : 1 ≤ k.size) (h2 : k.size ≤ 64) (h3 : v.length ≤ 256) : Inv (ins k ⟨v, r + 1⟩ L) (r + 1) := by
 refine ⟨ins_ord L h.ord, ?_, fun e he => ?_⟩
 ·have := ins_len k ⟨v, r + 1⟩ L; have := h.len; omega
 ·rcases mem_ins L he with rfl | he
  ·exact ⟨h1, h2, h3, by show (1 : Int) ≤ (r : Int) + 1; omega, by show (r : Int) + 1 ≤ ((r + 1 : Nat) : Int); omega⟩
  ·have := h.ent e he; refine ⟨this.1, this.2.1, this.2.2.1, this.2.2.2.1, ?_⟩; have := this.2.2.2.2; omega
theorem Inv.del {L : List Ent} {r : Nat} (h : Inv L r) (k : ByteArray) : Inv (del k L) (r + 1) := by
 refine ⟨del_ord L h.ord, ?_, fun e he => ?_⟩
 ·have := del_len k L; have := h.len; omega
 ·have := h.ent e (mem_del L he); refine ⟨this.1, this.2.1, this.2.2.1, this.2.2.2.1, ?_⟩; have := this.2.2.2.2; omega
theorem Inv.up {L : List Ent} {r : Nat} (h : Inv L r) : Inv L (r + 1) := by
 refine ⟨h.ord, by have := h.len; omega, fun e he => ?_⟩; have := h.ent e he; refine ⟨this.1, this.2.1, this.2.2.1, this.2.2.2.1, ?_⟩; have := this.2.2.2.2; omega
def Rep (t : Option Tab) (L : List Ent) (r : Nat) : Prop := ∃ rows, t = some ⟨rows, r, sz L⟩ ∧ rows.WF ∧ rows.list = L ∧ Inv L r
def told (r : Int) (k : ByteArray) (o : Option TC) : AA := match o with
 | some c => ⟨true, sb k, c.value, c.rev, r⟩
 | none => ⟨false, [], [], 0, r⟩
def zeroA : AA := ⟨false, [], [], 0, 0⟩
def keyok (o : AO) : Bool := decide (0 < o.Key.length) && decide (o.Key.length ≤ 64)
def right (o : AO) : Bool :=
 if o.Kind = 4 then keyok o && decide (o.Value.length ≤ 256) && decide (0 ≤ o.Rev) && decide (o.Rev ≤ 1099511627776)
 else if o.Kind = 2 then keyok o && decide (o.Value.length ≤ 256) && decide (o.Rev = 0)
 else if o.Kind = 5 then decide (o.Key.length ≤ 65) && decide (o.Value.length = 0) && decide (o.Rev = 0)
 else if o.Kind = 1 ∨ o.Kind = 3 then keyok o && decide (o.Value.length = 0) && decide (o.Rev = 0)
 else false
theorem j4_eq (a b c : Bool) : table_Right.j4 a b c = some (a && b && c) := by cases a <;> cases b <;> cases c <;> rfl
theorem right_eq (o : AO) : table_Right.f o = some (right o) := by
 have hk : ∀ b, (if 0 < (o.Key.length : Int) then table_Right.j1 o (decide ((o.Key.length : Int) ≤ 64)) else table_Right.j1 o false) = some b ↔ table_Right.j1 o (keyok o) = some b := by
  intro b; unfold keyok
  by_cases h : 0 < o.Key.length
  ·rw [if_pos (by omega), dt h, Bool.true_and]
   have : decide ((o.Key.length : Int) ≤ 64) = decide (o.Key.length ≤ 64) := by apply decide_eq_decide.2; omega
   rw [this]
  ·rw [if_neg (by omega), dz h, Bool.false_and]
 unfold table_Right.f; rw [hk]; have v1 : decide ((o.Value.length : Int) ≤ 256) = decide (o.Value.length ≤ 256) := by apply decide_eq_decide.2; omega
 have v2 : decide ((o.Value.length : Int) = 0) = decide (o.Value.length = 0) := by apply decide_eq_decide.2; omega
 have v3 : decide ((o.Key.length : Int) ≤ 65) = decide (o.Key.length ≤ 65) := by apply decide_eq_decide.2; omega
 unfold table_Right.j1 table_Right.j2 table_Right.j3 right
 simp only [j4_eq, v1, v2, v3]
 by_cases c4 : o.Kind = 4
 ·simp only [c4, if_true]
  by_cases c : 0 ≤ o.Rev
  ·simp [c]
  ·simp [c]
 ·simp only [c4, if_false]
  by_cases c2 : o.Kind = 2
  ·simp only [c2, if_true]
  ·simp only [c2, if_false]
   by_cases c5 : o.Kind = 5
   ·simp only [c5, if_true]
   ·simp only [c5, if_false]
    by_cases c1 : o.Kind = 1
    ·simp [c1]
    ·by_cases c3 : o.Kind = 3
     ·simp [c3]
     ·simp [c1, c3]
def isW (o : AO) : Bool := decide (o.Kind = 2) || decide (o.Kind = 3) || decide (o.Kind = 4)
theorem writes_eq (o : AO) : table_writes.f o = some (isW o) := by
 unfold table_writes.f isW
 by_cases c2 : o.Kind = 2
 ·simp [c2]
 ·by_cases c3 : o.Kind = 3
  ·simp [c3]
  ·simp [c2, c3]
theorem bs_size (l : List Int) : (bs l).size = l.length := by simp [bs, ByteArray.size]
theorem right_key {o : AO} (h : right o = true) : o.Key.length ≤ 65 ∧ o.Value.length ≤ 256 ∧ (o.Kind ≠ 5 → 1 ≤ o.Key.length ∧ o.Key.length ≤ 64) ∧ (o.Kind = 1 ∨ o.Kind = 2 ∨ o.Kind = 3 ∨ o.Kind = 4 ∨ o.Kind = 5) := by
 unfold right keyok at h
 split at h
 ·simp only [Bool.and_eq_true, decide_eq_true_eq] at h; omega
 ·split at h
  ·simp only [Bool.and_eq_true, decide_eq_true_eq] at h; omega
  ·split at h
   ·simp only [Bool.and_eq_true, decide_eq_true_eq] at h; omega
   ·split at h
    ·simp only [Bool.and_eq_true, decide_eq_true_eq] at h; omega
    ·cases h
theorem told_some {rows : Tr} {r z : Int} {k : ByteArray} {c : TC} (h1 : k.size ≤ 1000) (h2 : c.value.length ≤ 1000) : T_told.f (some ⟨rows, r, z⟩) k c true = some (told r k (some c)) := by
 unfold T_told.f bC_.f
 simp only [oB, if_true]
 rw [if_pos (by omega), if_pos (by omega)]
 rfl
theorem told_none {rows : Tr} {r z : Int} {k : ByteArray} {c : TC} : T_told.f (some ⟨rows, r, z⟩) k c false = some (told r k none) := by
 unfold T_told.f
 simp [told]
theorem told_look {rows : Tr} {r z : Int} {k : ByteArray} {L : List Ent} {n : Nat} (hI : Inv L n) :
  T_told.f (some ⟨rows, r, z⟩) k (gotQ (look k L)).1 (gotQ (look k L)).2 = some (told r k (look k L)) := by
 cases h : look k L with
 | none => exact told_none
 | some c => have := hI.look h; exact told_some (k := k) (c := c) (by omega) (by omega)
def okE (e : Ent) : Prop := e.1.size ≤ 64 ∧ e.2.value.length ≤ 256 ∧ 0 ≤ e.2.rev ∧ e.2.rev ≤ 1099511627776
theorem sz_ok : ∀ {L : List Ent}, (∀ e ∈ L, okE e) → 0 ≤ sz L ∧ sz L ≤ 400 * L.length
 | [], _ => by simp [sz]
 | e :: L, h => by
  have h1 := sz_ok (L := L) (fun x hx => h x (by simp [hx])); have h2 := h e (by simp); have h3 := lg_le h2.1 h2.2.1
  simp only [sz, List.map_cons, List.sum_cons, List.length_cons] at h1 ⊢
  omega
theorem set_put0 {k : Nat} (hk : Fuel k) {rows : Tr} {L : List Ent} {R : Int} (hlen : L.length < 10000000000) (hw : rows.WF) (hl : rows.list = L) (ho : Ord L) (hE : ∀ e ∈ L, okE e) {key : ByteArray} {c : TC} (hc : okE (key, c)) :
  ∃ u, T_set.f k (some ⟨rows, R, sz L⟩) key c true = some (some ⟨u, R, sz (ins key c L)⟩) ∧ u.WF ∧ u.list = ins key c L := by
 subst hl; have hh := rows.hgt_le; obtain ⟨u, eu, wu, lu⟩ := put_eq k rows key c (by have : 1099511627776 ≤ k := hk; omega) hw ho (by unfold big; omega); have hsz := sz_ok hE; have hlg := lg_le (k := key) (c := c) hc.1 hc.2.1; have hlk : 0 ≤ (look key rows.list).elim 0 (fun o => lg key o) ∧ (look key rows.list).elim 0 (fun o => lg key o) ≤ 400 := by
  cases h : look key rows.list with
  | none => simp
  | some x => have := hE _ (look_mem _ h); exact lg_le (k := key) (c := x) this.1 this.2.1
 have hput : T_set.j1 k key c true ⟨rows, R, sz rows.list⟩ (sz rows.list - (look key rows.list).elim 0 (fun o => lg key o)) = some (some ⟨u, R, sz (ins key c rows.list)⟩) := by
  unfold T_set.j1; rw [if_pos rfl, be eu, be (long_eq hk (key := key) (c := c) hc.1 hc.2.1 hc.2.2.1 hc.2.2.2)]; rw [sz_ins]; rw [wr (by omega) (by omega)]
  simp only [Option.some.injEq, Tab.mk.injEq, true_and]; omega
 refine ⟨u, ?_, wu, lu⟩; unfold T_set.f
 simp only [oB]
 rw [be (get_eq k rows key (by have : 1099511627776 ≤ k := hk; omega) ho)]
 cases h : look key rows.list with
 | none =>
  rw [h] at hput
  simp only [Option.elim, Int.sub_zero] at hput
  rw [if_neg (by simp [gotQ])]; exact hput
 | some x =>
  have hx := hE _ (look_mem _ h); rw [h] at hput
  simp only [Option.elim] at hput
  have hL : table_long.f k key (gotQ (some x)).1 = some (lg key x) := long_eq hk (c := x) hx.1 hx.2.1 hx.2.2.1 hx.2.2.2; rw [if_pos (show (gotQ (some x)).2 = true from rfl), be hL]; have := lg_le (k := key) (c := x) hx.1 hx.2.1; rw [wr (by omega) (by omega)]; exact hput
theorem set_put {k : Nat} (hk : Fuel k) {rows : Tr} {L : List Ent} {r : Nat} (hr : r < 4194304) (hw : rows.WF) (hl : rows.list = L) (hI : Inv L r) {key : ByteArray} {v : List Int} (h1 : 1 ≤ key.size) (h2 : key.size ≤ 64) (h3 : v.length ≤ 256) :
  ∃ t, T_set.f k (some ⟨rows, r + 1, sz L⟩) key ⟨v, r + 1⟩ true = some t ∧ Rep t (ins key ⟨v, r + 1⟩ L) (r + 1) := by
 obtain ⟨u, e, wu, lu⟩ := set_put0 hk (R := (r : Int) + 1) (Nat.lt_trans (Nat.lt_of_le_of_lt hI.len hr) (by omega)) hw hl hI.ord (fun e he => by have := hI.ent e he; exact ⟨this.2.1, this.2.2.1, by omega, by omega⟩) (key := key) (c := ⟨v, (r : Int) + 1⟩) ⟨h2, h3, by show (0 : Int) ≤ (r : Int) + 1; omega, by show (r : Int) + 1 ≤ _; omega⟩; exact ⟨_, e, u, rfl, wu, lu, hI.ins h1 h2 h3⟩
theorem set_del {k : Nat} (hk : Fuel k) {rows : Tr} {L : List Ent} {r : Nat} (hr : r < 4194304) (hw : rows.WF) (hl : rows.list = L) (hI : Inv L r) {key : ByteArray} {c0 : TC} :
  ∃ t, T_set.f k (some ⟨rows, r + 1, sz L⟩) key c0 false = some t ∧ Rep t (del key L) (r + 1) := by
 subst hl; have hlen := hI.len; have hh := rows.hgt_le; obtain ⟨u, eu, wu, lu⟩ := delete_eq k rows key (by have : 1099511627776 ≤ k := hk; omega) hw hI.ord (by unfold big; omega); have hsz := sz_le hI.ent; have hput : T_set.j1 k key c0 false ⟨rows, r + 1, sz rows.list⟩ (sz rows.list - (look key rows.list).elim 0 (fun o => lg key o)) = some (some ⟨u, r + 1, sz (del key rows.list)⟩) := by
  unfold T_set.j1; rw [if_neg (by simp), be eu, sz_del]
 refine ⟨_, ?_, u, rfl, wu, lu, hI.del key⟩; unfold T_set.f
 simp only [oB]
 rw [be (get_eq k rows key (by have : 1099511627776 ≤ k := hk; omega) hI.ord)]; rw [show ((r + 1 : Nat) : Int) = (r : Int) + 1 by omega]
 cases h : look key rows.list with
 | none =>
  rw [h] at hput
  simp only [Option.elim, Int.sub_zero] at hput
  rw [if_neg (by simp [gotQ])]; exact hput
 | some c =>
  have hc := hI.look h; rw [h] at hput
  simp only [Option.elim] at hput
  have hL : table_long.f k key (gotQ (some c)).1 = some (lg key c) := long_eq hk (c := c) hc.2.1 hc.2.2.1 (by omega) (by omega); rw [if_pos (show (gotQ (some c)).2 = true from rfl), be hL]; have := lg_le hc.2.1 hc.2.2.1; rw [wr (by omega) (by omega)]; exact hput
def act (L : List Ent) (r : Nat) (o : AO) : AA × Int × List Ent × Nat :=
 if right o = false then (zeroA, 131, L, r)
 else if o.Kind = 5 then ((match above (bs o.Key) L with | [] => told r .empty none | (k, v) :: _ => told r k (some v)), 0, L, r)
 else if o.Kind = 1 then (told r (bs o.Key) (look (bs o.Key) L), 0, L, r)
 else if o.Kind = 3 then (told ((r : Int) + 1) (bs o.Key) (look (bs o.Key) L), 0, del (bs o.Key) L, r + 1)
 else if o.Kind = 2 ∨ (look (bs o.Key) L).elim 0 (fun c => c.rev) = o.Rev then ({ told ((r : Int) + 1) (bs o.Key) (look (bs o.Key) L) with Done := true }, 0, ins (bs o.Key) ⟨o.Value, r + 1⟩ L, r + 1)
 else ({ told ((r : Int) + 1) (bs o.Key) (look (bs o.Key) L) with Done := false }, 0, L, r + 1)
theorem above_mem {key : ByteArray} {L : List Ent} {e : Ent} {M : List Ent} (h : above key L = e :: M) : e ∈ L := by
 have : e ∈ above key L := by rw [h]; simp
 exact (List.mem_filter.1 this).1
theorem do_eq {k : Nat} (hk : Fuel k) {t : Option Tab} {L : List Ent} {r : Nat} (hr : r < 4194304) (hT : Rep t L r) (o : AO) :
  ∃ t', T_Do.f k t o = some ((act L r o).1, (act L r o).2.1, t') ∧ Rep t' (act L r o).2.2.1 (act L r o).2.2.2 := by
 obtain ⟨rows, rfl, hw, hl, hI⟩ := hT; subst hl; have hT : Rep (some ⟨rows, r, sz rows.list⟩) rows.list r := ⟨rows, rfl, hw, rfl, hI⟩; have hlen := hI.len; have hh := rows.hgt_le; have h24 : 1099511627776 ≤ k := hk; unfold T_Do.f act; rw [if_neg (by simp), be (right_eq o)]
 cases hR : right o with
 | false => exact ⟨_, rfl, hT⟩
 | true =>
  obtain ⟨k1, k2, k3, k4⟩ := right_key hR; rw [if_pos rfl, if_neg (show ¬ (true = false) by simp)]
  by_cases c5 : o.Kind = 5
  ·rw [if_pos c5, if_pos c5]
   simp only [oB]
   rw [be (seek_eq rows (bs o.Key) hI.ord)]; unfold T_Do.j1
   cases hA : above (bs o.Key) rows.list with
   | nil =>
    refine ⟨_, ?_, hT⟩; rw [be (show T_told.f (some ⟨rows, r, sz rows.list⟩) (seekQ []).1 (seekQ []).2.1 (seekQ []).2.2 = _ from told_none)]; rfl
   | cons e M =>
    have := hI.ent e (above_mem hA); refine ⟨_, ?_, hT⟩; rw [be (show T_told.f (some ⟨rows, r, sz rows.list⟩) (seekQ (e :: M)).1 (seekQ (e :: M)).2.1 (seekQ (e :: M)).2.2 = _ from told_some (k := e.1) (c := e.2) (by omega) (by omega))]
  ·rw [if_neg c5, if_neg c5]
   have k3' := k3 c5
   simp only [oB]
   rw [be (get_eq k rows (bs o.Key) (by omega) hI.ord), be (writes_eq o)]
   by_cases c1 : o.Kind = 1
   ·rw [if_pos c1, if_neg (by simp [isW, c1])]
    refine ⟨_, ?_, hT⟩; rw [be (told_look hI)]
   ·have hiw : isW o = true := by unfold isW; simp; omega
    rw [if_neg c1, if_pos hiw, if_neg (by show ¬ ((r : Int) = _); omega)]; rw [wr (n := (r : Int) + 1) (by omega) (by omega), be (told_look hI)]; have hcl : bC_.f o.Value = some o.Value := by unfold bC_.f; rw [if_pos (by omega)]
    rw [be hcl]; unfold T_Do.j2; rw [wr (n := (r : Int) + 1) (by omega) (by omega)]
    by_cases c3 : o.Kind = 3
    ·rw [if_pos c3, if_pos c3]
     obtain ⟨t', e', R'⟩ := set_del hk (c0 := ⟨o.Value, (r : Int) + 1⟩) (key := bs o.Key) hr hw rfl hI; exact ⟨t', by rw [be e'], R'⟩
    ·rw [if_neg c3, if_neg c3]
     obtain ⟨t', e', R'⟩ := set_put hk (key := bs o.Key) (v := o.Value) hr hw rfl hI (by rw [bs_size]; omega) (by rw [bs_size]; omega) k2; have hj : ∀ b, T_Do.j3 k o ⟨rows, r, sz rows.list⟩ (told ((r : Int) + 1) (bs o.Key) (look (bs o.Key) rows.list)) o.Value b = if b = true then some ({ told ((r : Int) + 1) (bs o.Key) (look (bs o.Key) rows.list) with Done := true }, 0, t') else some ({ told ((r : Int) + 1) (bs o.Key) (look (bs o.Key) rows.list) with Done := false }, 0, some ⟨rows, r + 1, sz rows.list⟩) := by
      intro b; unfold T_Do.j3; rw [wr (n := (r : Int) + 1) (by omega) (by omega)]
      cases b with
      | true => rw [if_pos rfl, if_pos rfl, be e']
      | false => rw [if_neg (by simp), if_neg (by simp)]
     have hold : (gotQ (look (bs o.Key) rows.list)).1.rev = (look (bs o.Key) rows.list).elim 0 (fun c => c.rev) := by
      cases look (bs o.Key) rows.list <;> rfl
     by_cases c2 : o.Kind = 2
     ·rw [if_pos c2, if_pos (Or.inl c2), hj, if_pos rfl]
      exact ⟨t', rfl, R'⟩
     ·rw [if_neg c2, hj, hold]
      by_cases c : (look (bs o.Key) rows.list).elim 0 (fun c => c.rev) = o.Rev
      ·rw [if_pos (Or.inr c), if_pos (by simp [c])]
       exact ⟨t', rfl, R'⟩
      ·rw [if_neg (show ¬ (o.Kind = 2 ∨ (look (bs o.Key) rows.list).elim 0 (fun c => c.rev) = o.Rev) from fun h => h.elim c2 c), if_neg (by simp [c])]
       exact ⟨_, rfl, rows, by simp, hw, rfl, hI.up⟩
theorem act_r (L : List Ent) (r : Nat) (o : AO) : (act L r o).2.2.2 = r ∨ (act L r o).2.2.2 = r + 1 := by
 unfold act
 repeat' split
 all_goals simp
theorem new_rep : ∃ t, table_New.f = some t ∧ Rep t [] 0 := ⟨_, rfl, .nil, rfl, trivial, rfl, ⟨List.Pairwise.nil, Nat.le_refl _, fun e he => by cases he⟩⟩
theorem rd_eq {α : Type} [Inhabited α] {xs : List α} {i : Nat} (h : i < xs.length) : rd xs (i : Int) = xs[i] := by
 unfold rd; rw [Int.toNat_natCast, List.getD_eq_getElem?_getD, List.getElem?_eq_getElem h]
 rfl
theorem take_one {α : Type} {xs : List α} {i : Nat} (h : i < xs.length) : xs.take (i + 1) = xs.take i ++ [xs[i]] := by
 rw [List.take_add_one, List.getElem?_eq_getElem h]; rfl
theorem wrS (i : Nat) (h : i < 1000000000000) : IntKind.i64.wrap ((i : Int) + 1) = ((i + 1 : Nat) : Int) := by rw [wr (by omega) (by omega)]; omega
abbrev St := List Ent × Nat
def stepS (s : St) (o : AO) : St := (act s.1 s.2 o).2.2
theorem step_r (s : St) (o : AO) : (stepS s o).2 = s.2 ∨ (stepS s o).2 = s.2 + 1 := act_r s.1 s.2 o
abbrev RepS (t : Option Tab) (s : St) : Prop := Rep t s.1 s.2
theorem do_step {k : Nat} (hk : Fuel k) {t : Option Tab} {s : St} (hr : s.2 < 4194304) (hT : RepS t s) (o : AO) :
  ∃ t', T_Do.f k t o = some ((act s.1 s.2 o).1, (act s.1 s.2 o).2.1, t') ∧ RepS t' (stepS s o) := do_eq hk hr hT o
theorem loop_inv {S X : Type} {f : S → Option (Ctl S X)} {I : Nat → S → Prop} {P : X → Prop} {N : Nat}
  (step : ∀ i s, i < N → I i s → (∃ s', f s = some (.next s') ∧ I (i + 1) s') ∨ (∃ x, f s = some (.done x) ∧ P x))
  (last : ∀ s, I N s → ∃ x, f s = some (.done x) ∧ P x) : ∀ (n i : Nat) (s : S) (m : Nat), I i s → i + n = N → n < m → ∃ x, loop f m s = some x ∧ P x
 | _, _, _, 0, _, _, h => absurd h (by omega)
 | 0, i, s, m + 1, hI, hN, _ => by
  obtain rfl : i = N := by omega
  obtain ⟨x, h1, h2⟩ := last s hI; exact ⟨x, loop_done h1, h2⟩
 | n + 1, i, s, m + 1, hI, hN, hm => by
  rcases step i s (by omega) hI with ⟨s', h1, h2⟩ | ⟨x, h1, h2⟩
  ·rw [loop_next h1]
   exact loop_inv step last n (i + 1) s' m h2 (by omega) (by omega)
  ·exact ⟨x, loop_done h1, h2⟩
def fmP : Nat → Nat → List Int
 | 0, _ => []
 | f + 1, n => if n ≤ 127 then [] else bor .u8 (IntKind.u8.wrap n) 128 :: fmP f (n / 128)
def fmL : Nat → Nat → Nat
 | 0, n => n
 | f + 1, n => if n ≤ 127 then n else fmL f (n / 128)
def fm (n : Nat) : List Int := fmP 9 n ++ [IntKind.u8.wrap (fmL 9 n)]
theorem fmP_len : ∀ f n, (fmP f n).length = nmF f n
 | 0, _ => rfl
 | f + 1, n => by
  unfold fmP nmF
  split
  ·rfl
  ·rw [List.length_cons, fmP_len f]
theorem fm_len (n : Nat) : (fm n).length = nm n := by unfold fm nm; rw [lA, fmP_len]; simp; omega
theorem form_loop : ∀ (f n k : Nat) (l : List Int), n < 128 ^ f → f < k → l.length + f < 1000 → loop (fun (s_ : Int × List Int) => parcel_form.b1 s_.1 s_.2) k ((n : Int), l) = some ((fmL f n : Int), l ++ fmP f n)
 | _, _, 0, _, _, h, _ => absurd h (by omega)
 | 0, n, k + 1, l, h, _, _ => by
  have : n = 0 := by simpa using h
  subst this; rw [loop_done (x := ((0 : Int), l))]
  ·simp [fmP, fmL]
  ·simp [parcel_form.b1]
 | f + 1, n, k + 1, l, h, hk, hs => by
  by_cases c : n ≤ 127
  ·rw [loop_done (x := ((n : Int), l))]
   ·simp [fmP, fmL, c]
   ·unfold parcel_form.b1; rw [if_neg (by omega)]
  ·have hd : n / 128 < 128 ^ f := by rw [Nat.pow_succ] at h; omega
   rw [loop_next (s' := (((n / 128 : Nat) : Int), l ++ [bor .u8 (IntKind.u8.wrap n) 128]))]
   ·rw [form_loop f (n / 128) k _ hd (by omega) (by simp; omega)]
    simp [fmP, fmL, c]
   ·unfold parcel_form.b1
    rw [if_pos (by omega), if_pos (by simp; omega), shr7u]
theorem form_eq {k n : Nat} (hk : Fuel k) (hn : n < 9223372036854775808) : parcel_form.f k (n : Int) = some (fm n) := by
 have h24 : 1099511627776 ≤ k := hk; have := nmF_le 9 n; unfold parcel_form.f; rw [if_pos (by decide), be (form_loop 9 n k _ (by omega) (by omega) (by simp))]; unfold parcel_form.j2
 simp only [Int.toNat_zero, List.replicate_zero, List.nil_append]
 rw [if_pos (by rw [fmP_len]; simp; omega)]
 rfl
theorem wru {n : Int} (h0 : 0 ≤ n) (h1 : n < 9223372036854775808) : IntKind.u64.wrap n = n := by
 simp only [IntKind.wrap, IntKind.bits, IntKind.signed]; simp; omega
abbrev W (room : Int) (b : List Int) : Option Wri := some ⟨room, b, [], 0⟩
theorem lay_eq {room : Int} {b a : List Int} (h1 : (b.length + a.length : Nat) ≤ room) (h2 : room ≤ 1000000000000) : W_lay.f (W room b) a = some (W room (b ++ a)) := by
 unfold W_lay.f W_whole.f
 simp only [Option.isNone_some, Bool.false_eq_true, if_false, oB, decide_true, if_true]
 rw [wr (by omega) (by omega), if_neg (by omega), if_pos (by omega)]
theorem Num_eq {k : Nat} (hk : Fuel k) {room : Int} {b : List Int} {n : Nat} (hn : n < 9223372036854775808) (h1 : (b.length + (fm n).length : Nat) ≤ room) (h2 : room ≤ 1000000000000) :
  W_Num.f k (W room b) (n : Int) = some (W room (b ++ fm n)) := by
 unfold W_Num.f; rw [be (form_eq hk hn), be (lay_eq h1 h2)]
theorem concat_eq {k : Nat} (hk : Fuel k) {x y : List Int} (h : x.length + y.length < 2000000000000) : sC_.f k [x, y] = some (x ++ y) := by
 have h24 : 1099511627776 ≤ k := hk; obtain ⟨q, rfl⟩ : ∃ q, k = q + 1 + 1 + 1 := ⟨k - 3, by omega⟩; unfold sC_.f; have e1 : loop (fun (s_ : Int × Int) => sC_.b1 [x, y] s_.1 s_.2) (q + 1 + 1 + 1) (0, 0) = some ((x.length + y.length : Nat) : Int) := by
  rw [loop_next (s' := ((x.length : Int), (1 : Int)))]
  ·rw [loop_next (s' := (((x.length + y.length : Nat) : Int), (2 : Int)))]
   ·refine loop_done ?_
    simp [sC_.b1]
   ·have r1 : rd [x, y] 1 = y := rfl
    have w1 : IntKind.i64.wrap ((x.length : Int) + (y.length : Int)) = ((x.length + y.length : Nat) : Int) := by rw [wr (by omega) (by omega)]; omega
    unfold sC_.b1
    simp only [r1, w1]
    rw [if_pos (by simp), if_pos (by simp), if_neg (by omega)]
    rfl
  ·have r1 : rd [x, y] 0 = x := rfl
   have w1 : IntKind.i64.wrap (0 + (x.length : Int)) = (x.length : Int) := by rw [wr (by omega) (by omega)]; omega
   unfold sC_.b1
   simp only [r1, w1]
   rw [if_pos (by simp), if_pos (by simp), if_neg (by omega)]
   rfl
 rw [be e1]; unfold sC_.j2; have e2 : slices_Grow.f [] ((x.length + y.length : Nat) : Int) = some [] := by
  unfold slices_Grow.f; rw [if_pos ⟨by omega, by omega, rfl⟩]
 rw [be e2]; have e3 : loop (fun (s_ : (List Int) × Int) => sC_.b3 [x, y] s_.1 s_.2) (q + 1 + 1 + 1) ([], 0) = some (x ++ y) := by
  rw [loop_next (s' := (x, (1 : Int)))]
  ·rw [loop_next (s' := (x ++ y, (2 : Int)))]
   ·refine loop_done ?_
    simp [sC_.b3]
   ·have r1 : rd [x, y] 1 = y := rfl
    unfold sC_.b3
    simp only [r1]
    rw [if_pos (by simp), if_pos (by simp), if_pos (by omega)]
    rfl
  ·have r1 : rd [x, y] 0 = x := rfl
   unfold sC_.b3
   simp only [r1]
   rw [if_pos (by simp), if_pos (by simp), if_pos (by simp; omega)]
   rfl
 rw [be e3]
 rfl
theorem Text_eq {k : Nat} (hk : Fuel k) {room : Int} {b a : List Int} (h1 : (b.length + (fm a.length).length + a.length : Nat) ≤ room) (h2 : room ≤ 1000000000000) :
  W_Text.f k (W room b) a = some (W room (b ++ (fm a.length ++ a))) := by
 have := fm_len a.length; have := nm_le a.length; have e : ((b.length + (fm a.length ++ a).length : Nat) : Int) ≤ room := by rw [lA]; omega
 unfold W_Text.f; rw [wru (by omega) (by omega), be (form_eq hk (by omega)), be (concat_eq hk (by omega)), be (lay_eq e h2)]
def ef (e : Ent) : List Int := (fm e.1.size ++ sb e.1) ++ ((fm e.2.value.length ++ e.2.value) ++ fm e.2.rev.toNat)
theorem sb_len (k : ByteArray) : (sb k).length = k.size := by unfold sb; rw [List.length_map]; rfl
theorem ef_len (e : Ent) : ((ef e).length : Int) = lg e.1 e.2 := by
 unfold ef lg
 simp only [lA, fm_len, sb_len]; omega
theorem bytes_fold {k : Nat} (hk : Fuel k) {room : Int} (h2 : room ≤ 1000000000000) {r : Nat} (hr : r ≤ 1099511627776) : ∀ (L : List Ent) (b : List Int), (∀ e ∈ L, 1 ≤ e.1.size ∧ e.1.size ≤ 64 ∧ e.2.value.length ≤ 256 ∧ 1 ≤ e.2.rev ∧ e.2.rev ≤ (r : Int)) → b.length + sz L ≤ room →
  foldC (fun (s_ : (Option Wri)) (k_ : ByteArray) (v_ : TC) => T_Bytes.b1 k s_ k_ v_) L (W room b) = some (.next (W room (b ++ L.flatMap ef)))
 | [], b, _, _ => by simp [foldC]
 | e :: L, b, h, hb => by
  have he := h e (by simp); have h3 := sz_le (L := L) (r := r) (fun x hx => h x (by simp [hx])); rw [sz_cons] at hb; have hl := ef_len e; have hl' := hl; unfold lg at hl'; have f1 := fm_len e.1.size; have f2 := fm_len e.2.value.length; have f3 := fm_len e.2.rev.toNat; have hs := sb_len e.1; have hrev : e.2.rev = ((e.2.rev.toNat : Nat) : Int) := by omega
  have step : T_Bytes.b1 k (W room b) e.1 e.2 = some (Ctl.next (W room (b ++ ef e))) := by
   unfold T_Bytes.b1; rw [if_pos (by omega), be (Text_eq hk (a := sb e.1) (by rw [hs]; omega) h2), be (Text_eq hk (a := e.2.value) (by simp only [lA, hs]; omega) h2), hrev, wru (by omega) (by omega),
    be (Num_eq hk (n := e.2.rev.toNat) (by omega) (by simp only [lA, hs]; omega) h2)]
   unfold ef; rw [hs]
   simp only [List.append_assoc]
  show thenC (T_Bytes.b1 k (W room b) e.1 e.2) _ = _
  rw [step]
  show foldC _ L (W room (b ++ ef e)) = _
  rw [bytes_fold hk h2 hr L (b ++ ef e) (fun x hx => h x (by simp [hx])) (by simp only [lA]; omega)]
  simp
def form (s : St) : List Int := fm s.2 ++ fm s.1.length ++ s.1.flatMap ef
theorem done_eq {room : Int} {b : List Int} (h : b.length ≤ 1000000000000) : W_Done.f (W room b) = some (b, 0) := by
 unfold W_Done.f
 simp only [Option.isNone_some, Bool.false_eq_true, if_false, oB, if_true, List.length_nil]
 rw [if_neg (by omega), if_pos (by omega)]
 simp
theorem RepS.inv {t : Option Tab} {s : St} (hT : RepS t s) : Inv s.1 s.2 := by obtain ⟨rows, _, _, _, hI⟩ := hT; exact hI
theorem size_eq0 {k : Nat} (hk : Fuel k) {t : Option Tab} {s : St} (hl0 : s.1.length < 2000000000) (hr : s.2 ≤ 1099511627776) (hT : RepS t s) : T_Size.f k t = some (nm s.2 + nm s.1.length + sz s.1) := by
 obtain ⟨rows, rfl, hw, hl, hI⟩ := hT; have hlen := hI.len; have hsz := sz_le hI.ent; have := nm_le s.2; have := nm_le s.1.length; unfold T_Size.f
 simp only [Option.isNone_some, Bool.false_eq_true, if_false, oB]
 rw [be (num_eq hk (n := s.2) (by omega)), be (len_eq hw), hl, be (num_eq hk (n := s.1.length) (by omega)), wr (n := (nm s.2 : Int) + nm s.1.length) (by omega) (by omega), wr (by omega) (by omega)]
theorem size_eq {k : Nat} (hk : Fuel k) {t : Option Tab} {s : St} (hr : s.2 < 4194304) (hT : RepS t s) : T_Size.f k t = some (nm s.2 + nm s.1.length + sz s.1) := size_eq0 hk (Nat.lt_trans (Nat.lt_of_le_of_lt hT.inv.len hr) (by omega)) (by omega) hT
theorem flat_len : ∀ L : List Ent, ((L.flatMap ef).length : Int) = sz L
 | [] => rfl
 | e :: L => by rw [List.flatMap_cons, lA, sz_cons, ← flat_len L, ← ef_len]; omega
theorem bytes_eq0 {k : Nat} (hk : Fuel k) {t : Option Tab} {s : St} (hl0 : s.1.length < 2000000000) (hr : s.2 ≤ 1099511627776) (hT : RepS t s) : T_Bytes.f k t = some (form s) := by
 have hS := size_eq0 hk hl0 hr hT; obtain ⟨rows, rfl, hw, hl, hI⟩ := hT; have hlen := hI.len; have hsz := sz_le hI.ent; have h1 := nm_le s.2; have h2 := nm_le s.1.length; have f1 := fm_len s.2; have f2 := fm_len s.1.length; unfold T_Bytes.f; rw [if_neg (by simp), be hS]; have e0 : parcel_New.f (nm s.2 + nm s.1.length + sz s.1) = some (W (nm s.2 + nm s.1.length + sz s.1) []) := by
  unfold parcel_New.f; rw [Int.max_eq_left (by omega)]
 rw [be e0]
 simp only [oB]
 rw [wru (by omega) (by omega), be (Num_eq hk (n := s.2) (by omega) (by simp only [List.length_nil]; omega) (by omega)), be (len_eq hw), hl, wru (by omega) (by omega),
  be (Num_eq hk (n := s.1.length) (by omega) (by simp only [lA, List.length_nil]; omega) (by omega))]
 show (some (It.all rows)).bind _ = _
 rw [oB]
 show (Tr.up _ rows _).bind _ = _
 rw [up_eq, hl, be (bytes_fold hk (by omega) hr s.1 _ hI.ent (by simp only [lA, List.length_nil]; omega))]; have hfl := flat_len s.1
 show (W_Done.f _).bind _ = _
 rw [be (done_eq (by simp only [lA, List.length_nil]; omega))]
 simp [form]
theorem bytes_eq {k : Nat} (hk : Fuel k) {t : Option Tab} {s : St} (hr : s.2 < 4194304) (hT : RepS t s) : T_Bytes.f k t = some (form s) := bytes_eq0 hk (Nat.lt_trans (Nat.lt_of_le_of_lt hT.inv.len hr) (by omega)) (by omega) hT
theorem copy_eq {t : Option Tab} {s : St} (hT : RepS t s) : T_Copy.f t = some t := by
 obtain ⟨rows, rfl, hw, hl, hI⟩ := hT
 rfl
theorem Rev_eq {t : Option Tab} {s : St} (hT : RepS t s) : T_Rev.f t = some (s.2 : Int) := by
 obtain ⟨rows, rfl, hw, hl, hI⟩ := hT
 rfl
theorem Len_eq {t : Option Tab} {s : St} (hT : RepS t s) : T_Len.f t = some (s.1.length : Int) := by
 obtain ⟨rows, rfl, hw, hl, hI⟩ := hT; unfold T_Len.f; rw [if_neg (by simp)]
 show (t_Len.f rows).bind _ = _
 rw [be (len_eq hw), hl]
def rowOf (e : Ent) : AW := ⟨sb e.1, e.2.value, e.2.rev⟩
theorem rows_fold : ∀ (L : List Ent) (b : List AW), (∀ e ∈ L, e.1.size ≤ 64 ∧ e.2.value.length ≤ 256) → b.length + L.length ≤ 2000000000 →
  foldC (X := Unit) (fun (s_ : List AW) (k_ : ByteArray) (v_ : TC) => T_Rows.b1 s_ k_ v_) L b = some (.next (b ++ L.map rowOf))
 | [], b, _, _ => by simp [foldC]
 | e :: L, b, h, hb => by
  have he := h e (by simp); rw [List.length_cons] at hb; have step : T_Rows.b1 b e.1 e.2 = some (Ctl.next (b ++ [rowOf e])) := by
   unfold T_Rows.b1 bC_.f; rw [if_pos (by omega), if_pos (by omega), oB, if_pos (by simp only [List.length_singleton]; omega)]
   rfl
  show thenC (T_Rows.b1 b e.1 e.2) _ = _
  rw [step]
  show foldC _ L (b ++ [rowOf e]) = _
  rw [rows_fold L _ (fun x hx => h x (by simp [hx])) (by simp; omega)]
  simp
theorem Rows_eq0 {t : Option Tab} {s : St} (hl0 : s.1.length < 2000000000) (hT : RepS t s) : T_Rows.f t = some (s.1.map rowOf) := by
 obtain ⟨rows, rfl, hw, hl, hI⟩ := hT; have hlen := hI.len; unfold T_Rows.f; rw [if_neg (by simp)]
 show (Tr.up _ rows _).bind _ = _
 rw [up_eq, hl, be (rows_fold s.1 [] (fun e he => ⟨(hI.ent e he).2.1, (hI.ent e he).2.2.1⟩) (by simp; omega))]
 rfl
theorem Rows_eq {t : Option Tab} {s : St} (hr : s.2 < 4194304) (hT : RepS t s) : T_Rows.f t = some (s.1.map rowOf) := Rows_eq0 (Nat.lt_trans (Nat.lt_of_le_of_lt hT.inv.len hr) (by omega)) hT
theorem act_short {L : List Ent} {r : Nat} {o : AO} (hI : Inv L r) : (act L r o).1.Key.length ≤ 65 ∧ (act L r o).1.Value.length ≤ 256 := by
 have tl : ∀ (R : Int) (q : Option TC), (∀ c, q = some c → c.value.length ≤ 256) → (told R (bs o.Key) q).Value.length ≤ 256 := by
  intro R q hq
  cases q with
  | none => simp [told]
  | some c => exact hq c rfl
 have tk : ∀ (R : Int) (q : Option TC), (∀ c, q = some c → (bs o.Key).size ≤ 64) → (told R (bs o.Key) q).Key.length ≤ 65 := by
  intro R q hq
  cases q with
  | none => simp [told]
  | some c => show (sb (bs o.Key)).length ≤ 65; rw [sb_len]; have := hq c rfl; omega
 have hl : ∀ c, look (bs o.Key) L = some c → c.value.length ≤ 256 := fun c h => (hI.look h).2.2.1; have hk : ∀ c, look (bs o.Key) L = some c → (bs o.Key).size ≤ 64 := fun c h => (hI.look h).2.1; unfold act
 split
 ·simp [zeroA]
 ·split
  ·split
   ·simp [told]
   ·rename_i a b c h
    have := hI.ent _ (above_mem h); exact ⟨by show (sb a).length ≤ 65; rw [sb_len]; have := this.2.1; simp only at this; omega, this.2.2.1⟩
  ·split
   ·exact ⟨tk _ _ hk, tl _ _ hl⟩
   ·split
    ·exact ⟨tk _ _ hk, tl _ _ hl⟩
    ·split
     ·exact ⟨tk _ _ hk, tl _ _ hl⟩
     ·exact ⟨tk _ _ hk, tl _ _ hl⟩
def WT (n : Nat) (w : Option Wri) : Prop := ∃ r b f, w = some ⟨r, b, [], f⟩ ∧ b.length ≤ n ∧ n ≤ 100000000 ∧ 0 ≤ r ∧ r ≤ 1000000000000
theorem WT.lay {n m : Nat} {w : Option Wri} (h : WT n w) {a : List Int} (ha : n + a.length ≤ m) (hm : m ≤ 100000000) : ∃ w', W_lay.f w a = some w' ∧ WT m w' := by
 obtain ⟨r, b, f, rfl, hb, hn, hr⟩ := h; unfold W_lay.f W_whole.f
 simp only [Option.isNone_some, Bool.false_eq_true, if_false, oB]
 by_cases c : f = 0
 ·subst c
  simp only [decide_true, if_true]
  rw [wr (by omega) (by omega)]
  split
  ·exact ⟨_, rfl, _, _, _, rfl, by omega, hm, hr⟩
  ·rw [if_pos (by omega)]
   exact ⟨_, rfl, _, _, _, rfl, by rw [lA]; omega, hm, hr⟩
 ·rw [if_neg (by simpa using c)]
  exact ⟨_, rfl, _, _, _, rfl, by omega, hm, hr⟩
theorem u64_range (x : Int) : ∃ n : Nat, IntKind.u64.wrap x = (n : Int) ∧ n < 18446744073709551616 := by
 refine ⟨(IntKind.u64.wrap x).toNat, ?_, ?_⟩ <;> simp only [IntKind.wrap, IntKind.bits, IntKind.signed] <;> simp <;> omega
theorem form_tot {k : Nat} (hk : Fuel k) (x : Int) : ∃ l, parcel_form.f k (IntKind.u64.wrap x) = some l ∧ l.length ≤ 11 := by
 have h24 : 1099511627776 ≤ k := hk; obtain ⟨n, e, hn⟩ := u64_range x; have := nmF_le 10 n; rw [e]; unfold parcel_form.f; rw [if_pos (by decide), be (form_loop 10 n k _ (by omega) (by omega) (by simp))]; unfold parcel_form.j2
 simp only [Int.toNat_zero, List.replicate_zero, List.nil_append]
 rw [if_pos (by rw [fmP_len]; simp; omega)]; exact ⟨_, rfl, by rw [lA, fmP_len]; simp; omega⟩
theorem WT.num {k : Nat} (hk : Fuel k) {n m : Nat} {w : Option Wri} (h : WT n w) (x : Int) (hm : n + 11 ≤ m) (hM : m ≤ 100000000) : ∃ w', W_Num.f k w (IntKind.u64.wrap x) = some w' ∧ WT m w' := by
 obtain ⟨l, e, hl⟩ := form_tot hk x; obtain ⟨w', e', h'⟩ := h.lay (a := l) (m := m) (by omega) hM; exact ⟨w', by unfold W_Num.f; rw [be e, be e'], h'⟩
theorem WT.text {k : Nat} (hk : Fuel k) {n m : Nat} {w : Option Wri} (h : WT n w) (a : List Int) (hm : n + 11 + a.length ≤ m) (hM : m ≤ 100000000) : ∃ w', W_Text.f k w a = some w' ∧ WT m w' := by
 obtain ⟨l, e, hl⟩ := form_tot hk (a.length : Int); obtain ⟨w', e', h'⟩ := h.lay (a := l ++ a) (m := m) (by rw [lA]; omega) hM; exact ⟨w', by unfold W_Text.f; rw [be e, be (concat_eq hk (by omega)), be e'], h'⟩
theorem WT.byte {n m : Nat} {w : Option Wri} (h : WT n w) (x : Int) (hx : 0 ≤ x ∧ x ≤ 255) (hm : n + 1 ≤ m) (hM : m ≤ 100000000) : ∃ w', W_Byte.f w x = some w' ∧ WT m w' := by
 obtain ⟨w', e', h'⟩ := h.lay (a := [IntKind.u8.wrap x]) (m := m) (by simp; omega) hM; refine ⟨w', ?_, h'⟩; unfold W_Byte.f W_Byte.j1; rw [if_neg (by omega), dz (by omega), if_neg (by simp), be e']
theorem WT.done {n : Nat} {w : Option Wri} (h : WT n w) : ∃ l x, W_Done.f w = some (l, x) ∧ l.length ≤ n := by
 obtain ⟨r, b, f, rfl, hb, hn, hr⟩ := h
 by_cases c : f = 0
 ·subst c
  have := done_eq (room := r) (b := b) (by omega); exact ⟨b, 0, this, hb⟩
 ·unfold W_Done.f
  simp only [Option.isNone_some, Bool.false_eq_true, if_false, oB]
  rw [if_neg c]; exact ⟨_, _, rfl, by simp⟩
structure QB (q : AS) : Prop where
 key : q.Answer.Key.length ≤ 1000
 val : q.Answer.Value.length ≤ 1000
abbrev zeroQ : AS := AS.mk 0 0 (AA.mk false [] [] 0 0)
theorem count_tot {k : Nat} (hk : Fuel k) {Q : List AS} : ∃ c, loop (fun (s_ : Int × Int) => Q_lay.b1 Q s_.1 s_.2) k (0, 0) = some c := by
 have h24 : 1099511627776 ≤ k := hk; have LI := loop_inv (f := fun (s_ : Int × Int) => Q_lay.b1 Q s_.1 s_.2) (I := fun i s => s.2 = (i : Int)) (P := fun _ => True) (N := 16) ?_ ?_ 16 0 (0, 0) k rfl rfl (by omega)
 ·obtain ⟨x, e, _⟩ := LI
  exact ⟨x, e⟩
 ·rintro i ⟨a, _⟩ hi rfl
  left
  simp only [Q_lay.b1]
  rw [if_pos (by omega), if_pos (by omega), wrS i (by omega)]
  split
  ·exact ⟨_, rfl, rfl⟩
  ·exact ⟨_, rfl, rfl⟩
 ·rintro ⟨a, _⟩ rfl
  simp only [Q_lay.b1]
  rw [if_neg (by omega)]; exact ⟨_, rfl, trivial⟩
@[irreducible] def gr (i : Nat) : Nat := 2200 * i
theorem gr_succ (i : Nat) : gr (i + 1) = gr i + 2200 := by unfold gr; omega
theorem gr_le {i : Nat} (h : i ≤ 16) : gr i ≤ 35200 := by unfold gr; omega
theorem gr_zero : gr 0 = 0 := by unfold gr; rfl
theorem lay_tot {k : Nat} (hk : Fuel k) {Q : List AS} (hQ : Q.length = 16) (hB : ∀ q ∈ Q, QB q) {n : Nat} (hn : n ≤ 500000) {w : Option Wri} (h : WT n w) : ∃ w', Q_lay.f k Q w = some w' ∧ WT (n + 40000) w' := by
 have h24 : 1099511627776 ≤ k := hk; obtain ⟨c, ec⟩ := count_tot hk (Q := Q); unfold Q_lay.f; rw [be ec]; unfold Q_lay.j2; obtain ⟨w1, e1, h1⟩ := h.num hk c (m := n + 11) (by omega) (by omega); rw [be e1]; have LI := loop_inv (f := fun (s_ : (Option Wri) × Int) => Q_lay.b5 k Q s_.1 s_.2) (I := fun i s => s.2 = (i : Int) ∧ WT (n + 11 + gr i) s.1) (P := fun x => WT (n + 40000) x) (N := 16) ?_ ?_ 16 0 (w1, 0) k ⟨rfl, by rw [gr_zero]; exact h1⟩ rfl (by omega)
 ·obtain ⟨x, e, hx⟩ := LI
  exact ⟨x, by rw [be e]; rfl, hx⟩
 ·rintro i ⟨a, _⟩ hi ⟨rfl, ha⟩
  left
  simp only at ha
  simp only [Q_lay.b5, Q_lay.j4]
  have q1 := gr_succ i; have q2 := gr_le (i := i + 1) (by omega); have hq := hB (rd Q (i : Int)) (by rw [rd_eq (by omega)]; exact List.getElem_mem _); have h1 := hq.key; have h2 := hq.val; have up : ∀ {p q : Nat} {v : Option Wri}, WT p v → p ≤ q → q ≤ 1000000 → WT q v := fun ⟨r, b, f, e, h, _, hr⟩ h1 h2 => ⟨r, b, f, e, by omega, by omega, hr⟩; rw [if_pos (by omega), if_pos (by omega), wrS i (by omega)]
  split
  ·exact ⟨_, rfl, rfl, up ha (by omega) (by omega)⟩
  ·obtain ⟨a1, f1, g1⟩ := ha.num hk (rd Q (i : Int)).Client (m := n + 11 + gr i + 11) (by omega) (by omega)
   obtain ⟨a2, f2, g2⟩ := g1.num hk (rd Q (i : Int)).Seq (m := n + 11 + gr i + 22) (by omega) (by omega); rw [be f1, be f2]; have rest : ∀ v, WT (n + 11 + gr i + 23) v → ∃ s', ((W_Text.f k v (((rd Q (i : Int)).Answer).Key)).bind fun t163 => (W_Text.f k t163 (((rd Q (i : Int)).Answer).Value)).bind fun t172 => (W_Num.f k t172 (IntKind.u64.wrap (((rd Q (i : Int)).Answer).Rev))).bind fun t181 => (W_Num.f k t181 (IntKind.u64.wrap (((rd Q (i : Int)).Answer).At))).bind fun t189 => some (Ctl.next (X := Option Wri) (t189, ((i + 1 : Nat) : Int)))) = some (Ctl.next s') ∧ s'.2 = ((i + 1 : Nat) : Int) ∧ WT (n + 11 + gr (i + 1)) s'.1 := by
    intro v hv; obtain ⟨a3, f3, g3⟩ := hv.text hk (rd Q (i : Int)).Answer.Key (m := n + 11 + gr i + 1040) (by omega) (by omega); obtain ⟨a4, f4, g4⟩ := g3.text hk (rd Q (i : Int)).Answer.Value (m := n + 11 + gr i + 2060) (by omega) (by omega); obtain ⟨a5, f5, g5⟩ := g4.num hk (rd Q (i : Int)).Answer.Rev (m := n + 11 + gr i + 2080) (by omega) (by omega); obtain ⟨a6, f6, g6⟩ := g5.num hk (rd Q (i : Int)).Answer.At (m := n + 11 + gr (i + 1)) (by omega) (by omega); rw [be f3, be f4, be f5, be f6]; exact ⟨_, rfl, rfl, g6⟩
   split
   ·obtain ⟨v, f3, g3⟩ := g2.byte 1 (by decide) (m := n + 11 + gr i + 23) (by omega) (by omega)
    rw [be f3]; exact rest v g3
   ·obtain ⟨v, f3, g3⟩ := g2.byte 0 (by decide) (m := n + 11 + gr i + 23) (by omega) (by omega)
    rw [be f3]; exact rest v g3
 ·rintro ⟨a, _⟩ ⟨rfl, ha⟩
  simp only at ha
  simp only [Q_lay.b5]
  rw [if_neg (by omega)]; have q2 := gr_le (i := 16) (by omega); obtain ⟨r, b, f, e, h, _, hr⟩ := ha; exact ⟨_, rfl, r, b, f, e, by omega, by omega, hr⟩
theorem bytes_tot {k : Nat} (hk : Fuel k) {Q : List AS} (hQ : Q.length = 16) (hB : ∀ q ∈ Q, QB q) : ∃ l, Q_bytes.f k Q = some l ∧ l.length ≤ 40000 := by
 obtain ⟨w, e, h⟩ := lay_tot hk hQ hB (n := 0) (by omega) (w := W 1048576 []) ⟨_, [], 0, rfl, by simp, by omega, by omega⟩; obtain ⟨l, x, ed, hl⟩ := h.done; refine ⟨l, ?_, by omega⟩; unfold Q_bytes.f; rw [be (show parcel_New.f 1048576 = some (W 1048576 []) from rfl), be e, be ed]
theorem numSize_b1 : (fun (s_ : Int × Int) => shard_numSize.b1 s_.1 s_.2) = fun (s_ : Int × Int) => table_num.b1 s_.1 s_.2 := by
 funext s
 unfold shard_numSize.b1 table_num.b1
 by_cases c : 127 < s.1
 ·rw [if_pos c, if_pos (by omega)]
 ·rw [if_neg c, if_neg (by omega)]
theorem numSize_eq {k n : Nat} (hk : Fuel k) (hn : n < 9223372036854775808) : shard_numSize.f k (n : Int) = some (nm n : Int) := by
 have := num_eq hk hn; unfold table_num.f at this; unfold shard_numSize.f; rw [numSize_b1]; exact this
theorem Size_tot {k : Nat} (hk : Fuel k) {T : Option Tab} {Q : List AS} {st : St} (hr : st.2 < 4194304) (hT : RepS T st) (hQ : Q.length = 16) (hB : ∀ q ∈ Q, QB q) :
  ∃ z, S_Size.f k (some ⟨T, Q⟩) = some z ∧ z ≤ sz st.1 + 40100 ∧ sz st.1 ≤ z := by
 have hi := hT.inv; have hsz := sz_le hi.ent; have hlen := hi.len; obtain ⟨l, el, hl⟩ := bytes_tot hk hQ hB; have h1 := nm_le st.2; have h2 := nm_le st.1.length; obtain ⟨Z, e0⟩ : ∃ Z : Nat, (nm st.2 + nm st.1.length + sz st.1 : Int) = (Z : Int) := ⟨(nm st.2 + nm st.1.length + sz st.1 : Int).toNat, by omega⟩; have h3 := nm_le Z; unfold S_Size.f
 simp only [Option.isNone_some, Bool.false_eq_true, if_false, oB]
 rw [be (size_eq hk hr hT), e0, be (numSize_eq hk (by omega)), be el, wr (n := (nm Z : Int) + Z) (by omega) (by omega), wr (by omega) (by omega)]; exact ⟨_, rfl, by omega, by omega⟩
theorem do_none {k : Nat} {s : Sha} {c n : Int} {o : AO} {a : AA} {ch : Bool} {e : Int} (h : S_next.f k (some s) c n o = some (some none, a, ch, e)) (he : e ≠ 0) : S_Do.f k (some s) c n o = some (a, ch, e, some s) := by
 unfold S_Do.f; rw [be h]
 show (if e = 0 then _ else _) = _
 rw [if_neg he]
theorem do_self {k : Nat} {s : Sha} {c n : Int} {o : AO} {a : AA} {ch : Bool} (h : S_next.f k (some s) c n o = some (none, a, ch, 0)) : S_Do.f k (some s) c n o = some (a, ch, 0, some s) := by
 unfold S_Do.f; rw [be h]
 rfl
theorem do_new {k : Nat} {s s' : Sha} {c n : Int} {o : AO} {a : AA} {ch : Bool} (h : S_next.f k (some s) c n o = some (some (some s'), a, ch, 0)) : S_Do.f k (some s) c n o = some (a, ch, 0, some s') := by
 unfold S_Do.f; rw [be h]
 rfl
theorem own_eq {q : AS} (h : QB q) : shard_own.f q = some q := by
 have h1 := h.key; have h2 := h.val; unfold shard_own.f slices_Clone.f; rw [if_pos (by omega), if_pos (by omega)]
 rfl
theorem act_zero {L : List Ent} {r : Nat} {o : AO} (h : right o = true) : (act L r o).2.1 = 0 := by
 unfold act; rw [if_neg (by simp [h])]
 split
 ·rfl
 ·split
  ·rfl
  ·split
   ·rfl
   ·split <;> rfl
theorem next_of {k : Nat} {s : Sha} {c n : Int} {o : AO} (h : 0 ≤ c ∧ c < 16 ∧ 1 ≤ n ∧ n ≤ 1073741824) : S_next.f k (some s) c n o = S_next.j1 k (some s) c n o false := by
 unfold S_next.f; rw [if_neg (by simp), if_neg (by omega), if_neg (by omega), if_neg (by omega), dz (by omega)]
theorem next_bad {k : Nat} {s : Sha} {c n : Int} {o : AO} (h : ¬ (0 ≤ c ∧ c < 16 ∧ 1 ≤ n ∧ n ≤ 1073741824)) : S_next.f k (some s) c n o = some (some none, zeroA, false, 2) := by
 unfold S_next.f; rw [if_neg (by simp)]
 split
 ·rfl
 ·split
  ·rfl
  ·split
   ·rfl
   ·rw [dt (by omega)]; rfl
structure SI (T : Option Tab) (Q : List AS) (st : St) : Prop where
 rep : RepS T st
 len : Q.length = 16
 qb : ∀ q ∈ Q, QB q
theorem SI.mem {T : Option Tab} {Q : List AS} {st : St} (h : SI T Q st) {c : Int} (hc : 0 ≤ c ∧ c < 16) : QB (rd Q c) := by
 obtain ⟨i, rfl⟩ : ∃ i : Nat, c = (i : Int) := ⟨c.toNat, by omega⟩; have := h.len; rw [rd_eq (by omega)]; exact h.qb _ (List.getElem_mem _)
theorem SI.set {T T' : Option Tab} {Q : List AS} {st st' : St} (h : SI T Q st) (hr : RepS T' st') (i : Nat) {q : AS} (hq : QB q) : SI T' (Q.set i q) st' :=
 ⟨hr, by rw [List.length_set]; exact h.len, fun x hx => (List.mem_or_eq_of_mem_set hx).elim (h.qb x) fun e => e ▸ hq⟩
abbrev Vd (c n : Int) : Prop := 0 ≤ c ∧ c < 16 ∧ 1 ≤ n ∧ n ≤ 1073741824
theorem sh_next {k : Nat} (hk : Fuel k) {T : Option Tab} {Q : List AS} {st : St} (hr : st.2 < 4194304) (hS : SI T Q st) (c n : Int) (o : AO) (hr' : (stepS st o).2 < 4194304) :
    (¬ Vd c n → S_next.f k (some ⟨T, Q⟩) c n o = some (some none, zeroA, false, 2)) ∧
    (Vd c n → right o = false → S_next.f k (some ⟨T, Q⟩) c n o = some (some none, zeroA, false, 131)) ∧
    (Vd c n → right o = true → n < (rd Q c).Seq → S_next.f k (some ⟨T, Q⟩) c n o = some (some none, zeroA, false, 141)) ∧
    (Vd c n → right o = true → (rd Q c).Seq = n → S_next.f k (some ⟨T, Q⟩) c n o = some (none, (rd Q c).Answer, false, 0)) ∧
    (Vd c n → right o = true → (rd Q c).Seq < n → (o.Kind = 1 ∨ o.Kind = 5) → S_next.f k (some ⟨T, Q⟩) c n o = some (none, (act st.1 st.2 o).1, false, 0)) ∧
    (Vd c n → right o = true → (rd Q c).Seq < n → ¬ (o.Kind = 1 ∨ o.Kind = 5) → ∃ T', SI T' (Q.set c.toNat ⟨c, n, (act st.1 st.2 o).1⟩) (stepS st o) ∧ ∃ z, S_Size.f k (some ⟨T', Q.set c.toNat ⟨c, n, (act st.1 st.2 o).1⟩⟩) = some z ∧ z ≤ sz (stepS st o).1 + 40100 ∧ sz (stepS st o).1 ≤ z ∧
      S_next.f k (some ⟨T, Q⟩) c n o = if 262144 < z then some (some none, zeroA, false, 142) else some (some (some ⟨T', Q.set c.toNat ⟨c, n, (act st.1 st.2 o).1⟩⟩), (act st.1 st.2 o).1, true, 0)) := by
  refine ⟨fun v => next_bad v, fun v R => ?_, fun v R c1 => ?_, fun v R c2 => ?_, fun v R c3 K => ?_, fun v R c3 K => ?_⟩ <;>
    (have hc : 0 ≤ c ∧ c < 16 := ⟨v.1, v.2.1⟩
     have hx := next_of (k := k) (s := ⟨T, Q⟩) (o := o) v; unfold S_next.j1 at hx; rw [if_neg (by simp), be (right_eq o)] at hx)
  · rw [if_neg (by simp [R])] at hx; exact hx
  · rw [if_pos R] at hx
    simp only [oB] at hx
    rw [if_pos hc, if_pos c1] at hx; exact hx
  · rw [if_pos R] at hx
    simp only [oB] at hx
    rw [if_pos hc, if_neg (by omega), if_pos hc, if_pos c2, if_pos hc] at hx; rw [be (own_eq (q := AS.mk (rd Q c).Client (rd Q c).Seq (rd Q c).Answer) ⟨(hS.mem hc).key, (hS.mem hc).val⟩)] at hx; exact hx
  all_goals
    rw [if_pos R] at hx
    simp only [oB] at hx
    rw [if_pos hc, if_neg (by omega), if_pos hc, if_neg (by omega)] at hx; obtain ⟨T', eT, RT⟩ := do_step hk hr hS.rep o; have ec : S_Copy.f (some ⟨T, Q⟩) = some (some ⟨T, Q⟩) := by
      unfold S_Copy.f; rw [if_neg (by simp), oB, be (copy_eq hS.rep)]
    rw [be ec, oB, be eT] at hx; unfold S_next.j2 at hx; rw [if_pos (act_zero R)] at hx
  · rw [hx]
    rcases K with K | K
    · rw [if_pos K]; rfl
    · rw [if_neg (by omega), dt K]; rfl
  · have hsh := act_short (o := o) hS.rep.inv; have hq : QB ⟨c, n, (act st.1 st.2 o).1⟩ := ⟨by have := hsh.1; show (act st.1 st.2 o).1.Key.length ≤ 1000; omega, by have := hsh.2; show (act st.1 st.2 o).1.Value.length ≤ 1000; omega⟩; have hS' := hS.set RT c.toNat hq; obtain ⟨z, ez, hz, hz2⟩ := Size_tot hk hr' hS'.rep hS'.len hS'.qb; rw [if_neg (fun q => K (.inl q)), dz (fun q => K (.inr q))] at hx; unfold S_next.j3 S_next.j4 at hx; rw [if_neg (by simp), be (own_eq hq), if_pos hc, be ez] at hx; exact ⟨T', hS', z, ez, hz, hz2, hx⟩
theorem sh_do2 {k : Nat} (hk : Fuel k) {T : Option Tab} {Q : List AS} {st : St} (hr : st.2 < 4194304) (hS : SI T Q st) (c n : Int) (o : AO) (hr' : (stepS st o).2 < 4194304) :
  (∃ e, e ≠ 0 ∧ S_Do.f k (some ⟨T, Q⟩) c n o = some (zeroA, false, e, some ⟨T, Q⟩) ∧ ((¬ Vd c n ∧ e = 2) ∨ (Vd c n ∧ right o = false ∧ e = 131) ∨ (Vd c n ∧ right o = true ∧ n < (rd Q c).Seq ∧ e = 141) ∨ (Vd c n ∧ right o = true ∧ (rd Q c).Seq < n ∧ 200000 < sz (stepS st o).1))) ∨
  (Vd c n ∧ right o = true ∧ (((rd Q c).Seq = n ∧ S_Do.f k (some ⟨T, Q⟩) c n o = some ((rd Q c).Answer, false, 0, some ⟨T, Q⟩)) ∨
   ((rd Q c).Seq < n ∧ (((o.Kind = 1 ∨ o.Kind = 5) ∧ S_Do.f k (some ⟨T, Q⟩) c n o = some ((act st.1 st.2 o).1, false, 0, some ⟨T, Q⟩)) ∨
    (¬ (o.Kind = 1 ∨ o.Kind = 5) ∧ ∃ T' Q', S_Do.f k (some ⟨T, Q⟩) c n o = some ((act st.1 st.2 o).1, true, 0, some ⟨T', Q'⟩) ∧ SI T' Q' (stepS st o) ∧ Q' = Q.set c.toNat ⟨c, n, (act st.1 st.2 o).1⟩ ∧ sz (stepS st o).1 ≤ 262144))))) := by
 obtain ⟨n1, n2, n3, n4, n5, n6⟩ := sh_next hk hr hS c n o hr'
 by_cases v : Vd c n
 ·by_cases R : right o = true
  ·by_cases c1 : n < (rd Q c).Seq
   ·exact .inl ⟨141, by decide, do_none (n3 v R c1) (by decide), .inr (.inr (.inl ⟨v, R, c1, rfl⟩))⟩
   ·by_cases c2 : (rd Q c).Seq = n
    ·exact .inr ⟨v, R, .inl ⟨c2, do_self (n4 v R c2)⟩⟩
    ·have c3 : (rd Q c).Seq < n := by omega
     by_cases K : o.Kind = 1 ∨ o.Kind = 5
     ·exact .inr ⟨v, R, .inr ⟨c3, .inl ⟨K, do_self (n5 v R c3 K)⟩⟩⟩
     ·obtain ⟨T', hS', z, ez, hz, hz2, hx⟩ := n6 v R c3 K
      by_cases big : 262144 < z
      ·rw [if_pos big] at hx
       exact .inl ⟨142, by decide, do_none hx (by decide), .inr (.inr (.inr ⟨v, R, c3, by omega⟩))⟩
      ·rw [if_neg big] at hx
       exact .inr ⟨v, R, .inr ⟨c3, .inr ⟨K, T', _, do_new hx, hS', rfl, by omega⟩⟩⟩
  ·exact .inl ⟨131, by decide, do_none (n2 v (by simpa using R)) (by decide), .inr (.inl ⟨v, by simpa using R, rfl⟩)⟩
 ·exact .inl ⟨2, by decide, do_none (n1 v) (by decide), .inl ⟨v, rfl⟩⟩
theorem sh_do {k : Nat} (hk : Fuel k) {T : Option Tab} {Q : List AS} {st : St} (hr : st.2 < 4194304) (hS : SI T Q st) (c n : Int) (o : AO) (hr' : (stepS st o).2 < 4194304) :
  (∃ e, e ≠ 0 ∧ S_Do.f k (some ⟨T, Q⟩) c n o = some (zeroA, false, e, some ⟨T, Q⟩) ∧ (¬ (0 ≤ c ∧ c < 16 ∧ 1 ≤ n ∧ n ≤ 1073741824) ∨ right o = false ∨ n < (rd Q c).Seq ∨ 200000 < sz (stepS st o).1)) ∨
  (0 ≤ c ∧ c < 16 ∧ 1 ≤ n) ∧ (((rd Q c).Seq = n ∧ S_Do.f k (some ⟨T, Q⟩) c n o = some ((rd Q c).Answer, false, 0, some ⟨T, Q⟩)) ∨
   ((rd Q c).Seq < n ∧ right o = true ∧ (((o.Kind = 1 ∨ o.Kind = 5) ∧ S_Do.f k (some ⟨T, Q⟩) c n o = some ((act st.1 st.2 o).1, false, 0, some ⟨T, Q⟩)) ∨
    (¬ (o.Kind = 1 ∨ o.Kind = 5) ∧ ∃ T' Q', S_Do.f k (some ⟨T, Q⟩) c n o = some ((act st.1 st.2 o).1, true, 0, some ⟨T', Q'⟩) ∧ SI T' Q' (stepS st o) ∧ Q' = Q.set c.toNat ⟨c, n, (act st.1 st.2 o).1⟩)))) := by
 rcases sh_do2 hk hr hS c n o hr' with ⟨e, h, d, h1 | h1 | h1 | h1⟩ | ⟨v, R, h | ⟨h, h1 | ⟨K, T', Q', d, hS', hq, _⟩⟩⟩
 ·exact .inl ⟨e, h, d, .inl h1.1⟩
 ·exact .inl ⟨e, h, d, .inr (.inl h1.2.1)⟩
 ·exact .inl ⟨e, h, d, .inr (.inr (.inl h1.2.2.1))⟩
 ·exact .inl ⟨e, h, d, .inr (.inr (.inr h1.2.2.2))⟩
 ·exact .inr ⟨⟨v.1, v.2.1, v.2.2.1⟩, .inl h⟩
 ·exact .inr ⟨⟨v.1, v.2.1, v.2.2.1⟩, .inr ⟨h, R, .inl h1⟩⟩
 ·exact .inr ⟨⟨v.1, v.2.1, v.2.2.1⟩, .inr ⟨h, R, .inr ⟨K, T', Q', d, hS', hq⟩⟩⟩
theorem Seat_eq {T : Option Tab} {Q : List AS} {st : St} (hS : SI T Q st) (c : Int) :
  (¬ (0 ≤ c ∧ c < 16) ∧ S_Seat.f (some ⟨T, Q⟩) c = some (zeroQ, false)) ∨ ((0 ≤ c ∧ c < 16) ∧ (((rd Q c).Seq = 0 ∧ S_Seat.f (some ⟨T, Q⟩) c = some (zeroQ, false)) ∨ ((rd Q c).Seq ≠ 0 ∧ S_Seat.f (some ⟨T, Q⟩) c = some (rd Q c, true)))) := by
 unfold S_Seat.f; rw [if_neg (by simp)]
 by_cases hc : 0 ≤ c ∧ c < 16
 ·right
  refine ⟨hc, ?_⟩; rw [if_neg (by omega), if_neg (by omega), oB, if_pos hc]
  by_cases z : (rd Q c).Seq = 0
  ·exact .inl ⟨z, by rw [dt z]; rfl⟩
  ·refine .inr ⟨z, ?_⟩
   rw [dz z]; unfold S_Seat.j1; rw [if_neg (by simp), oB, if_pos hc, be (own_eq (q := AS.mk (rd Q c).Client (rd Q c).Seq (rd Q c).Answer) ⟨(hS.mem hc).key, (hS.mem hc).val⟩)]
 ·left
  refine ⟨hc, ?_⟩
  split
  ·rfl
  ·rw [if_pos (by omega)]; rfl
theorem same_loop (a b : List Int) (hl : a.length = b.length) : ∀ (n i m : Nat), i + n = a.length → n < m → a.length < 4000000000 →
  loop (fun (s_ : Int) => L_same.b1 a b s_) m (i : Int) = some (if a.drop i = b.drop i then Sum.inl () else Sum.inr false)
 | _, _, 0, _, h, _ => absurd h (by omega)
 | 0, i, m + 1, h, _, _ => by
  refine loop_done ?_; unfold L_same.b1; rw [if_neg (by omega), if_pos]; rw [List.drop_of_length_le (by omega), List.drop_of_length_le (by omega)]
 | n + 1, i, m + 1, h, hm, hb => by
  have hi : i < a.length := by omega
  have hj : i < b.length := by omega
  rw [List.drop_eq_getElem_cons hi, List.drop_eq_getElem_cons hj]
  by_cases c : a[i] = b[i]
  ·rw [loop_next (s' := ((i + 1 : Nat) : Int)), same_loop a b hl n (i + 1) m (by omega) (by omega) hb]
   ·simp only [c, List.cons.injEq, true_and]
   ·unfold L_same.b1
    rw [if_pos (by omega), if_pos (by omega), if_pos (by omega), rd_eq hi, rd_eq hj, if_pos c, wrS i (by omega)]
  ·rw [if_neg (by simp only [List.cons.injEq, c, false_and, not_false_eq_true])]
   refine loop_done ?_; unfold L_same.b1; rw [if_pos (by omega), if_pos (by omega), if_pos (by omega), rd_eq hi, rd_eq hj, if_neg c]
theorem same_eq {k : Nat} (hk : Fuel k) (a b : List Int) (h : a.length < 4000000000 ∨ b.length < 4000000000) : L_same.f k a b = some (decide (a = b)) := by
 have h24 : 1099511627776 ≤ k := hk; unfold L_same.f
 by_cases c : a.length = b.length
 ·rw [if_pos (by omega), show (0 : Int) = ((0 : Nat) : Int) from rfl, be (same_loop a b c a.length 0 k (by omega) (by omega) (by omega))]
  simp only [List.drop_zero]
  by_cases e : a = b
  ·simp [e, L_same.j2]
  ·simp [e]
 ·rw [if_neg (by omega), dz (fun e => c (by rw [e]))]
theorem same_refl {k : Nat} (hk : Fuel k) {a : List Int} (h : a.length < 4000000000) : L_same.f k a a = some true := by rw [same_eq hk a a (.inl h)]; simp
theorem sameAnswer_refl {k : Nat} (hk : Fuel k) {a : AA} (h1 : a.Key.length < 4000000000) (h2 : a.Value.length < 4000000000) : L_sameAnswer.f k a a = some true := by
 unfold L_sameAnswer.f; rw [if_pos (by simp), be (same_refl hk h1), if_pos rfl, be (same_refl hk h2), if_pos rfl, if_pos rfl]
 simp
abbrev Q0 : List AS := List.replicate 16 zeroQ
theorem rd_Q0 {i : Nat} (hi : i < 16) : rd Q0 (i : Int) = zeroQ := by rw [rd_eq (by simpa using hi)]; exact List.getElem_replicate _
theorem new_si : ∃ t, table_New.f = some t ∧ shard_New.f = some (some ⟨t, Q0⟩) ∧ SI t Q0 ([], 0) := by
 obtain ⟨t, e, R⟩ := new_rep; refine ⟨t, e, ?_, R, by simp, fun q hq => ?_⟩
 ·unfold shard_New.f; rw [be e]
 ·obtain rfl := (List.mem_replicate.1 hq).2
  exact ⟨by simp, by simp⟩
theorem lay_zero {k : Nat} (hk : Fuel k) {b : List Int} (hb : b.length ≤ 1000) : Q_lay.f k Q0 (W 1048576 b) = some (W 1048576 (b ++ fm 0)) := by
 have h24 : 1099511627776 ≤ k := hk; have f0 := fm_len 0; have n0 := nm_le 0; unfold Q_lay.f; have L := loop_inv (f := fun (s_ : Int × Int) => Q_lay.b1 Q0 s_.1 s_.2) (I := fun i s => s = (0, (i : Int))) (P := fun x => x = 0) (N := 16) ?_ ?_ 16 0 (0, 0) k rfl rfl (by omega)
 ·obtain ⟨x, e, rfl⟩ := L
  rw [be e]; unfold Q_lay.j2; rw [wru (by omega) (by omega), show ((0 : Int)) = ((0 : Nat) : Int) from rfl, be (Num_eq hk (room := 1048576) (b := b) (n := 0) (by omega) (by omega) (by omega))]; have M := loop_inv (f := fun (s_ : (Option Wri) × Int) => Q_lay.b5 k Q0 s_.1 s_.2) (I := fun i s => s = (W 1048576 (b ++ fm 0), (i : Int))) (P := fun x => x = W 1048576 (b ++ fm 0)) (N := 16) ?_ ?_ 16 0 (W 1048576 (b ++ fm 0), 0) k rfl rfl (by omega)
  ·obtain ⟨x, e, rfl⟩ := M
   have e' : loop (fun (s_ : (Option Wri) × Int) => Q_lay.b5 k Q0 s_.1 s_.2) k (W 1048576 (b ++ fm 0), ((0 : Nat) : Int)) = some (W 1048576 (b ++ fm 0)) := e; rw [be e']; rfl
  ·rintro i _ hi rfl
   left
   refine ⟨_, ?_, rfl⟩
   simp only [Q_lay.b5]
   rw [if_pos (by omega), if_pos (by omega), rd_Q0 hi, if_pos rfl, wrS i (by omega)]
  ·rintro _ rfl
   refine ⟨_, ?_, rfl⟩
   simp only [Q_lay.b5]
   rw [if_neg (by omega)]
 ·rintro i _ hi rfl
  left
  refine ⟨_, ?_, rfl⟩
  simp only [Q_lay.b1]
  rw [if_pos (by omega), if_pos (by omega), rd_Q0 hi, if_neg (by simp), wrS i (by omega)]
 ·rintro _ rfl
  refine ⟨_, ?_, rfl⟩
  simp only [Q_lay.b1]
  rw [if_neg (by omega)]
theorem Export_zero {k : Nat} (hk : Fuel k) {t : Option Tab} (hR : RepS t ([], 0)) : S_Export.f k (some ⟨t, Q0⟩) = some [2, 0, 0, 0] := by
 have ef : form ([], 0) = [0, 0] := by decide
 have f2 : fm 2 = [2] := by decide
 have f0 : fm 0 = [0] := by decide
 unfold S_Export.f; rw [if_neg (by simp), be (show parcel_New.f 1048576 = some (W 1048576 []) from rfl), oB, be (bytes_eq hk (by simp) hR), ef,
  be (Text_eq hk (by simp [f2]) (by omega))]
 simp only [List.length_cons, List.length_nil, Nat.zero_add, Nat.reduceAdd, f2, List.nil_append]
 rw [be (lay_zero hk (by simp)), be (done_eq (by simp [f0])), f0]
 rfl
theorem Size_zero {k : Nat} (hk : Fuel k) {t : Option Tab} (hR : RepS t ([], 0)) : S_Size.f k (some ⟨t, Q0⟩) = some 4 := by
 have f0 : fm 0 = [0] := by decide
 have es : (nm (([] : List Ent), 0).2 + nm (([] : List Ent), 0).1.length + sz (([] : List Ent), 0).1 : Int) = ((2 : Nat) : Int) := by decide
 have eb : Q_bytes.f k Q0 = some [0] := by
  unfold Q_bytes.f; rw [be (show parcel_New.f 1048576 = some (W 1048576 []) from rfl), be (lay_zero hk (by simp)), be (done_eq (by simp [f0])), f0]
  rfl
 unfold S_Size.f; rw [if_neg (by simp), oB, be (size_eq hk (by simp) hR), es, be (numSize_eq hk (by omega)), be eb]
 decide
theorem SRev_eq {T : Option Tab} {Q : List AS} {st : St} (h : SI T Q st) : S_Rev.f (some ⟨T, Q⟩) = some (st.2 : Int) := by
 unfold S_Rev.f; rw [if_neg (by simp), oB, be (Rev_eq h.rep)]
theorem SLen_eq {T : Option Tab} {Q : List AS} {st : St} (h : SI T Q st) : S_Len.f (some ⟨T, Q⟩) = some (st.1.length : Int) := by
 unfold S_Len.f; rw [if_neg (by simp), oB, be (Len_eq h.rep)]
theorem SRows_eq {T : Option Tab} {Q : List AS} {st : St} (hr : st.2 < 4194304) (h : SI T Q st) : S_Rows.f (some ⟨T, Q⟩) = some (st.1.map rowOf) := by
 unfold S_Rows.f; rw [if_neg (by simp), oB, be (Rows_eq hr h.rep)]
theorem act1 : act [] 0 (AO.mk 2 [97] [49] 0) = (⟨true, [], [], 0, 1⟩, 0, [(bs [97], ⟨[49], 1⟩)], 1) := by
 simp [act, right, keyok, look, ins, told]
theorem act2 : act [(bs [97], ⟨[49], 1⟩)] 1 (AO.mk 1 [97] [] 0) = (⟨true, sb (bs [97]), [49], 1, 1⟩, 0, [(bs [97], ⟨[49], 1⟩)], 1) := by
 simp [act, right, keyok, look, ins, told, lt_irr]
theorem putop_eq : L_put.f ({ data := #[97] }) ({ data := #[49] }) = some (AO.mk 2 [97] [49] 0) := by
 unfold L_put.f; rw [if_pos (by decide), if_pos (by decide)]; rfl
theorem get_eq' : L_get.f ({ data := #[97] }) = some (AO.mk 1 [97] [] 0) := by
 unfold L_get.f; rw [if_pos (by decide)]; rfl
theorem known_eq {k : Nat} (hk : Fuel k) : L_known.f k = some true := by
 obtain ⟨t, _, eN, S0⟩ := new_si; have st1 : stepS ([], 0) (AO.mk 2 [97] [49] 0) = ([(bs [97], ⟨[49], 1⟩)], 1) := by unfold stepS; simp only; rw [act1]
 have st2 : stepS ([(bs [97], ⟨[49], 1⟩)], 1) (AO.mk 2 [97] [49] 0) = ([(bs [97], ⟨[49], 2⟩)], 2) := by unfold stepS; simp [act, right, keyok, look, ins, told, lt_irr]
 have st3 : stepS ([(bs [97], ⟨[49], 1⟩)], 1) (AO.mk 1 [97] [] 0) = ([(bs [97], ⟨[49], 1⟩)], 1) := by unfold stepS; simp only; rw [act2]
 have r1 : right (AO.mk 2 [97] [49] 0) = true := by decide
 have r2 : right (AO.mk 1 [97] [] 0) = true := by decide
 have z1 : ¬ (200000 < sz [(bs [97], ⟨[49], 1⟩)]) := by decide
 have z2 : ¬ (200000 < sz [(bs [97], ⟨[49], 2⟩)]) := by decide
 obtain ⟨T1, Q1, e1, S1, q1⟩ : ∃ T1 Q1, S_Do.f k (some ⟨t, Q0⟩) 3 1 (AO.mk 2 [97] [49] 0) = some (⟨true, [], [], 0, 1⟩, true, 0, some ⟨T1, Q1⟩) ∧ SI T1 Q1 ([(bs [97], ⟨[49], 1⟩)], 1) ∧ rd Q1 3 = ⟨3, 1, ⟨true, [], [], 0, 1⟩⟩ := by
  have s0 : (rd Q0 3).Seq = 0 := rfl
  rcases sh_do hk (by simp) S0 3 1 (AO.mk 2 [97] [49] 0) (by rw [st1]; simp) with ⟨e, _, _, h | h | h | h⟩ | ⟨_, ⟨h, _⟩ | ⟨_, _, ⟨h, _⟩ | ⟨_, T', Q', e, S', hq⟩⟩⟩
  ·omega
  ·rw [r1] at h; cases h
  ·rw [s0] at h; omega
  ·rw [st1] at h; exact absurd h z1
  ·rw [s0] at h; omega
  ·simp at h
  ·rw [act1] at e hq
   rw [st1] at S'; exact ⟨T', Q', e, S', by rw [hq]; rfl⟩
 have e2 : S_Do.f k (some ⟨T1, Q1⟩) 3 1 (AO.mk 2 [97] [49] 0) = some (⟨true, [], [], 0, 1⟩, false, 0, some ⟨T1, Q1⟩) := by
  rcases sh_do hk (by simp) S1 3 1 (AO.mk 2 [97] [49] 0) (by rw [st2]; simp) with ⟨e, _, _, h | h | h | h⟩ | ⟨_, ⟨h, e⟩ | ⟨h, _⟩⟩
  ·omega
  ·rw [r1] at h; cases h
  ·rw [q1] at h; simp only at h; omega
  ·rw [st2] at h; exact absurd h z2
  ·rw [e, q1]
  ·rw [q1] at h; simp only at h; omega
 have e3 : S_Do.f k (some ⟨T1, Q1⟩) 3 2 (AO.mk 1 [97] [] 0) = some (⟨true, sb (bs [97]), [49], 1, 1⟩, false, 0, some ⟨T1, Q1⟩) := by
  rcases sh_do hk (by simp) S1 3 2 (AO.mk 1 [97] [] 0) (by rw [st3]; simp) with ⟨e, _, _, h | h | h | h⟩ | ⟨_, ⟨h, e⟩ | ⟨_, _, ⟨h, e⟩ | ⟨h, _⟩⟩⟩
  ·omega
  ·rw [r2] at h; cases h
  ·rw [q1] at h; simp only at h; omega
  ·rw [st3] at h; exact absurd h z1
  ·rw [q1] at h; simp only at h; omega
  ·rw [e]; simp only; rw [act2]
  ·simp at h
 unfold L_known.f; rw [be eN, if_neg (by simp), be (Export_zero hk S0.rep), be (same_refl hk (by simp)), if_pos rfl, be (Size_zero hk S0.rep)]; unfold L_known.j1; rw [if_neg (by simp), be putop_eq, be e1, be putop_eq]
 simp only
 rw [be e2, be get_eq']
 simp only
 rw [be e3]; unfold L_num.f
 simp only [oB, if_true, Bool.false_eq_true, if_false]
 rw [be (sameAnswer_refl hk (by simp) (by simp))]; unfold L_known.j2; have eb : sb (bs [97]) = [97] := by decide
 simp only [Bool.not_true, Bool.false_eq_true, if_false, if_true, eb]
 rw [be (same_refl hk (by simp)), if_pos rfl, be (same_refl hk (by simp)), if_pos rfl, be (SRev_eq S1), if_pos (by simp), be (SLen_eq S1)]
 simp
theorem new_tot (x : Int) (hx : x ≤ 1000000000000) : ∃ w, parcel_New.f x = some w ∧ WT 0 w :=
 ⟨_, rfl, _, [], 0, rfl, by simp, by omega, by omega, by omega⟩
theorem fnv_tot {k : Nat} (hk : Fuel k) (p : List Int) (hp : p.length ≤ 1000000000) : ∃ n, seal_FNV.f k [p] = some n := by
 have h24 : 1099511627776 ≤ k := hk; unfold seal_FNV.f; have L := loop_inv (f := fun (s_ : Int × Int) => seal_FNV.b3 k [p] s_.1 s_.2) (I := fun i s => s.2 = (i : Int)) (P := fun _ => True) (N := 1) ?_ ?_ 1 0 (14695981039346656037, 0) k rfl rfl (by omega)
 ·obtain ⟨x, e, _⟩ := L
  rw [be e]; exact ⟨_, rfl⟩
 ·rintro i ⟨h, j⟩ hi hj
  left
  simp only at hj; subst hj
  obtain rfl : i = 0 := by omega
  have e0 : rd [p] ((0 : Nat) : Int) = p := rfl; have M := loop_inv (f := fun (s_ : Int × Int) => seal_FNV.b1 [p] ((0 : Nat) : Int) s_.1 s_.2) (I := fun i s => s.2 = (i : Int)) (P := fun _ => True) (N := p.length) ?_ ?_ p.length 0 (h, 0) k rfl (by omega) (by omega)
  ·obtain ⟨x, e, _⟩ := M
   simp only [seal_FNV.b3]
   rw [if_pos (by simp), if_pos (by simp), be e]; exact ⟨_, rfl, rfl⟩
  ·rintro i ⟨h, j⟩ hi hj
   left
   simp only at hj; subst hj
   simp only [seal_FNV.b1]
   rw [e0, if_pos (by omega), if_pos (by omega), wrS i (by omega)]; exact ⟨_, rfl, rfl⟩
  ·rintro ⟨h, j⟩ hj
   simp only at hj; subst hj
   simp only [seal_FNV.b1]
   rw [e0, if_neg (by omega)]; exact ⟨_, rfl, trivial⟩
 ·rintro ⟨h, j⟩ hj
  simp only at hj; subst hj
  simp only [seal_FNV.b3]
  rw [if_neg (by simp)]; exact ⟨_, rfl, trivial⟩
theorem down_tot {k : Nat} (hk : Fuel k) (x : Int) : ∃ l, pd_64.f k (List.replicate 8 (0 : Int)) x = some l ∧ l.length = 8 := by
 have h24 : 1099511627776 ≤ k := hk; unfold pd_64.f; have L := loop_inv (f := fun (s_ : (List Int) × Int × Int) => pd_64.b1 (List.replicate 8 (0 : Int)) s_.1 s_.2.1 s_.2.2) (I := fun i s => s.1.length = 8 ∧ s.2.2 = (i : Int)) (P := fun l => l.length = 8) (N := 8) ?_ ?_ 8 0 (List.replicate 8 (0 : Int), x, 0) k ⟨rfl, rfl⟩ rfl (by omega)
 ·obtain ⟨l, e, h⟩ := L
  rw [be e]; exact ⟨l, by unfold pd_64.j2; rw [if_pos (by rw [h]; rfl)], h⟩
 ·rintro i ⟨l, y, j⟩ hi ⟨hl, hj⟩
  left
  simp only at hj hl; subst hj
  simp only [pd_64.b1]
  rw [if_pos (by simp; omega), if_pos (by omega), wrS i (by omega)]; exact ⟨_, rfl, by simpa using hl, rfl⟩
 ·rintro ⟨l, y, j⟩ ⟨hl, hj⟩
  simp only at hj hl; subst hj
  simp only [pd_64.b1]
  rw [if_neg (by simp)]; exact ⟨_, rfl, hl⟩
theorem WT.fixed {k : Nat} (hk : Fuel k) {n m : Nat} {w : Option Wri} (h : WT n w) (x : Int) (hm : n + 8 ≤ m) (hM : m ≤ 100000000) : ∃ w', W_Fixed.f k w x 8 = some w' ∧ WT m w' := by
 obtain ⟨l, e, hl⟩ := down_tot hk x; obtain ⟨w', e', h'⟩ := h.lay (a := l) (m := m) (by omega) hM; refine ⟨w', ?_, h'⟩; unfold W_Fixed.f W_Fixed.j1; rw [if_neg (by omega), dz (by omega), if_neg (by simp), if_pos (by omega), if_neg (by omega), if_neg (by omega), if_neg (by omega)]; have e8 : (8 : Int).toNat = 8 := rfl; rw [e8, be e, be e']
theorem cut_tot {k : Nat} (hk : Fuel k) {n : Nat} {w : Option Wri} (h : WT n w) : ∃ r, M_cut.f k w 64 = some r := by
 obtain ⟨l, x, e, hl⟩ := h.done; obtain ⟨r, er⟩ := fnv_tot hk l (by obtain ⟨_, _, _, _, _, h, _⟩ := h; omega); unfold M_cut.f; rw [be e, be er, if_pos (by decide), if_pos (by decide)]; exact ⟨_, rfl⟩
def RB (r : AW) : Prop := r.Key.length ≤ 1000 ∧ r.Value.length ≤ 1000
theorem ofRow_tot {k : Nat} (hk : Fuel k) {r : AW} (h : RB r) : ∃ n, M_ofRow.f k r 64 = some n := by
 obtain ⟨h1, h2⟩ := h; obtain ⟨w0, e0, W0⟩ := new_tot (IntKind.i64.wrap ((IntKind.i64.wrap ((r.Key.length : Int) + (r.Value.length : Int))) + 31)) (by rw [wr (n := (r.Key.length : Int) + (r.Value.length : Int)) (by omega) (by omega), wr (by omega) (by omega)]; omega); obtain ⟨w1, e1, W1⟩ := W0.byte 1 (by omega) (m := 1) (by omega) (by omega); obtain ⟨w2, e2, W2⟩ := W1.text hk r.Key (m := 1100) (by omega) (by omega); obtain ⟨w3, e3, W3⟩ := W2.text hk r.Value (m := 2200) (by omega) (by omega); obtain ⟨w4, e4, W4⟩ := W3.num hk (BitVec.ofInt 64 (shl .u64 (IntKind.u64.wrap r.Rev) 1) ^^^ BitVec.ofInt 64 (IntKind.u64.wrap (shr .i64 r.Rev 63))).toNat (m := 2300) (by omega) (by omega); have e4 : W_Num.f k w3 (bxor .u64 (shl .u64 (IntKind.u64.wrap r.Rev) 1) (IntKind.u64.wrap (shr .i64 r.Rev 63))) = some w4 := e4; obtain ⟨n, e5⟩ := cut_tot hk W4; unfold M_ofRow.f W_Int.f; rw [be e0, be e1, be e2, be e3, be e4, oB, be e5]; exact ⟨_, rfl⟩
theorem ofPair_tot {k : Nat} (hk : Fuel k) (x y : Int) : ∃ n, M_ofPair.f k x y 64 = some n := by
 obtain ⟨w0, e0, W0⟩ := new_tot 17 (by omega); obtain ⟨w1, e1, W1⟩ := W0.byte 3 (by omega) (m := 1) (by omega) (by omega); obtain ⟨w2, e2, W2⟩ := W1.fixed hk x (m := 9) (by omega) (by omega); obtain ⟨w3, e3, W3⟩ := W2.fixed hk y (m := 17) (by omega) (by omega); obtain ⟨n, e5⟩ := cut_tot hk W3; unfold M_ofPair.f; rw [be e0, be e1, be e2, be e3, be e5]; exact ⟨_, rfl⟩
@[irreducible] def ei (i : Nat) : Nat := 1 + 8 * i
theorem ofBucket_tot {k : Nat} (hk : Fuel k) {R : List AW} (hl : R.length ≤ 4194304) (hR : ∀ r ∈ R, RB r) : ∃ n, M_ofBucket.f k R 64 = some n := by
 have h24 : 1099511627776 ≤ k := hk; have es : ∀ i, ei (i + 1) = ei i + 8 := by intro i; unfold ei; omega
 have el : ∀ i, i ≤ 4194304 → ei i ≤ 34000000 := by intro i h; unfold ei; omega
 have ez : ei 0 = 1 := by unfold ei; rfl
 obtain ⟨w0, e0, W0⟩ := new_tot (IntKind.i64.wrap (1 + (IntKind.i64.wrap (8 * (R.length : Int))))) (by rw [wr (n := 8 * (R.length : Int)) (by omega) (by omega), wr (by omega) (by omega)]; omega); obtain ⟨w1, e1, W1⟩ := W0.byte 2 (by omega) (m := ei 0) (by omega) (by omega); unfold M_ofBucket.f; rw [be e0, be e1]; have L := loop_inv (f := fun (s_ : (Option Wri) × Int) => M_ofBucket.b1 k R 64 s_.1 s_.2) (I := fun i s => WT (ei i) s.1 ∧ s.2 = (i : Int)) (P := fun w => WT (ei R.length) w) (N := R.length) ?_ ?_ R.length 0 (w1, 0) k ⟨W1, rfl⟩ (by omega) (by omega)
 ·obtain ⟨w, e, hw⟩ := L
  obtain ⟨n, en⟩ := cut_tot hk hw; rw [be e]; unfold M_ofBucket.j2; rw [be en]; exact ⟨_, rfl⟩
 ·rintro i ⟨w, j⟩ hi ⟨hw, hj⟩
  left
  simp only at hj hw; subst hj
  have s1 := es i; have s2 := el (i + 1) (by omega); obtain ⟨n, en⟩ := ofRow_tot hk (hR (rd R (i : Int)) (by rw [rd_eq hi]; exact List.getElem_mem _)); obtain ⟨w', ew, hw'⟩ := hw.fixed hk n (m := ei (i + 1)) (by omega) (by omega)
  simp only [M_ofBucket.b1]
  rw [if_pos (by omega), if_pos (by omega), be en, be ew, wrS i (by omega)]; exact ⟨_, rfl, hw', rfl⟩
 ·rintro ⟨w, j⟩ ⟨hw, hj⟩
  simp only at hj hw; subst hj
  simp only [M_ofBucket.b1]
  rw [if_neg (by omega)]; exact ⟨_, rfl, hw⟩
theorem rising_tot {k : Nat} (hk : Fuel k) {R : List AW} (hl : R.length ≤ 4194304) : ∃ b, M_rising.f k R = some b := by
 have h24 : 1099511627776 ≤ k := hk; unfold M_rising.f; have L := loop_inv (f := fun (s_ : Int) => M_rising.b1 R s_) (I := fun i s => s = ((i + 1 : Nat) : Int)) (P := fun _ => True) (N := R.length) ?_ ?_ R.length 0 1 k rfl (by omega) (by omega)
 ·obtain ⟨x, e, _⟩ := L
  rw [be e]
  cases x <;> exact ⟨_, rfl⟩
 ·rintro i _ hi rfl
  simp only [M_rising.b1, M_byKey.f, bytes_Compare.f]
  by_cases c : i + 1 < R.length
  ·rw [if_pos (by omega), wr (by omega) (by omega), if_pos (by omega), if_pos (by omega), oB, oB]
   split
   ·exact .inr ⟨_, rfl, trivial⟩
   ·exact .inl ⟨_, rfl, by rw [wrS (i + 1) (by omega)]⟩
  ·rw [if_neg (by omega)]
   exact .inr ⟨_, rfl, trivial⟩
 ·rintro _ rfl
  simp only [M_rising.b1]
  rw [if_neg (by omega)]; exact ⟨_, rfl, trivial⟩
theorem bucket_tot {k : Nat} (hk : Fuel k) (p : List Int) (hp : p.length ≤ 1000000000) : ∃ n : Nat, M_bucket.f k p = some (n : Int) ∧ n < 256 := by
 obtain ⟨x, e⟩ := fnv_tot hk p hp; have h8 : 0 ≤ IntKind.u8.wrap x ∧ IntKind.u8.wrap x < 256 := by
  simp only [IntKind.wrap, IntKind.bits, IntKind.signed]
  simp
  omega
 unfold M_bucket.f; rw [be e, wr (by omega) (by omega)]; exact ⟨(IntKind.u8.wrap x).toNat, by rw [Int.toNat_of_nonneg h8.1], by omega⟩
theorem New_tot {k : Nat} (hk : Fuel k) {R : List AW} (hl : R.length ≤ 4194304) (hR : ∀ r ∈ R, RB r) : ∃ x, M_New.f k R 64 = some x := by
 have h24 : 1099511627776 ≤ k := hk; obtain ⟨b, eb⟩ := rising_tot hk hl; unfold M_New.f M_New.j1; rw [if_neg (by omega), dz (by omega), if_neg (by simp), be eb]
 split
 ·have L := loop_inv (f := fun (s_ : Int × (List (List AW))) => M_New.b2 k R s_.1 s_.2) (I := fun i s => s.1 = (i : Int) ∧ s.2.length = 256 ∧ ∀ x ∈ s.2, x.length ≤ i ∧ ∀ r ∈ x, RB r) (P := fun x => x.length = 256 ∧ ∀ y ∈ x, y.length ≤ R.length ∧ ∀ r ∈ y, RB r) (N := R.length) ?_ ?_ R.length 0 (0, List.replicate 256 []) k ⟨rfl, List.length_replicate .., fun x hx => by obtain rfl := (List.mem_replicate.1 hx).2; exact ⟨Nat.zero_le _, fun r h => by cases h⟩⟩ (by omega) (by omega)
  ·obtain ⟨S, eS, hS, hB⟩ := L
   rw [be eS]; unfold M_New.j3; have M := loop_inv (f := fun (s_ : Int × (List Int)) => M_New.b4 k 64 S s_.1 s_.2) (I := fun i s => s.1 = (i : Int) ∧ s.2.length = 512) (P := fun x => x.length = 512) (N := 256) ?_ ?_ 256 0 (0, List.replicate 512 (0 : Int)) k ⟨rfl, List.length_replicate ..⟩ (by omega) (by omega)
   ·obtain ⟨D, eD, hD⟩ := M
    rw [be eD]; unfold M_New.j5; have O := loop_inv (f := fun (s_ : Int × (List Int)) => M_New.b6 k 64 s_.1 s_.2) (I := fun i s => s.1 = 255 - (i : Int) ∧ s.2.length = 512) (P := fun x => True) (N := 255) ?_ ?_ 255 0 (255, D) k ⟨rfl, hD⟩ (by omega) (by omega)
    ·obtain ⟨D', eD', _⟩ := O
     rw [be eD']; exact ⟨_, rfl⟩
    ·rintro i ⟨j, l⟩ hi ⟨hj, hl⟩
     left
     simp only at hj hl; subst hj
     simp only [M_New.b6]
     obtain ⟨n, en⟩ := ofPair_tot hk (rd l (IntKind.i64.wrap (2 * (255 - (i : Int))))) (rd l (IntKind.i64.wrap ((IntKind.i64.wrap (2 * (255 - (i : Int)))) + 1))); have w1 : IntKind.i64.wrap (2 * (255 - (i : Int))) = 2 * (255 - (i : Int)) := wr (by omega) (by omega); have w2 : IntKind.i64.wrap (2 * (255 - (i : Int)) + 1) = 2 * (255 - (i : Int)) + 1 := wr (by omega) (by omega); rw [w1, w2] at en; rw [w1, w2, if_pos (by omega), if_pos (by omega), if_pos (by omega), be en, if_pos (by omega), wr (by omega) (by omega)]; exact ⟨_, rfl, by simp only; omega, by simpa using hl⟩
    ·rintro ⟨j, l⟩ ⟨hj, hl⟩
     simp only at hj hl; subst hj
     simp only [M_New.b6]
     rw [if_neg (by omega)]; exact ⟨_, rfl, trivial⟩
   ·rintro i ⟨j, l⟩ hi ⟨hj, hl⟩
    left
    simp only at hj hl; subst hj
    simp only [M_New.b4]
    have hm : rd S (i : Int) ∈ S := by rw [rd_eq (by omega)]; exact List.getElem_mem _
    obtain ⟨n, en⟩ := ofBucket_tot hk (R := rd S (i : Int)) (by have := (hB _ hm).1; omega) (hB _ hm).2; rw [if_pos (by omega), if_pos (by omega), be en, wr (n := 256 + (i : Int)) (by omega) (by omega), if_pos (by omega), wrS i (by omega)]; exact ⟨_, rfl, rfl, by simpa using hl⟩
   ·rintro ⟨j, l⟩ ⟨hj, hl⟩
    simp only at hj hl; subst hj
    simp only [M_New.b4]
    rw [if_neg (by omega)]; exact ⟨_, rfl, hl⟩
  ·rintro i ⟨j, S⟩ hi ⟨hj, hS, hB⟩
   left
   simp only at hj hS hB; subst hj
   have hr := hR (rd R (i : Int)) (by rw [rd_eq hi]; exact List.getElem_mem _); obtain ⟨b, eb, hb⟩ := bucket_tot hk (rd R (i : Int)).Key (by have := hr.1; omega); have hm : rd S (b : Int) ∈ S := by rw [rd_eq (by omega)]; exact List.getElem_mem _
   have hmb := hB _ hm
   simp only [M_New.b2, M_own.f, bC_.f]
   rw [if_pos (by omega), if_pos (by omega), be eb, if_pos (by omega), if_pos (by have := hr.1; omega), oB, if_pos (by have := hr.2; omega), oB, oB, if_pos (by have := hmb.1; simp; omega), wrS i (by omega)]; refine ⟨_, rfl, rfl, by simpa using hS, fun x hx => ?_⟩
   rcases List.mem_or_eq_of_mem_set hx with h | rfl
   ·exact ⟨by have := (hB x h).1; omega, (hB x h).2⟩
   ·refine ⟨by have := hmb.1; simp; omega, fun r h => ?_⟩
    rcases List.mem_append.1 h with h | h
    ·exact hmb.2 r h
    ·obtain rfl := List.mem_singleton.1 h; exact hr
  ·rintro ⟨j, S⟩ ⟨hj, hS, hB⟩
   simp only at hj hS hB; subst hj
   simp only [M_New.b2]
   rw [if_neg (by omega)]; exact ⟨_, rfl, hS, hB⟩
 ·exact ⟨_, rfl⟩
theorem Digest_tot (t : Option Mer) : ∃ n, Y_Root.f t = some n := by
 unfold Y_Root.f Y_Digest.f Y_Digest.j1
 cases t with
 | none => exact ⟨_, rfl⟩
 | some t => rw [if_neg (by simp), if_neg (by omega), dz (by omega), if_neg (by simp), oB, if_pos (by omega)]; exact ⟨_, rfl⟩
theorem Root_fun {k : Nat} (hk : Fuel k) {T0 : Option Tab} {Q : List AS} {st : St} (hr : st.2 < 4194304) (hS0 : SI T0 Q st) : ∃ n, ∀ T, SI T Q st → S_Root.f k (some ⟨T, Q⟩) = some n := by
 have hi := hS0.rep.inv; have hlen := hi.len; obtain ⟨x, ex⟩ := New_tot hk (R := st.1.map rowOf) (by rw [List.length_map]; omega) fun r hr => by
  obtain ⟨e, he, rfl⟩ := List.mem_map.1 hr; have := hi.ent e he; exact ⟨by show (sb e.1).length ≤ _; rw [sb_len]; omega, by show e.2.value.length ≤ _; omega⟩
 obtain ⟨d, ed⟩ := Digest_tot x.1; obtain ⟨w0, e0, W0⟩ := new_tot 1048576 (by omega); obtain ⟨w1, e1, W1⟩ := W0.fixed hk d (m := 8) (by omega) (by omega); obtain ⟨w2, e2, W2⟩ := W1.num hk (st.2 : Int) (m := 19) (by omega) (by omega); obtain ⟨w3, e3, W3⟩ := lay_tot hk hS0.len hS0.qb (n := 19) (by omega) W2; obtain ⟨l, y, e4, hl⟩ := W3.done; obtain ⟨n, e5⟩ := fnv_tot hk l (by omega); refine ⟨n, fun T hS => ?_⟩; unfold S_Root.f; rw [if_neg (by simp), be (SRows_eq hr hS), be ex, be e0, be ed, be e1, be (SRev_eq hS), be e2, oB, be e3, be e4, be e5]
theorem or128 : ∀ x : Fin 256, x.val ||| 128 = x.val % 128 + 128 := by decide +kernel
theorem and127 : ∀ x : Fin 256, x.val &&& 127 = x.val % 128 := by decide +kernel
theorem wr8 (n : Nat) : IntKind.u8.wrap (n : Int) = ((n % 256 : Nat) : Int) := by
 simp only [IntKind.wrap, IntKind.bits, IntKind.signed]; simp
theorem bv8 (n : Nat) (h : n < 256) : (BitVec.ofInt IntKind.u8.bits (n : Int)) = BitVec.ofNat 8 n := by
 show BitVec.ofInt 8 (n : Int) = _
 rw [BitVec.ofInt_natCast]
theorem bor8 (n : Nat) : bor .u8 (IntKind.u8.wrap (n : Int)) 128 = ((n % 128 + 128 : Nat) : Int) := by
 rw [wr8]; unfold bor; rw [bv8 (n % 256) (by omega)]
 show IntKind.u8.wrap ((BitVec.ofNat 8 (n % 256) ||| BitVec.ofInt 8 128).toNat : Int) = _
 have e : (BitVec.ofNat 8 (n % 256) ||| BitVec.ofInt 8 128).toNat = (n % 256) ||| 128 := by
  rw [BitVec.toNat_or, BitVec.toNat_ofNat]; have : (BitVec.ofInt 8 128).toNat = 128 := by decide
  rw [this, Nat.mod_eq_of_lt (show n % 256 < 2 ^ 8 by omega)]
 rw [e, or128 ⟨n % 256, by omega⟩, wr8]
 congr 1
 show (n % 256 % 128 + 128) % 256 = n % 128 + 128
 omega
theorem band8 {c : Int} (h0 : 0 ≤ c) (h1 : c ≤ 255) : band .u8 c 127 = c % 128 := by
 obtain ⟨n, rfl⟩ := Int.eq_ofNat_of_zero_le h0; unfold band; rw [bv8 n (by omega)]
 show IntKind.u8.wrap ((BitVec.ofNat 8 n &&& BitVec.ofInt 8 127).toNat : Int) = _
 have e : (BitVec.ofNat 8 n &&& BitVec.ofInt 8 127).toNat = n &&& 127 := by
  rw [BitVec.toNat_and, BitVec.toNat_ofNat]; have : (BitVec.ofInt 8 127).toNat = 127 := by decide
  rw [this, Nat.mod_eq_of_lt (show n < 2 ^ 8 by omega)]
 rw [e, and127 ⟨n, by omega⟩, wr8]
 show ((n % 128 % 256 : Nat) : Int) = (n : Int) % 128
 omega
theorem wr64 {n : Nat} (h : n < 2 ^ 64) : IntKind.u64.wrap (n : Int) = (n : Int) := by
 simp only [IntKind.wrap, IntKind.bits, IntKind.signed]; simp; omega
theorem shl64 {d k : Nat} (hk : k ≤ 9) (h : d * 2 ^ (7 * k) < 2 ^ 64) : shl .u64 (IntKind.u64.wrap (d : Int)) (7 * (k : Int)) = ((d * 2 ^ (7 * k) : Nat) : Int) := by
 have hd : d < 2 ^ 64 := Nat.lt_of_le_of_lt (Nat.le_mul_of_pos_right _ (Nat.two_pow_pos _)) h; rw [wr64 hd]; unfold shl; have e1 : (7 * (k : Int)).toNat = 7 * k := by omega
 rw [e1, show min (7 * k) IntKind.u64.bits = 7 * k from Nat.min_eq_left (by show 7 * k ≤ 64; omega)]; have e2 : (d : Int) * 2 ^ (7 * k) = ((d * 2 ^ (7 * k) : Nat) : Int) := by push_cast; rfl
 rw [e2, wr64 h]
theorem bor64 {a d k : Nat} (ha : a < 2 ^ (7 * k)) (h : a + d * 2 ^ (7 * k) < 2 ^ 64) : bor .u64 (a : Int) ((d * 2 ^ (7 * k) : Nat) : Int) = ((a + d * 2 ^ (7 * k) : Nat) : Int) := by
 unfold bor
 show IntKind.u64.wrap ((BitVec.ofInt 64 (a : Int) ||| BitVec.ofInt 64 ((d * 2 ^ (7 * k) : Nat) : Int)).toNat : Int) = _
 rw [BitVec.ofInt_natCast, BitVec.ofInt_natCast, BitVec.toNat_or, BitVec.toNat_ofNat, BitVec.toNat_ofNat, Nat.mod_eq_of_lt (by omega), Nat.mod_eq_of_lt (by omega)]; have e : a ||| d * 2 ^ (7 * k) = a + d * 2 ^ (7 * k) := by
  rw [Nat.or_comm, Nat.mul_comm d, ← Nat.two_pow_add_eq_or_of_lt ha, Nat.add_comm]
 rw [e, wr64 h]
def acc (k : Nat) (n c : Int) : Int := bor .u64 n (shl .u64 (IntKind.u64.wrap (band .u8 c 127)) (7 * (k : Int)))
theorem acc_eq {k n c : Nat} (hk : k ≤ 9) (hc : c ≤ 255) (hn : n < 2 ^ (7 * k)) (ht : n + c % 128 * 2 ^ (7 * k) < 2 ^ 64) : acc k (n : Int) (c : Int) = ((n + c % 128 * 2 ^ (7 * k) : Nat) : Int) := by
 unfold acc; rw [band8 (by omega) (by omega), show (c : Int) % 128 = ((c % 128 : Nat) : Int) by omega, shl64 hk (by omega), bor64 hn ht]
theorem rnum_cons (f c : Int) (xs : List Int) (k : Nat) (n : Int) : rnum f (c :: xs) k n = if (k = 9 ∧ 1 < c) ∨ (0 < k ∧ c = 0) then .inr (0, xs, 11) else if c < 128 then .inr (acc k n c, xs, f) else rnum f xs (k + 1) (acc k n c) := rfl
theorem pow_step (k : Nat) : 2 ^ (7 * (k + 1)) = 128 * 2 ^ (7 * k) := by
 rw [Nat.mul_add, Nat.pow_add, Nat.mul_comm]
theorem tot (n m B : Nat) : n + m % 128 * B + m / 128 * (128 * B) = n + m * B := by
 have h : m % 128 * B + m / 128 * (128 * B) = m * B := by
  rw [← Nat.mul_assoc, ← Nat.add_mul, Nat.mul_comm (m / 128), Nat.mod_add_div]
 omega
theorem small {n d B : Nat} (hn : n < B) (hd : d < 128) : n + d * B < 128 * B := by
 have : d * B ≤ 127 * B := Nat.mul_le_mul_right B (by omega)
 omega
theorem rnum_fm (ou : List Int) : ∀ (f m k n : Nat), m < 128 ^ (f + 1) → k + f ≤ 9 → n < 2 ^ (7 * k) → n + m * 2 ^ (7 * k) < 2 ^ 64 → (k = 0 ∨ 0 < m) →
  rnum 0 (fmP f m ++ (IntKind.u8.wrap (fmL f m) :: ou)) k (n : Int) = .inr (((n + m * 2 ^ (7 * k) : Nat) : Int), ou, 0) := by
 have base : ∀ (m k n : Nat), m < 128 → k ≤ 9 → n < 2 ^ (7 * k) → n + m * 2 ^ (7 * k) < 2 ^ 64 → (k = 0 ∨ 0 < m) → rnum 0 (IntKind.u8.wrap (m : Int) :: ou) k (n : Int) = .inr (((n + m * 2 ^ (7 * k) : Nat) : Int), ou, 0) := by
  intro m k n hm hk hn ht h0; have e : IntKind.u8.wrap (m : Int) = (m : Int) := by rw [wr8]; congr 1; omega
  rw [e, rnum_cons, if_neg, if_pos (by omega), acc_eq hk (by omega) hn (by rw [Nat.mod_eq_of_lt hm]; exact ht), Nat.mod_eq_of_lt hm]; rintro (⟨rfl, h⟩ | ⟨h1, h2⟩)
  ·have : 2 * 2 ^ (7 * 9) ≤ m * 2 ^ (7 * 9) := Nat.mul_le_mul_right _ (by omega)
   omega
  ·omega
 intro f
 induction f with
 | zero =>
  intro m k n hm hk hn ht h0; exact base m k n (by simpa using hm) (by omega) hn ht h0
 | succ f ih =>
  intro m k n hm hk hn ht h0
  by_cases c : m ≤ 127
  ·have e1 : fmP (f + 1) m = [] := by simp [fmP, c]
   have e2 : fmL (f + 1) m = m := by simp [fmL, c]
   rw [e1, e2]; exact base m k n (by omega) (by omega) hn ht h0
  ·have e1 : fmP (f + 1) m = ((m % 128 + 128 : Nat) : Int) :: fmP f (m / 128) := by
    conv => lhs; unfold fmP
    rw [if_neg c, bor8]
   have e2 : fmL (f + 1) m = fmL f (m / 128) := by
    conv => lhs; unfold fmL
    rw [if_neg c]
   rw [e1, e2, List.cons_append, rnum_cons, if_neg (by omega), if_neg (by omega)]; have hmod : (m % 128 + 128) % 128 = m % 128 := by omega
   have hd : m % 128 * 2 ^ (7 * k) ≤ m * 2 ^ (7 * k) := Nat.mul_le_mul_right _ (Nat.mod_le _ _); rw [acc_eq (by omega) (by omega) hn (by rw [hmod]; omega), hmod]; have hB := pow_step k; have ht2 := tot n m (2 ^ (7 * k)); rw [ih (m / 128) (k + 1) (n + m % 128 * 2 ^ (7 * k)) (by rw [Nat.pow_succ] at hm; omega) (by omega) (by rw [hB]; exact small hn (by omega)) (by rw [hB, ht2]; exact ht) (Or.inr (by omega)), hB, ht2]
theorem rnum_form {m : Nat} (hm : m < 2 ^ 64) (ou : List Int) : rnum 0 (fm m ++ ou) 0 0 = .inr ((m : Int), ou, 0) := by
 have := rnum_fm ou 9 m 0 0 (by omega) (by omega) (by decide) (by simpa using hm) (Or.inl rfl); unfold fm; rw [List.append_assoc]
 simpa using this
theorem Num_fwd {m : Nat} (hm : m < 2 ^ 64) (rest : List Int) (ou : List (List Int)) : R_Num.f (some ⟨fm m ++ rest, ou, 0⟩) = some ((m : Int), some ⟨rest, ou, 0⟩) := by
 unfold R_Num.f
 simp only [if_true, rnum_form hm, rtake]
theorem fm_pos (n : Nat) : 1 ≤ (fm n).length := by rw [fm_len]; exact (nm_le n).1
theorem wrapmax {most : Int} (h0 : 0 ≤ most) (h1 : most ≤ 1000000) : IntKind.u64.wrap (max most 0) = most := by
 rw [Int.max_eq_left h0, wru h0 (by omega)]
theorem Text_fwd {v : List Int} {most : Int} (h0 : 0 ≤ most) (h1 : most ≤ 1000000) (hv : (v.length : Int) ≤ most) (rest : List Int) (hr : (v ++ rest).length ≤ 140737488355328) (ou : List (List Int)) :
  R_Text.f (some ⟨fm v.length ++ (v ++ rest), ou, 0⟩) most = some (v, some ⟨rest, ou, 0⟩) := by
 have hlen : (v ++ rest).length = v.length + rest.length := lA; have e : rtext (fm v.length ++ (v ++ rest)) 0 most = some (.inr (v, rest, 0)) := by
  unfold rtext rsize; rw [wrapmax h0 h1, rnum_form (by omega)]
  simp only [if_true]
  rw [if_neg (by omega), if_neg (by omega)]
  simp only
  rw [wr (by omega) (by omega), if_pos (by omega)]
  simp
 unfold R_Text.f
 simp only [if_true, e, oB, rtake]
theorem bs_toList (l : List Int) : (bs l).toList = l.map fun n => UInt8.ofNat n.toNat := by
 rw [ByteArray.toList_eq]; simp [bs]
theorem num_any {k : Nat} (hk : Fuel k) {n : Int} (hn : n < 9223372036854775808) : ∃ y, table_num.f k n = some y ∧ 1 ≤ y ∧ y ≤ 10 := by
 by_cases h : 0 ≤ n
 ·obtain ⟨q, rfl⟩ := Int.eq_ofNat_of_zero_le h
  have := nm_le q; exact ⟨_, num_eq hk (by omega), by omega, by omega⟩
 ·have h24 : 1099511627776 ≤ k := hk
  obtain ⟨q, rfl⟩ : ∃ q, k = q + 1 := ⟨k - 1, by omega⟩; refine ⟨1, ?_, by omega, by omega⟩; unfold table_num.f; rw [be (loop_done (x := (1 : Int)) ?_)]
  ·rfl
  ·unfold table_num.b1; rw [if_neg (by omega)]
theorem long_any {k : Nat} (hk : Fuel k) {key : ByteArray} {c : TC} (h1 : key.size ≤ 64) (h2 : c.value.length ≤ 256) (h4 : c.rev < 9223372036854775808) : ∃ y, table_long.f k key c = some y := by
 obtain ⟨y, e, _⟩ := num_any hk h4; unfold table_long.f; rw [be (num_eq hk (n := key.size) (by omega)), be (num_eq hk (n := c.value.length) (by omega)), be e]; exact ⟨_, rfl⟩
theorem set_any {k : Nat} (hk : Fuel k) {rows : Tr} {L : List Ent} {R z : Int} (hlen : L.length < 10000000000) (hw : rows.WF) (hl : rows.list = L) (ho : Ord L) (hE : ∀ e ∈ L, okE e) {key : ByteArray} {c : TC} (h1 : key.size ≤ 64) (h2 : c.value.length ≤ 256) (h4 : c.rev < 9223372036854775808) :
  ∃ t, T_set.f k (some ⟨rows, R, z⟩) key c true = some t := by
 subst hl; have hh := rows.hgt_le; have h24 : 1099511627776 ≤ k := hk; obtain ⟨u, eu, wu, lu⟩ := put_eq k rows key c (by omega) hw ho (by unfold big; omega); obtain ⟨y, ey⟩ := long_any hk h1 h2 h4; have j1 : ∀ x, ∃ t, T_set.j1 k key c true ⟨rows, R, z⟩ x = some t := by
  intro x; unfold T_set.j1; rw [if_pos rfl, be eu, be ey]; exact ⟨_, rfl⟩
 unfold T_set.f
 simp only [oB]
 rw [be (get_eq k rows key (by omega) ho)]
 cases h : look key rows.list with
 | none => rw [if_neg (by simp [gotQ])]; exact j1 _
 | some x =>
  have hx := hE _ (look_mem _ h); obtain ⟨y2, ey2⟩ := long_any hk (key := key) (c := x) hx.1 hx.2.1 (by have h3 : x.rev ≤ 1099511627776 := hx.2.2.2; omega); rw [if_pos (show (gotQ (some x)).2 = true from rfl), be (show table_long.f k key (gotQ (some x)).1 = some y2 from ey2)]; exact j1 _
theorem ins_end {key : ByteArray} {c : TC} : ∀ L : List Ent, (∀ e ∈ L, lt e.1 key = true) → ins key c L = L ++ [(key, c)]
 | [], _ => rfl
 | (a, x) :: L, h => by
  have h1 : lt a key = true := h (a, x) (by simp)
  simp only [ins, h1, lt_asym h1]
  rw [ins_end L (fun e he => h e (by simp [he]))]
  simp
theorem lt_empty {k : ByteArray} (h : 1 ≤ k.size) : lt .empty k = true := by
 unfold lt; rw [ByteArray.toList_eq, ByteArray.toList_eq]; have : k.data.toList ≠ [] := by
  intro e; have : k.data.toList.length = 0 := by rw [e]; rfl
  rw [Array.length_toList] at this; exact absurd h (by show ¬ 1 ≤ k.data.size; omega)
 cases hq : k.data.toList with
 | nil => exact absurd hq this
 | cons a l => rfl
theorem lt_size {a k : ByteArray} (h : lt a k = true) : 1 ≤ k.size := by
 unfold lt at h; rw [ByteArray.toList_eq k] at h
 rcases Nat.eq_zero_or_pos k.size with q | q
 ·have : k.data.toList = [] := by
   apply List.length_eq_zero_iff.1
   rw [Array.length_toList]; exact q
  rw [this] at h
  cases a.toList <;> simp [Op.bytesLess] at h
 ·exact q
theorem notless {a b : ByteArray} : (Op.bytesLess a.toList b.toList || (a.toList == b.toList)) = !lt b a := by
 rw [keq]
 cases h : lt b a with
 | true =>
  have h1 : Op.bytesLess a.toList b.toList = false := lt_asym h; have h2 : ¬ a = b := fun e => by subst e; rw [lt_irr] at h; cases h
  simp [h1, h2]
 | false =>
  by_cases e : a = b
  ·simp [e]
  ·cases h2 : Op.bytesLess a.toList b.toList with
   | true => simp
   | false => exact absurd (lt_tri h2 h) e
abbrev revs (L : List Ent) : List Int := L.map fun e => e.2.rev
structure Part (R : Nat) (L : List Ent) (last : ByteArray) (m : MpV Bool) : Prop where
 ord : Ord L
 ent : ∀ e ∈ L, 1 ≤ e.1.size ∧ e.1.size ≤ 64 ∧ e.2.value.length ≤ 256 ∧ 1 ≤ e.2.rev ∧ e.2.rev ≤ (R : Int)
 low : ∀ e ∈ L, e.1 = last ∨ lt e.1 last = true
 top : (L = [] ∧ last = .empty) ∨ ∃ e ∈ L, e.1 = last
 map : ∀ a, m.f a = if a ∈ revs L then some true else none
 dis : (revs L).Nodup
 cnt : m.n = L.length
def TabR (t : Option Tab) (R : Int) (L : List Ent) : Prop := ∃ rows, t = some ⟨rows, R, sz L⟩ ∧ rows.WF ∧ rows.list = L
theorem Part.next {R : Nat} {L : List Ent} {last : ByteArray} {m : MpV Bool} (h : Part R L last m) {key : ByteArray} {v : List Int} {at_ : Int} (h1 : lt last key = true) (h2 : key.size ≤ 64) (h3 : v.length ≤ 256) (h4 : 1 ≤ at_) (h5 : at_ ≤ (R : Int)) (h6 : at_ ∉ revs L) :
  Part R (L ++ [(key, ⟨v, at_⟩)]) key ⟨fun i => if i = at_ then some true else m.f i, m.n + 1⟩ := by
 have below : ∀ e ∈ L, lt e.1 key = true := fun e he => by
  rcases h.low e he with q | q
  ·rw [q]; exact h1
  ·exact lt_tr q h1
 refine ⟨?_, ?_, ?_, Or.inr ⟨_, List.mem_append.2 (Or.inr (List.mem_singleton.2 rfl)), rfl⟩, ?_, ?_, ?_⟩
 ·unfold Ord
  rw [List.pairwise_append]; refine ⟨h.ord, by simp, fun x hx y hy => ?_⟩; rw [List.mem_singleton] at hy; subst hy; exact below x hx
 ·intro e he
  rcases List.mem_append.1 he with q | q
  ·exact h.ent e q
  ·rw [List.mem_singleton] at q; subst q; exact ⟨lt_size h1, h2, h3, h4, h5⟩
 ·intro e he
  rcases List.mem_append.1 he with q | q
  ·exact Or.inr (below e q)
  ·rw [List.mem_singleton] at q; subst q; exact Or.inl rfl
 ·intro a
  show (if a = at_ then some true else m.f a) = _
  rw [h.map a]; unfold revs; rw [List.map_append]
  by_cases q : a = at_
  ·subst q; simp
  ·rw [if_neg q]
   by_cases q2 : a ∈ revs L
   ·rw [if_pos q2, if_pos (List.mem_append.2 (Or.inl q2))]
   ·rw [if_neg q2, if_neg]
    intro h'
    rcases List.mem_append.1 h' with g | g
    ·exact q2 g
    ·simp at g; exact q g
 ·unfold revs
  rw [List.map_append]; refine List.nodup_append.2 ⟨h.dis, by simp, fun x hx y hy => ?_⟩
  simp at hy
  subst hy; intro e; subst e; exact h6 hx
 ·rw [lA, ← h.cnt]; rfl
theorem row_eq {k : Nat} (hk : Fuel k) {R : Nat} (hR : R ≤ 1099511627776) {L : List Ent} {last : ByteArray} {m : MpV Bool} (hP : Part R L last m) (hlen : L.length < 8000000000) {tab : Option Tab} (hT : TabR tab R L) {t17 : Int × Option Rdr} (h17 : t17.1 = (R : Int))
  {kb vb : List Int} (hkb : kb.length ≤ 64) (hvb : vb.length ≤ 256) {r1 r2 r3 : Option Rdr} {a : Int} (ha0 : 0 ≤ a) (ha1 : a < 18446744073709551616) {many : Int} (hm0 : 0 < many) (hm1 : many < 18446744073709551616) (hN : R_Num.f r2 = some (a, r3)) :
  ∃ tab' g m', tR_.j5 k t17 (kb, r1) (vb, r2) many tab m last = some (.next (r3, many - 1, tab', g, m', bs kb)) ∧
   (g = true ↔ (lt last (bs kb) = true ∧ 0 < a ∧ a ≤ (R : Int) ∧ a ∉ revs L)) ∧ (g = true → TabR tab' R (L ++ [(bs kb, ⟨vb, a⟩)]) ∧ Part R (L ++ [(bs kb, ⟨vb, a⟩)]) (bs kb) m') := by
 obtain ⟨rows, rfl, hw, hl⟩ := hT; have hE : ∀ e ∈ L, okE e := fun e he => by have := hP.ent e he; exact ⟨this.2.1, this.2.2.1, by omega, by omega⟩
 have hwf : (Lit.int .u64 a).wf = true := by
  simp [Lit.wf, IntKind.min, IntKind.max, IntKind.signed, IntKind.bits]; omega
 have hwm : IntKind.u64.wrap (many - 1) = many - 1 := by
  simp only [IntKind.wrap, IntKind.bits, IntKind.signed]; simp; omega
 have hks : (bs kb).size ≤ 64 := by rw [bs_size]; omega
 have hwr : IntKind.i64.wrap a < 9223372036854775808 := by rw [IntKind.wrap_i64]; omega
 have hn : m.n < 140737488355328 := by rw [hP.cnt]; omega
 have j6 : ∀ g, ∃ tab' m', tR_.j6 k (kb, r1) (vb, r2) (a, r3) many (some ⟨rows, R, sz L⟩) m g = some (.next (r3, many - 1, tab', g, m', bs kb)) ∧
   (lt last (bs kb) = true → 0 < a → a ≤ (R : Int) → a ∉ revs L → TabR tab' R (L ++ [(bs kb, ⟨vb, a⟩)]) ∧ Part R (L ++ [(bs kb, ⟨vb, a⟩)]) (bs kb) m') := by
  intro g; unfold tR_.j6; rw [if_pos ⟨hwf, hn⟩]
  by_cases c : lt last (bs kb) = true ∧ 0 < a ∧ a ≤ (R : Int) ∧ a ∉ revs L
  ·obtain ⟨c1, c2, c3, c4⟩ := c
   have hwa : IntKind.i64.wrap a = a := wr (by omega) (by omega); obtain ⟨u, eu, wu, lu⟩ := set_put0 hk (R := (R : Int)) (Nat.lt_trans hlen (by omega)) hw hl hP.ord hE (key := bs kb) (c := ⟨vb, a⟩) ⟨hks, hvb, ha0, by show a ≤ _; omega⟩
   simp only [hwa]
   rw [be eu, hwm]; have hne : ins (bs kb) ⟨vb, a⟩ L = L ++ [(bs kb, ⟨vb, a⟩)] := ins_end L (fun e he => by
    rcases hP.low e he with q | q
    ·rw [q]; exact c1
    ·exact lt_tr q c1)
   refine ⟨_, _, rfl, fun _ _ _ _ => ⟨⟨u, by rw [hne], wu, by rw [lu, hne]⟩, hP.next c1 hks hvb (by omega) c3 c4⟩⟩
  ·obtain ⟨t, et⟩ := set_any hk (R := (R : Int)) (z := sz L) (Nat.lt_trans hlen (by omega)) hw hl hP.ord hE (key := bs kb) (c := ⟨vb, IntKind.i64.wrap a⟩) hks hvb hwr
   simp only
   rw [be et, hwm]; exact ⟨_, _, rfl, fun c1 c2 c3 c4 => absurd ⟨c1, c2, c3, c4⟩ c⟩
 unfold tR_.j5
 simp only
 rw [be hN]
 simp only
 rw [notless]
 cases c1 : lt last (bs kb) with
 | false =>
  rw [if_pos (by simp)]; obtain ⟨tab', m', e, _⟩ := j6 false; exact ⟨tab', false, m', e, by simp, fun h => by cases h⟩
 | true =>
  rw [if_neg (by simp)]
  by_cases c2 : 0 < a
  ·rw [if_pos c2, h17]
   by_cases c3 : a ≤ (R : Int)
   ·rw [if_pos c3, if_pos hwf]
    by_cases c4 : a ∈ revs L
    ·rw [hP.map a, if_pos c4]
     obtain ⟨tab', m', e, _⟩ := j6 false; exact ⟨tab', false, m', e, by simp [c4], fun h => by cases h⟩
    ·rw [hP.map a, if_neg c4]
     obtain ⟨tab', m', e, h⟩ := j6 true; exact ⟨tab', true, m', e, by simp [c2, c3, c4], fun _ => h c1 c2 c3 c4⟩
   ·rw [if_neg c3]
    obtain ⟨tab', m', e, _⟩ := j6 false; exact ⟨tab', false, m', e, by simp [c3], fun h => by cases h⟩
  ·rw [if_neg c2]
   obtain ⟨tab', m', e, _⟩ := j6 false; exact ⟨tab', false, m', e, by simp [c2], fun h => by cases h⟩
abbrev RS := (Option Rdr) × Int × (Option Tab) × Bool × (MpV Bool) × ByteArray
abbrev rloop (k : Nat) (t17 : Int × Option Rdr) (n : Nat) (s : RS) : Option ((Option Rdr) × (Option Tab) × Bool) := loop (fun (s_ : RS) => tR_.b7 k t17 s_.1 s_.2.1 s_.2.2.1 s_.2.2.2.1 s_.2.2.2.2.1 s_.2.2.2.2.2) n s
theorem rloop_end {k : Nat} {t17 : Int × Option Rdr} {n : Nat} {r : Option Rdr} {many : Int} {tab : Option Tab} {g : Bool} {m : MpV Bool} {last : ByteArray} (h : ¬ 0 < many ∨ g = false) (hn : 0 < n) : rloop k t17 n (r, many, tab, g, m, last) = some (r, tab, g) := by
 obtain ⟨q, rfl⟩ : ∃ q, n = q + 1 := ⟨n - 1, by omega⟩; refine loop_done ?_
 show tR_.b7 k t17 r many tab g m last = _
 unfold tR_.b7 tR_.j4
 by_cases c : 0 < many
 ·rcases h with h | h
  ·exact absurd c h
  ·rw [if_pos c, h, if_neg (by simp)]
 ·rw [if_neg c, if_neg (by simp)]
theorem Done_eq (l : List Int) (f : Int) : R_Done.f (some ⟨l, [], f⟩) = some (if f = 0 then (if 0 < l.length then 12 else 0) else f) := by
 unfold R_Done.f R_Done.j1
 by_cases c : f = 0
 ·by_cases c2 : 0 < l.length
  ·simp [c, c2]
  ·simp [c, c2]
 ·simp [c]
theorem Part.empty (R : Nat) : Part R [] { data := #[] } ⟨fun _ => none, 0⟩ :=
 ⟨List.Pairwise.nil, fun e he => (by cases he), fun e he => (by cases he), Or.inl ⟨rfl, rfl⟩, fun a => by simp, List.nodup_nil, rfl⟩
structure Sound (s : St) : Prop where
 inv : Inv s.1 s.2
 dis : (revs s.1).Nodup
 top : s.2 ≤ 1099511627776
theorem TabR.rep {t : Option Tab} {s : St} (h : TabR t s.2 s.1) (hS : Sound s) : RepS t s := by
 obtain ⟨rows, e, hw, hl⟩ := h; exact ⟨rows, e, hw, hl, hS.inv⟩
theorem new_eq : table_New.f = some (some (Tab.mk .nil 0 0)) := rfl
theorem bs_sb (k : ByteArray) : bs (sb k) = k := by
 apply toList_inj
 rw [bs_toList, ByteArray.toList_eq]; unfold sb; rw [List.map_map]; have : ∀ l : List UInt8, l.map ((fun n : Int => UInt8.ofNat n.toNat) ∘ fun b : UInt8 => (b.toNat : Int)) = l := by
  intro l
  induction l with
  | nil => rfl
  | cons a l ih =>
   rw [List.map_cons, ih]
   congr 1
   show UInt8.ofNat ((a.toNat : Int).toNat) = a
   rw [Int.toNat_natCast]; exact UInt8.ofNat_toNat
 exact this _
theorem ef_flat (e : Ent) (rest : List Int) : ef e ++ rest = fm (sb e.1).length ++ (sb e.1 ++ (fm e.2.value.length ++ (e.2.value ++ (fm e.2.rev.toNat ++ rest)))) := by
 unfold ef; rw [sb_len]
 simp only [List.append_assoc]
theorem ef_pos (e : Ent) : 1 ≤ (ef e).length := by
 unfold ef; simp only [lA]; have := fm_pos e.1.size; omega
theorem flat_pos : ∀ L : List Ent, L.length ≤ (L.flatMap ef).length
 | [] => Nat.le_refl _
 | e :: L => by rw [List.flatMap_cons, lA, List.length_cons]; have := flat_pos L; have := ef_pos e; omega
theorem form_len (s : St) : s.1.length ≤ (form s).length := by
 unfold form; simp only [lA]; have := flat_pos s.1; omega
theorem rloop_fwd {k : Nat} (hk : Fuel k) {R : Nat} (hR : R ≤ 1099511627776) {t17 : Int × Option Rdr} (h17 : t17.1 = (R : Int)) (ou : List (List Int)) (y : List Int) : ∀ (M : List Ent) (tab : Option Tab) (L : List Ent) (m : MpV Bool) (last : ByteArray) (n : Nat),
  (M.flatMap ef ++ y).length + L.length < 8000000000 → TabR tab R L → Part R L last m → Ord (L ++ M) → (revs (L ++ M)).Nodup →
  (∀ e ∈ M, 1 ≤ e.1.size ∧ e.1.size ≤ 64 ∧ e.2.value.length ≤ 256 ∧ 1 ≤ e.2.rev ∧ e.2.rev ≤ (R : Int)) → M.length < n →
  ∃ tab', rloop k t17 n (some ⟨M.flatMap ef ++ y, ou, 0⟩, (M.length : Int), tab, true, m, last) = some (some ⟨y, ou, 0⟩, tab', true) ∧ TabR tab' R (L ++ M)
 | [], tab, L, m, last, n, _, hT, _, _, _, _, hn => ⟨tab, rloop_end (Or.inl (by simp)) hn, by simpa using hT⟩
 | e :: M, tab, L, m, last, n, hs, hT, hP, ho, hd, hE, hn => by
  obtain ⟨n, rfl⟩ : ∃ p, n = p + 1 := ⟨n - 1, by omega⟩; obtain ⟨key, v, a⟩ := e; obtain ⟨e1, e2, e3, e4, e5⟩ := hE (key, ⟨v, a⟩) (by simp)
  simp only at e1 e2 e3 e4 e5
  have hML : M.length ≤ (M.flatMap ef).length := flat_pos M; have hlen : (((key, (⟨v, a⟩ : TC)) :: M).flatMap ef ++ y).length = (ef (key, ⟨v, a⟩)).length + ((M.flatMap ef).length + y.length) := by
   rw [List.flatMap_cons]; simp only [lA]; omega
  rw [hlen] at hs; have hflat : ((key, (⟨v, a⟩ : TC)) :: M).flatMap ef ++ y = fm (sb key).length ++ (sb key ++ (fm v.length ++ (v ++ (fm a.toNat ++ (M.flatMap ef ++ y))))) := by
   rw [List.flatMap_cons, List.append_assoc, ef_flat]
  have hall : (fm (sb key).length ++ (sb key ++ (fm v.length ++ (v ++ (fm a.toNat ++ (M.flatMap ef ++ y)))))).length < 8000000000 := by
   rw [← hflat, hlen]; omega
  simp only [lA] at hall
  have hks : (sb key).length = key.size := sb_len key; have t1 := Text_fwd (v := sb key) (most := 64) (by omega) (by omega) (by omega) (fm v.length ++ (v ++ (fm a.toNat ++ (M.flatMap ef ++ y)))) (by simp only [lA]; omega) ou; have t2 := Text_fwd (v := v) (most := 256) (by omega) (by omega) (by omega) (fm a.toNat ++ (M.flatMap ef ++ y)) (by simp only [lA]; omega) ou; have t3 := Num_fwd (m := a.toNat) (by omega) (M.flatMap ef ++ y) ou; have ha : ((a.toNat : Nat) : Int) = a := by omega
  rw [ha] at t3; have hmany : ((((key, (⟨v, a⟩ : TC)) :: M).length : Nat) : Int) = (M.length : Int) + 1 := by simp
  obtain ⟨tab', g, m', e, hg, hgo⟩ := row_eq hk hR hP (by omega) hT h17 (kb := sb key) (vb := v) (by omega) e3 (r1 := some ⟨fm v.length ++ (v ++ (fm a.toNat ++ (M.flatMap ef ++ y))), ou, 0⟩) (r2 := some ⟨fm a.toNat ++ (M.flatMap ef ++ y), ou, 0⟩) (r3 := some ⟨M.flatMap ef ++ y, ou, 0⟩) (a := a) (by omega) (by omega) (many := (M.length : Int) + 1) (by omega) (by omega) t3; rw [bs_sb] at e hg hgo; have hord : ∀ x ∈ L, lt x.1 key = true := fun x hx => by
   unfold Ord at ho; rw [List.pairwise_append] at ho; exact ho.2.2 x hx (key, ⟨v, a⟩) (by simp)
  have hlt : lt last key = true := by
   rcases hP.top with ⟨_, q⟩ | ⟨x, hx, q⟩
   ·rw [q]; exact lt_empty e1
   ·rw [← q]; exact hord x hx
  have hnot : a ∉ revs L := by
   unfold revs at hd ⊢; rw [List.map_append, List.nodup_append] at hd; intro q; exact hd.2.2 a q a (by simp) rfl
  have hgt : g = true := hg.2 ⟨hlt, by omega, e5, hnot⟩; subst hgt; obtain ⟨hT', hP'⟩ := hgo rfl; obtain ⟨tab2, e', hT2⟩ := rloop_fwd hk hR h17 ou y M tab' (L ++ [(key, ⟨v, a⟩)]) m' key n (by simp only [lA, List.length_singleton]; have := ef_pos (key, (⟨v, a⟩ : TC)); omega) hT' hP' (by simpa using ho) (by simpa using hd) (fun x hx => hE x (by simp [hx])) (by simp at hn; omega); refine ⟨tab2, ?_, by simpa using hT2⟩; have hstep : tR_.b7 k t17 (some ⟨((key, (⟨v, a⟩ : TC)) :: M).flatMap ef ++ y, ou, 0⟩) ((((key, (⟨v, a⟩ : TC)) :: M).length : Nat) : Int) tab true m last = some (.next (some ⟨M.flatMap ef ++ y, ou, 0⟩, (M.length : Int), tab', true, m', key)) := by
   rw [hflat, hmany]; unfold tR_.b7 tR_.j4; rw [if_pos (by omega), if_pos rfl, be t1, be t2]; rw [show (M.length : Int) + 1 - 1 = (M.length : Int) by omega] at e; exact e
  exact (loop_next (by exact hstep)).trans e'
theorem read_fwd {k : Nat} (hk : Fuel k) {s : St} (hS : Sound s) (y : List Int) (hl : (form s ++ y).length < 4000000000) :
  ∃ t, tR_.f k (form s ++ y) = some (if y = [] then (t, 0) else (none, 130)) ∧ RepS t s := by
 have h24 : 1099511627776 ≤ k := hk; have hR := hS.top; have hflen := form_len s; rw [lA] at hl; have hp : form s ++ y = fm s.2 ++ (fm s.1.length ++ (s.1.flatMap ef ++ y)) := by unfold form; simp only [List.append_assoc]
 have hlen2 : (s.1.flatMap ef ++ y).length ≤ (form s ++ y).length := by rw [hp]; simp only [lA]; omega
 rw [show (form s ++ y).length = (form s).length + y.length from lA] at hlen2; have e0 : parcel_Read.f (form s ++ y) = some (some ⟨fm s.2 ++ (fm s.1.length ++ (s.1.flatMap ef ++ y)), [], 0⟩) := by
  unfold parcel_Read.f; rw [if_pos (by rw [lA]; omega), hp]
 have e1 := Num_fwd (m := s.2) (by omega) (fm s.1.length ++ (s.1.flatMap ef ++ y)) []; have e2 := Num_fwd (m := s.1.length) (by omega) (s.1.flatMap ef ++ y) []; obtain ⟨tab', e3, hT⟩ := rloop_fwd hk hR (t17 := ((s.2 : Int), some ⟨fm s.1.length ++ (s.1.flatMap ef ++ y), [], 0⟩)) rfl [] y s.1 (some ⟨.nil, (s.2 : Int), 0⟩) [] ⟨fun _ => none, 0⟩ { data := #[] } k
  (by simp only [List.length_nil]; omega) ⟨.nil, rfl, trivial, rfl⟩ (Part.empty s.2) (by simpa using hS.inv.ord) (by simpa using hS.dis) hS.inv.ent (by omega)
 rw [List.nil_append] at hT; refine ⟨tab', ?_, TabR.rep hT hS⟩; unfold tR_.f; rw [be e0, be e1]
 simp only
 rw [be e2, be new_eq, oB]; have hwm : IntKind.i64.wrap (min (s.2 : Int) 1099511627776) = (s.2 : Int) := by rw [Int.min_eq_left (by omega), wr (by omega) (by omega)]
 simp only [hwm, dt (show (s.2 : Int) ≤ 1099511627776 by omega)]
 rw [be e3]; unfold tR_.j8
 simp only [if_true]
 rw [be (Done_eq y 0)]
 by_cases hy : y = []
 ·subst hy
  rfl
 ·have hp : 0 < y.length := by
   rcases Nat.eq_zero_or_pos y.length with q | q
   ·exact absurd (List.length_eq_zero_iff.1 q) hy
   ·exact q
  rw [if_neg hy, if_pos rfl, if_pos hp]
  rfl
theorem form_size (s : St) : ((form s).length : Int) = nm s.2 + nm s.1.length + sz s.1 := by
 have h := flat_len s.1; unfold form
 simp only [lA, fm_len]
 omega
theorem revs_ins {a : Int} {k : ByteArray} {c : TC} : ∀ L : List Ent, a ∈ revs (ins k c L) → a = c.rev ∨ a ∈ revs L := by
 intro L h; obtain ⟨e, he, rfl⟩ := List.mem_map.1 h
 rcases mem_ins L he with rfl | q
 ·exact Or.inl rfl
 ·exact Or.inr (List.mem_map.2 ⟨e, q, rfl⟩)
theorem ins_nodup {k : ByteArray} {c : TC} : ∀ L : List Ent, c.rev ∉ revs L → (revs L).Nodup → (revs (ins k c L)).Nodup
 | [], _, _ => by simp [ins, revs]
 | (a, x) :: L, h, hd => by
  have h1 : ¬ c.rev = x.rev := fun e => h (by simp [revs, e]); have h2 : c.rev ∉ revs L := fun e => h (by unfold revs at e ⊢; simp [e]); have hd' : x.rev ∉ revs L ∧ (revs L).Nodup := List.nodup_cons.1 hd
  simp only [ins]
  split
  ·exact List.nodup_cons.2 ⟨h, hd⟩
  ·split
   ·refine List.nodup_cons.2 ⟨fun q => ?_, ins_nodup L h2 hd'.2⟩
    rcases revs_ins L q with e | e
    ·exact h1 e.symm
    ·exact hd'.1 e
   ·exact List.nodup_cons.2 ⟨h2, hd'.2⟩
theorem del_sub (k : ByteArray) : ∀ L : List Ent, (del k L).Sublist L
 | [] => List.Sublist.refl _
 | (a, x) :: L => by
  simp only [del]
  split
  ·exact List.Sublist.refl _
  ·split
   ·exact (del_sub k L).cons_cons _
   ·exact List.sublist_cons_self _ _
theorem del_nodup {k : ByteArray} {L : List Ent} (hd : (revs L).Nodup) : (revs (del k L)).Nodup := ((del_sub k L).map _).nodup hd
def sqf (q : AS) : List Int := if q.Seq = 0 then [] else fm q.Client.toNat ++ (fm q.Seq.toNat ++ ([if q.Answer.Done = true then 1 else 0] ++ (fm q.Answer.Key.length ++ (q.Answer.Key ++ (fm q.Answer.Value.length ++ (q.Answer.Value ++ (fm q.Answer.Rev.toNat ++ fm q.Answer.At.toNat)))))))
structure QI (r : Nat) (j : Nat) (q : AS) : Prop where
 cl : q.Client = (j : Int)
 s1 : 1 ≤ q.Seq
 s2 : q.Seq ≤ 1073741824
 k1 : q.Answer.Key.length ≤ 64
 v1 : q.Answer.Value.length ≤ 256
 r0 : 0 ≤ q.Answer.Rev
 ra : q.Answer.Rev < q.Answer.At
 ar : q.Answer.At ≤ (r : Int)
 kr : q.Answer.Key.length = 0 ↔ q.Answer.Rev = 0
 kv : q.Answer.Key.length = 0 → q.Answer.Value.length = 0
structure QS (r : Nat) (Q : List AS) : Prop where
 len : Q.length = 16
 ok : ∀ j : Nat, j < 16 → rd Q (j : Int) = zeroQ ∨ QI r j (rd Q (j : Int))
def cn (Q : List AS) : Nat := (Q.filter fun q => decide (0 < q.Seq)).length
def LQ (Q : List AS) : List Int := fm (cn Q) ++ Q.flatMap sqf
theorem sqf_len {r j : Nat} {q : AS} (h : q = zeroQ ∨ QI r j q) : (sqf q).length ≤ 400 := by
 unfold sqf
 rcases h with rfl | h
 ·simp
 ·have h1 := h.k1; have h2 := h.v1
  have f1 := nm_le q.Client.toNat; have f2 := nm_le q.Seq.toNat; have f3 := nm_le q.Answer.Key.length; have f4 := nm_le q.Answer.Value.length; have f5 := nm_le q.Answer.Rev.toNat; have f6 := nm_le q.Answer.At.toNat
  split
  ·simp
  ·simp only [lA, fm_len, List.length_cons, List.length_nil]; omega
theorem flat_len' {α : Type} {f : α → List Int} {B : Nat} : ∀ L : List α, (∀ x ∈ L, (f x).length ≤ B) → (L.flatMap f).length ≤ B * L.length
 | [], _ => by simp
 | x :: L, h => by
  have h1 := flat_len' L (fun y hy => h y (by simp [hy])); have h2 := h x (by simp)
  simp only [List.flatMap_cons, lA, List.length_cons, Nat.mul_succ]
  omega
theorem QS.get {r : Nat} {Q : List AS} (h : QS r Q) {j : Nat} (hj : j < 16) : rd Q (j : Int) = Q[j]'(by rw [h.len]; exact hj) := rd_eq _
theorem QS.mem {r : Nat} {Q : List AS} (h : QS r Q) {q : AS} (hq : q ∈ Q) : ∃ j, j < 16 ∧ (q = zeroQ ∨ QI r j q) := by
 obtain ⟨j, hj, rfl⟩ := List.mem_iff_getElem.1 hq; have hl := h.len; have := h.ok j (by omega); rw [h.get (by omega)] at this; exact ⟨j, by omega, this⟩
theorem QS.flat {r : Nat} {Q : List AS} (h : QS r Q) (i : Nat) : ((Q.take i).flatMap sqf).length ≤ 6400 := by
 have hl := h.len; have h1 := flat_len' (f := sqf) (B := 400) (Q.take i) (fun x hx => by
  obtain ⟨j, _, q⟩ := h.mem (List.mem_of_mem_take hx); exact sqf_len q)
 have h2 : (Q.take i).length ≤ 16 := by rw [List.length_take]; omega
 have h3 : 400 * (Q.take i).length ≤ 400 * 16 := Nat.mul_le_mul_left _ h2
 omega
theorem cn_le {Q : List AS} (h : Q.length = 16) : cn Q ≤ 16 := by
 unfold cn; have := List.length_filter_le (fun q : AS => decide (0 < q.Seq)) Q
 omega
theorem LQ_len {r : Nat} {Q : List AS} (h : QS r Q) : (LQ Q).length ≤ 6500 := by
 have h1 := h.flat 16; rw [List.take_of_length_le (by rw [h.len]; exact Nat.le_refl _)] at h1; have h2 := nm_le (cn Q); unfold LQ; rw [lA, fm_len]
 omega
theorem count_eq {k : Nat} (hk : Fuel k) {Q : List AS} (hl : Q.length = 16) : loop (fun (s_ : Int × Int) => Q_lay.b1 Q s_.1 s_.2) k (0, 0) = some (cn Q : Int) := by
 have h24 : 1099511627776 ≤ k := hk; have L := loop_inv (f := fun (s_ : Int × Int) => Q_lay.b1 Q s_.1 s_.2) (I := fun i s => s = ((((Q.take i).filter fun q => decide (0 < q.Seq)).length : Int), (i : Int))) (P := fun x => x = (cn Q : Int)) (N := 16) ?_ ?_ 16 0 (0, 0) k rfl rfl (by omega)
 ·obtain ⟨x, e, rfl⟩ := L
  exact e
 ·rintro i _ hi rfl
  left
  have hlt : ((Q.take i).filter fun q => decide (0 < q.Seq)).length ≤ 16 := Nat.le_trans (List.length_filter_le ..) (by rw [List.length_take]; omega); refine ⟨_, ?_, rfl⟩
  simp only [Q_lay.b1]
  rw [if_pos (by omega), if_pos (by omega), rd_eq (by omega), take_one (by omega), List.filter_append, lA]
  by_cases c : 0 < Q[i].Seq
  ·rw [if_pos c, wrS i (by omega), wrS _ (by omega)]
   simp [c]
  ·rw [if_neg c, wrS i (by omega)]
   simp [c]
 ·rintro _ rfl
  refine ⟨_, ?_, rfl⟩
  simp only [Q_lay.b1]
  rw [if_neg (by omega), List.take_of_length_le (by omega)]
  rfl
theorem lay_eqQ {k : Nat} (hk : Fuel k) {r : Nat} (hr : r < 4194304) {Q : List AS} (h : QS r Q) {room : Int} {b : List Int} (h1 : (b.length + 7000 : Nat) ≤ room) (h2 : room ≤ 1000000000000) : Q_lay.f k Q (W room b) = some (W room (b ++ LQ Q)) := by
 have h24 : 1099511627776 ≤ k := hk; have hl := h.len; have hc := cn_le hl; have n1 := nm_le (cn Q); unfold Q_lay.f; rw [be (count_eq hk hl)]; unfold Q_lay.j2; rw [wru (by omega) (by omega), be (Num_eq hk (by omega) (by rw [fm_len]; omega) h2)]; have L := loop_inv (f := fun (s_ : (Option Wri) × Int) => Q_lay.b5 k Q s_.1 s_.2) (I := fun i s => s = (W room (b ++ fm (cn Q) ++ (Q.take i).flatMap sqf), (i : Int))) (P := fun x => x = W room (b ++ LQ Q)) (N := 16) ?_ ?_ 16 0 (W room (b ++ fm (cn Q)), 0) k (by simp) rfl (by omega)
 ·obtain ⟨x, e, rfl⟩ := L
  rw [be e]
  rfl
 ·rintro i _ hi rfl
  left
  refine ⟨_, ?_, rfl⟩
  simp only [Q_lay.b5]
  have hf := h.flat i; have ht := take_one (xs := Q) (i := i) (by omega); have hq := h.ok i hi; rw [h.get hi] at hq; rw [if_pos (by omega), if_pos (by omega), h.get hi, ht, List.flatMap_append, ← List.append_assoc (b ++ fm (cn Q))]; have hbl : (b ++ fm (cn Q) ++ (Q.take i).flatMap sqf).length ≤ b.length + 6410 := by simp only [lA, fm_len]; omega
  generalize b ++ fm (cn Q) ++ (Q.take i).flatMap sqf = B at hbl ⊢
  generalize hqe : Q[i] = q at hq
  rcases hq with rfl | hq
  ·rw [if_pos rfl, wrS i (by omega)]
   simp [sqf]
  ·have g1 := hq.cl; have g2 := hq.s1; have g3 := hq.s2; have g4 := hq.k1; have g5 := hq.v1; have g6 := hq.r0; have g7 := hq.ra; have g8 := hq.ar
   have f1 := nm_le q.Client.toNat; have f2 := nm_le q.Seq.toNat; have f3 := nm_le q.Answer.Key.length; have f4 := nm_le q.Answer.Value.length; have f5 := nm_le q.Answer.Rev.toNat; have f6 := nm_le q.Answer.At.toNat; have c1 : q.Client = ((q.Client.toNat : Nat) : Int) := by omega
   have c2 : q.Seq = ((q.Seq.toNat : Nat) : Int) := by omega
   have c5 : q.Answer.Rev = ((q.Answer.Rev.toNat : Nat) : Int) := by omega
   have c6 : q.Answer.At = ((q.Answer.At.toNat : Nat) : Int) := by omega
   have w1 : IntKind.u64.wrap q.Client = ((q.Client.toNat : Nat) : Int) := by rw [wru (by omega) (by omega)]; exact c1
   have w2 : IntKind.u64.wrap q.Seq = ((q.Seq.toNat : Nat) : Int) := by rw [wru (by omega) (by omega)]; exact c2
   have w5 : IntKind.u64.wrap q.Answer.Rev = ((q.Answer.Rev.toNat : Nat) : Int) := by rw [wru (by omega) (by omega)]; exact c5
   have w6 : IntKind.u64.wrap q.Answer.At = ((q.Answer.At.toNat : Nat) : Int) := by rw [wru (by omega) (by omega)]; exact c6
   have hj : ∀ (d : Int) (B' : List Int), B'.length ≤ b.length + 6440 → Q_lay.j4 k Q (i : Int) (W room B') = some (.next (W room (B' ++ (fm q.Answer.Key.length ++ (q.Answer.Key ++ (fm q.Answer.Value.length ++ (q.Answer.Value ++ (fm q.Answer.Rev.toNat ++ fm q.Answer.At.toNat)))))), ((i + 1 : Nat) : Int))) := by
    intro d B' hB'
    simp only [Q_lay.j4]
    rw [h.get hi, hqe, be (Text_eq hk (by rw [fm_len]; omega) h2), be (Text_eq hk (by simp only [lA, fm_len]; omega) h2), w5, be (Num_eq hk (by omega) (by simp only [lA, fm_len]; omega) h2), w6, be (Num_eq hk (by omega) (by simp only [lA, fm_len]; omega) h2), wrS i (by omega)]
    simp only [List.append_assoc]
   have hby : ∀ (x : Int) (B' : List Int), 0 ≤ x ∧ x ≤ 1 → B'.length ≤ b.length + 6430 → W_Byte.f (W room B') x = some (W room (B' ++ [x])) := by
    intro x B' hx hB'; unfold W_Byte.f W_Byte.j1; have ex : IntKind.u8.wrap x = x := by
     rcases (show x = 0 ∨ x = 1 by omega) with rfl | rfl <;> decide
    rw [if_neg (by omega), dz (by omega), if_neg (by simp), ex, be (lay_eq (by simp only [List.length_cons, List.length_nil]; omega) h2)]
   rw [if_neg (by omega), w1, be (Num_eq hk (by omega) (by rw [fm_len]; omega) h2), w2, be (Num_eq hk (by omega) (by simp only [lA, fm_len]; omega) h2)]; have hB2 : (B ++ fm q.Client.toNat ++ fm q.Seq.toNat).length ≤ b.length + 6430 := by simp only [lA, fm_len]; omega
   have e0 : sqf q = fm q.Client.toNat ++ (fm q.Seq.toNat ++ ([if q.Answer.Done = true then 1 else 0] ++ (fm q.Answer.Key.length ++ (q.Answer.Key ++ (fm q.Answer.Value.length ++ (q.Answer.Value ++ (fm q.Answer.Rev.toNat ++ fm q.Answer.At.toNat))))))) := by
    unfold sqf; rw [if_neg (by omega)]
   by_cases cd : q.Answer.Done = true
   ·rw [if_pos cd, be (hby 1 _ (by omega) hB2), hj 0 _ (by rw [lA]; simp only [List.length_cons, List.length_nil]; omega)]
    simp [e0, cd]
   ·rw [if_neg cd, be (hby 0 _ (by omega) hB2), hj 0 _ (by rw [lA]; simp only [List.length_cons, List.length_nil]; omega)]
    simp [e0, cd]
 ·rintro _ rfl
  refine ⟨_, ?_, rfl⟩
  simp only [Q_lay.b5]
  rw [if_neg (by omega), List.take_of_length_le (by omega), List.append_assoc]
  rfl
def EX (st : St) (Q : List AS) : List Int := fm (form st).length ++ (form st ++ LQ Q)
theorem EX_len (st : St) (Q : List AS) : (EX st Q).length = nm (form st).length + (form st).length + (LQ Q).length := by
 unfold EX; rw [lA, lA, fm_len]; omega
theorem Export_eq {k : Nat} (hk : Fuel k) {T : Option Tab} {Q : List AS} {st : St} (hr : st.2 < 4194304) (hS : SI T Q st) (hQ : QS st.2 Q) (hz : (form st).length ≤ 300000) : S_Export.f k (some ⟨T, Q⟩) = some (EX st Q) := by
 have n1 := nm_le (form st).length; have hl := LQ_len hQ; unfold S_Export.f; rw [if_neg (by simp), be (show parcel_New.f 1048576 = some (W 1048576 []) from rfl), oB, be (bytes_eq hk hr hS.rep), be (Text_eq hk (by simp only [List.length_nil, fm_len]; omega) (by omega)),
  be (lay_eqQ hk hr hQ (by simp only [lA, List.length_nil, fm_len]; omega) (by omega)), be (done_eq (by simp only [lA, List.length_nil, fm_len]; omega))]
 simp [EX]
theorem Size_eq {k : Nat} (hk : Fuel k) {T : Option Tab} {Q : List AS} {st : St} (hr : st.2 < 4194304) (hS : SI T Q st) (hQ : QS st.2 Q) : S_Size.f k (some ⟨T, Q⟩) = some ((EX st Q).length : Int) := by
 have hl := LQ_len hQ; have hfs := form_size st; have hsz := sz_le hS.rep.inv.ent; have hlen := hS.rep.inv.len; have m1 := nm_le st.2; have m2 := nm_le st.1.length; have m3 := nm_le (form st).length; have eb : Q_bytes.f k Q = some (LQ Q) := by
  unfold Q_bytes.f; rw [be (show parcel_New.f 1048576 = some (W 1048576 []) from rfl), be (lay_eqQ hk hr hQ (by simp) (by omega)), be (done_eq (by simp only [lA, List.length_nil]; omega))]
  rfl
 unfold S_Size.f; rw [if_neg (by simp), oB, be (size_eq hk hr hS.rep), ← hfs, be (numSize_eq hk (by omega)), be eb, EX_len]; rw [wr (n := (nm (form st).length : Int) + _) (by omega) (by omega), wr (by omega) (by omega)]
 congr 1
theorem number_fwd {m : Nat} (hm : m ≤ 1000000000000) (rest : List Int) (ou : List (List Int)) : shard_number.f (some ⟨fm m ++ rest, ou, 0⟩) = some ((m : Int), some ⟨rest, ou, 0⟩) := by
 unfold shard_number.f; rw [be (Num_fwd (by omega) rest ou), if_neg (by simp only; omega), wr (by simp only; omega) (by simp only; omega)]
theorem Byte_fwd {c : Int} (hc : 0 ≤ c ∧ c ≤ 255) (rest : List Int) (ou : List (List Int)) : R_Byte.f (some ⟨c :: rest, ou, 0⟩) = some (c, some ⟨rest, ou, 0⟩) := by
 unfold R_Byte.f rbyte rtake
 simp only [if_true]
 rw [wr (by omega) (by omega)]
theorem readSeat_fwd {r j : Nat} (hj : j < 16) (hr : r < 4194304) {q : AS} (hq : QI r j q) (rest : List Int) (hl : rest.length ≤ 1000000000) : rS_.f (some ⟨sqf q ++ rest, [], 0⟩) (r : Int) = some (q, true, some ⟨rest, [], 0⟩) := by
 have g1 := hq.cl; have g2 := hq.s1; have g3 := hq.s2; have g4 := hq.k1; have g5 := hq.v1; have g6 := hq.r0; have g7 := hq.ra; have g8 := hq.ar; have g9 := hq.kr; have g10 := hq.kv; have f4 := nm_le q.Answer.Value.length; have f5 := nm_le q.Answer.Rev.toNat; have f6 := nm_le q.Answer.At.toNat; obtain ⟨Cl, Sq, ⟨Dn, Ky, Vl, Rv, Att⟩⟩ := q
 simp only at g1 g2 g3 g4 g5 g6 g7 g8 g9 g10 f4 f5 f6
 obtain ⟨c, rfl⟩ : ∃ c : Nat, Cl = (c : Int) := ⟨Cl.toNat, by omega⟩; obtain ⟨s, rfl⟩ : ∃ c : Nat, Sq = (c : Int) := ⟨Sq.toNat, by omega⟩; obtain ⟨v, rfl⟩ : ∃ c : Nat, Rv = (c : Int) := ⟨Rv.toNat, by omega⟩; obtain ⟨a, rfl⟩ : ∃ c : Nat, Att = (c : Int) := ⟨Att.toNat, by omega⟩
 simp only [Int.toNat_natCast] at f5 f6
 have e0 : ∀ rest, sqf ⟨(c : Int), (s : Int), ⟨Dn, Ky, Vl, (v : Int), (a : Int)⟩⟩ ++ rest = fm c ++ (fm s ++ ((if Dn = true then (1 : Int) else 0) :: (fm Ky.length ++ (Ky ++ (fm Vl.length ++ (Vl ++ (fm v ++ (fm a ++ rest)))))))) := by
  intro rest; unfold sqf; rw [if_neg (by simp only; omega)]
  simp only [Int.toNat_natCast, List.append_assoc, List.singleton_append, List.cons_append, List.nil_append]
 have hd : (0 : Int) ≤ (if Dn = true then (1 : Int) else 0) ∧ (if Dn = true then (1 : Int) else 0) ≤ 255 := by split <;> omega
 unfold rS_.f; rw [e0, be (number_fwd (by omega) _ _), be (number_fwd (by omega) _ _), be (Byte_fwd hd _ _),
  be (Text_fwd (by omega) (by omega) (by omega) _ (by simp only [lA, fm_len]; omega) _), be (Text_fwd (by omega) (by omega) (by omega) _ (by simp only [lA, fm_len]; omega) _),
  be (number_fwd (by omega) _ _), be (number_fwd (by omega) _ _)]
 have ed : decide ((if Dn = true then (1 : Int) else 0) = 1) = Dn := by cases Dn <;> rfl
 simp only
 rw [if_neg (by omega), if_neg (by omega), if_neg (by omega), if_neg (by omega), dz (by split <;> omega)]; unfold rS_.j1
 simp only
 rw [if_neg (by simp), if_neg (by omega), if_neg (by omega), if_neg (by omega), if_neg (by omega)]; have eb : (decide ((Ky.length : Int) = 0) == decide ((v : Int) = 0)) = true := by
  by_cases z : Ky.length = 0
  ·rw [dt (by omega), dt (by omega)]; rfl
  ·rw [dz (by omega), dz (by omega)]; rfl
 rw [if_pos eb]; unfold rS_.j2
 by_cases z : Ky.length = 0
 ·rw [if_pos (by omega), dz (by omega), if_neg (by simp)]
  simp only [ed]
 ·rw [if_neg (by omega), if_neg (by simp)]
  simp only [ed]
def met (o : MpV Bool) (L : List Int) : Prop := ∀ a, (o.f a).getD false = true → a ∈ L
theorem import_loop {k0 r : Nat} (hr : r < 4194304) {t32 : (Option Tab) × Int} {t55 : Int × Option Rdr} (hv : T_Rev.f t32.1 = some (r : Int)) {Q : List AS} (hQ : QS r Q) (hn : t55.1 = (cn Q : Int)) (hd : ((Q.filter fun q => decide (0 < q.Seq)).map fun q => q.Answer.At).Nodup) :
  ∀ (n j m : Nat) (last i : Int) (o : MpV Bool), j + n = 16 → n < m → last < (j : Int) → met o (((Q.take j).filter fun q => decide (0 < q.Seq)).map fun q => q.Answer.At) → o.n ≤ j → i = ((((Q.take j).filter fun q => decide (0 < q.Seq)).length : Nat) : Int) →
  loop (fun (s_ : (Option Rdr) × Int × (MpV Bool) × Int × (List AS)) => I_.b3 t32 t55 s_.1 s_.2.1 s_.2.2.1 s_.2.2.2.1 s_.2.2.2.2) m (some ⟨(Q.drop j).flatMap sqf, [], 0⟩, last, o, i, Q.take j ++ List.replicate (16 - j) zeroQ) = some (.inl (some ⟨[], [], 0⟩, Q))
 | _, _, 0, _, _, _, _, h, _, _, _, _ => absurd h (by omega)
 | 0, j, m + 1, last, i, o, hj, _, _, _, _, hi => by
  have hl := hQ.len; obtain rfl : j = 16 := by omega
  rw [List.take_of_length_le (by omega)] at hi; refine loop_done ?_
  simp only [I_.b3]
  rw [if_neg (by rw [hn, hi]; exact Int.lt_irrefl _), List.drop_of_length_le (by omega), List.take_of_length_le (by omega)]
  simp
 | n + 1, j, m + 1, last, i, o, hj, hm, hlast, hmet, hon, hi => by
  have hl := hQ.len; have hj16 : j < 16 := by omega
  have ht := take_one (xs := Q) (i := j) (by omega); have hdr : Q.drop j = Q[j] :: Q.drop (j + 1) := List.drop_eq_getElem_cons (by omega); have hrep : List.replicate (16 - j) zeroQ = zeroQ :: List.replicate (16 - (j + 1)) zeroQ := by rw [show 16 - j = (16 - (j + 1)) + 1 by omega]; rfl
  have hq := hQ.ok j hj16; rw [hQ.get hj16] at hq; have hlen16 : (Q.take j).length = j := by rw [List.length_take]; omega
  rcases hq with hz | hq
  ·have e1 : (Q.drop j).flatMap sqf = (Q.drop (j + 1)).flatMap sqf := by rw [hdr, List.flatMap_cons, hz]; simp [sqf]
   have e2 : Q.take j ++ List.replicate (16 - j) zeroQ = Q.take (j + 1) ++ List.replicate (16 - (j + 1)) zeroQ := by rw [ht, hrep, hz, List.append_assoc]; rfl
   have e3 : (Q.take (j + 1)).filter (fun q => decide (0 < q.Seq)) = (Q.take j).filter fun q => decide (0 < q.Seq) := by rw [ht, List.filter_append, hz]; simp
   rw [e1, e2]; exact import_loop (k0 := k0) hr hv hQ hn hd n (j + 1) (m + 1) last i o (by omega) (by omega) (by omega) (by rw [e3]; exact hmet) (by omega) (by rw [e3]; exact hi)
  ·have g1 := hq.cl; have g2 := hq.s1; have g7 := hq.ra; have g6 := hq.r0; have g8 := hq.ar
   have e1 : (Q.drop j).flatMap sqf = sqf Q[j] ++ (Q.drop (j + 1)).flatMap sqf := by rw [hdr, List.flatMap_cons]
   have e3 : (Q.take (j + 1)).filter (fun q => decide (0 < q.Seq)) = ((Q.take j).filter fun q => decide (0 < q.Seq)) ++ [Q[j]] := by
    rw [ht, List.filter_append]
    congr 1
    simp; omega
   have hsub : ((Q.take (j + 1)).filter fun q => decide (0 < q.Seq)).Sublist (Q.filter fun q => decide (0 < q.Seq)) := (List.take_sublist _ _).filter _; have hnd := (hsub.map (fun q => q.Answer.At)).nodup hd; rw [e3, List.map_append, List.nodup_append] at hnd; have hnew : ¬ (o.f Q[j].Answer.At).getD false = true := fun q => (hnd.2.2 _ (hmet _ q) _ (by simp)) rfl; have hcnt : ((Q.take j).filter fun q => decide (0 < q.Seq)).length < cn Q := by
    have := hsub.length_le; rw [e3, lA] at this; exact this
   have hcn := cn_le hl; have hlr : ((Q.drop (j + 1)).flatMap sqf).length ≤ 1000000000 := by
    have h1 := flat_len' (f := sqf) (B := 400) (Q.drop (j + 1)) (fun x hx => by
     obtain ⟨j', _, q⟩ := hQ.mem (List.mem_of_mem_drop hx); exact sqf_len q)
    have h2 : (Q.drop (j + 1)).length ≤ 16 := by rw [List.length_drop]; omega
    have h3 : 400 * (Q.drop (j + 1)).length ≤ 400 * 16 := Nat.mul_le_mul_left _ h2
    omega
   have hwf : (Lit.int .i64 Q[j].Answer.At).wf = true := by simp [Lit.wf, IntKind.min, IntKind.max, IntKind.signed, IntKind.bits]; omega
   have eset : (Q.take j ++ List.replicate (16 - j) zeroQ).set Q[j].Client.toNat Q[j] = Q.take (j + 1) ++ List.replicate (16 - (j + 1)) zeroQ := by
    rw [show Q[j].Client.toNat = j by omega, hrep, List.set_append_right _ _ (by omega), hlen16, Nat.sub_self, List.set_cons_zero, ht, List.append_assoc]
    rfl
   rw [loop_next (s' := (some ⟨(Q.drop (j + 1)).flatMap sqf, [], 0⟩, Q[j].Client, MpV.mk (fun i_ => if i_ = Q[j].Answer.At then some true else o.f i_) (o.n + 1), i + 1, Q.take (j + 1) ++ List.replicate (16 - (j + 1)) zeroQ))]
   ·exact import_loop (k0 := k0) hr hv hQ hn hd n (j + 1) m Q[j].Client (i + 1) _ (by omega) (by omega) (by omega) (by
     intro a ha; rw [e3, List.map_append]
     simp only at ha
     by_cases c : a = Q[j].Answer.At
     ·exact List.mem_append_right _ (by simp [c])
     ·rw [if_neg c] at ha
      exact List.mem_append_left _ (hmet a ha)) (by simp only; omega) (by rw [e3, lA, hi]; simp)
   ·simp only [I_.b3]
    rw [if_pos (by rw [hn, hi]; omega), be hv, e1, be (readSeat_fwd hj16 hr hq _ hlr)]
    simp only
    rw [if_pos trivial, if_neg (by omega), if_pos hwf, show (o.f Q[j].Answer.At).getD false = false by simpa using hnew]; unfold I_.j2
    simp only
    rw [if_neg (by simp), if_pos ⟨hwf, by omega⟩, if_pos (by omega), eset, wru (by omega) (by omega)]
theorem Import_fwd {k : Nat} (hk : Fuel k) {Q : List AS} {st : St} (hr : st.2 < 4194304) (hG : Sound st) (hQ : QS st.2 Q) (hd : ((Q.filter fun q => decide (0 < q.Seq)).map fun q => q.Answer.At).Nodup) (hz : (EX st Q).length ≤ 262144) :
  ∃ T, I_.f k (EX st Q) = some (some ⟨T, Q⟩, 0) ∧ RepS T st := by
 have h24 : 1099511627776 ≤ k := hk; have hel := EX_len st Q; have hcn := cn_le hQ.len; obtain ⟨T, eT, RT⟩ := read_fwd hk hG [] (by rw [List.append_nil]; omega); rw [List.append_nil, if_pos rfl] at eT; refine ⟨T, ?_, RT⟩; unfold I_.f; rw [if_neg (by omega), be (show parcel_Read.f (EX st Q) = some (some ⟨EX st Q, [], 0⟩) by unfold parcel_Read.f; rw [if_pos (by omega)])]; rw [show EX st Q = fm (form st).length ++ (form st ++ LQ Q) from rfl, be (Text_fwd (by omega) (by omega) (by omega) (LQ Q) (by rw [lA]; omega) []), be eT]
 simp only
 rw [if_pos trivial, show LQ Q = fm (cn Q) ++ Q.flatMap sqf from rfl, be (Num_fwd (by omega) _ _)]
 simp only
 rw [if_neg (by omega)]; have L := import_loop (k0 := k) hr (t32 := (T, 0)) (t55 := ((cn Q : Int), some ⟨Q.flatMap sqf, [], 0⟩)) (Rev_eq RT) hQ rfl hd 16 0 k (-1) 0 ⟨fun _ => none, 0⟩ rfl (by omega) (by omega) (by intro a ha; simp at ha) (Nat.le_refl _) rfl
 simp only [List.drop_zero, List.take_zero, List.nil_append, Nat.sub_zero] at L
 have e0 : (List.replicate 16 zeroQ) = List.replicate 16 (AS.mk 0 0 (AA.mk false [] [] 0 0)) := rfl; rw [e0] at L; rw [be L]
 rfl
structure GI (T : Option Tab) (Q : List AS) (st : St) : Prop where
 si : SI T Q st
 qs : QS st.2 Q
 nd : ∀ i j : Nat, i < 16 → j < 16 → i ≠ j → 0 < (rd Q (i : Int)).Seq → 0 < (rd Q (j : Int)).Seq → (rd Q (i : Int)).Answer.At ≠ (rd Q (j : Int)).Answer.At
 dis : (revs st.1).Nodup
 ex : (EX st Q).length ≤ 262144
theorem GI.ats {T : Option Tab} {Q : List AS} {st : St} (h : GI T Q st) : ((Q.filter fun q => decide (0 < q.Seq)).map fun q => q.Answer.At).Nodup := by
 have hl := h.si.len; unfold List.Nodup; rw [List.pairwise_map, List.pairwise_filter, List.pairwise_iff_getElem]; intro i j hi hj hij h1 h2; have := h.nd i j (by omega) (by omega) (by omega); rw [rd_eq hi, rd_eq hj] at this; exact this (by simpa using h1) (by simpa using h2)
theorem GI.form {T : Option Tab} {Q : List AS} {st : St} (h : GI T Q st) : (form st).length ≤ 262144 := by
 have h1 := EX_len st Q; have h2 := h.ex
 omega
theorem GI.zero {t : Option Tab} (h : SI t Q0 ([], 0)) : GI t Q0 ([], 0) :=
 ⟨h, ⟨h.len, fun j hj => .inl (rd_Q0 hj)⟩, fun i j hi _ _ h1 => absurd h1 (by rw [rd_Q0 hi]; simp), List.nodup_nil, by decide⟩
theorem told_shape {L : List Ent} {r : Nat} (hI : Inv L r) {k : ByteArray} (h1 : 1 ≤ k.size) (h2 : k.size ≤ 64) (x : Int) : (told x k (look k L)).Key.length ≤ 64 ∧ (told x k (look k L)).Value.length ≤ 256 ∧ 0 ≤ (told x k (look k L)).Rev ∧ (told x k (look k L)).Rev ≤ (r : Int) ∧ ((told x k (look k L)).Key.length = 0 ↔ (told x k (look k L)).Rev = 0) ∧ ((told x k (look k L)).Key.length = 0 → (told x k (look k L)).Value.length = 0) := by
 cases h : look k L with
 | none => simp [told]
 | some c =>
  have q := hI.look h
  simp only [told, sb_len]
  refine ⟨h2, q.2.2.1, by omega, q.2.2.2.2, ⟨fun z => by omega, fun z => by omega⟩, fun z => by omega⟩
theorem act_shape {L : List Ent} {r : Nat} {o : AO} (hI : Inv L r) (R : right o = true) (K : ¬ (o.Kind = 1 ∨ o.Kind = 5)) : (act L r o).1.Key.length ≤ 64 ∧ (act L r o).1.Value.length ≤ 256 ∧ 0 ≤ (act L r o).1.Rev ∧ (act L r o).1.Rev ≤ (r : Int) ∧ ((act L r o).1.Key.length = 0 ↔ (act L r o).1.Rev = 0) ∧ ((act L r o).1.Key.length = 0 → (act L r o).1.Value.length = 0) := by
 have hk := (right_key R).2.2.1 (fun q => K (.inr q)); have h := told_shape hI (k := bs o.Key) (by rw [bs_size]; omega) (by rw [bs_size]; omega) ((r : Int) + 1); unfold act; rw [if_neg (by simp [R]), if_neg (by omega), if_neg (by omega)]
 split
 ·exact h
 ·split
  ·exact h
  ·exact h
theorem act_at {L : List Ent} {r : Nat} {o : AO} (R : right o = true) (K : ¬ (o.Kind = 1 ∨ o.Kind = 5)) : (act L r o).1.At = (r : Int) + 1 ∧ (act L r o).2.2.2 = r + 1 := by
 have t : ∀ (r : Int) (k : ByteArray) (o : Option TC), (told r k o).At = r := fun r k o => by cases o <;> rfl
 unfold act; rw [if_neg (by simp [R]), if_neg (by omega), if_neg (by omega)]
 split
 ·exact ⟨t .., rfl⟩
 ·split
  ·exact ⟨t .., rfl⟩
  ·exact ⟨t .., rfl⟩
theorem dis_step {st : St} (hI : Inv st.1 st.2) (hd : (revs st.1).Nodup) (o : AO) : (revs (stepS st o).1).Nodup := by
 have hf : ((st.2 : Int) + 1) ∉ revs st.1 := by
  intro q; obtain ⟨e, he, e2⟩ := List.mem_map.1 q; have := hI.ent e he
  omega
 unfold stepS act
 repeat' split
 all_goals first
  | exact hd
  | exact del_nodup hd
  | exact ins_nodup _ hf hd
theorem rd_set {α : Type} [Inhabited α] {Q : List α} (hl : Q.length = 16) {c : Nat} {x : α} {j : Nat} (hj : j < 16) : rd (Q.set c x) (j : Int) = if c = j then x else rd Q (j : Int) := by
 rw [rd_eq (by rw [List.length_set]; omega), List.getElem_set]
 split
 ·rfl
 ·rw [rd_eq (by omega)]
theorem qs_step {T : Option Tab} {Q : List AS} {st : St} (h : GI T Q st) {c n : Int} (v : Vd c n) {o : AO} (R : right o = true) (K : ¬ (o.Kind = 1 ∨ o.Kind = 5)) : QS (stepS st o).2 (Q.set c.toNat ⟨c, n, (act st.1 st.2 o).1⟩) := by
 have hl := h.si.len; have hs2 : (stepS st o).2 = st.2 + 1 := (act_at (L := st.1) (r := st.2) R K).2; have hat := (act_at (L := st.1) (r := st.2) R K).1; obtain ⟨s1, s2, s3, s4, s5, s6⟩ := act_shape (o := o) h.si.rep.inv R K; obtain ⟨v1, v2, v3, v4⟩ := v; refine ⟨by rw [List.length_set]; exact hl, fun j hj => ?_⟩; rw [rd_set hl hj]
 by_cases q : c.toNat = j
 ·rw [if_pos q]
  exact .inr ⟨by simp only; omega, v3, v4, s1, s2, s3, by simp only; omega, by simp only; omega, s5, s6⟩
 ·rw [if_neg q]
  rcases h.qs.ok j hj with g | g
  ·exact .inl g
  ·exact .inr ⟨g.cl, g.s1, g.s2, g.k1, g.v1, g.r0, g.ra, by have := g.ar; omega, g.kr, g.kv⟩
theorem gi_step {T T' : Option Tab} {Q : List AS} {st : St} (h : GI T Q st) {c n : Int} (v : Vd c n) {o : AO} (R : right o = true) (K : ¬ (o.Kind = 1 ∨ o.Kind = 5)) (hS : SI T' (Q.set c.toNat ⟨c, n, (act st.1 st.2 o).1⟩) (stepS st o)) (hx : (EX (stepS st o) (Q.set c.toNat ⟨c, n, (act st.1 st.2 o).1⟩)).length ≤ 262144) : GI T' (Q.set c.toNat ⟨c, n, (act st.1 st.2 o).1⟩) (stepS st o) := by
 have hl := h.si.len; have hat := (act_at (L := st.1) (r := st.2) R K).1; have old : ∀ j : Nat, j < 16 → 0 < (rd Q (j : Int)).Seq → (rd Q (j : Int)).Answer.At ≤ (st.2 : Int) := fun j hj hp => by
  rcases h.qs.ok j hj with g | g
  ·rw [g] at hp; simp at hp
  ·exact g.ar
 refine ⟨hS, qs_step h v R K, fun i j hi hj hij h1 h2 => ?_, dis_step h.si.rep.inv h.dis o, hx⟩; rw [rd_set hl hi] at h1 ⊢; rw [rd_set hl hj] at h2 ⊢
 by_cases qi : c.toNat = i
 ·rw [if_pos qi]
  rw [if_neg (by omega)] at h2 ⊢; have := old j hj h2
  simp only; omega
 ·rw [if_neg qi] at h1 ⊢
  by_cases qj : c.toNat = j
  ·rw [if_pos qj]
   have := old i hi h1
   simp only; omega
  ·rw [if_neg qj] at h2 ⊢
   exact h.nd i j hi hj hij h1 h2
theorem both {k : Nat} (hk : Fuel k) {T1 T2 : Option Tab} {Q : List AS} {st : St} (hr : st.2 ≤ 4000000) (G : GI T1 Q st) (S2 : SI T2 Q st) (c n : Int) (o : AO) :
  (∃ e, e ≠ 0 ∧ S_next.f k (some ⟨T1, Q⟩) c n o = some (some none, zeroA, false, e) ∧ S_next.f k (some ⟨T2, Q⟩) c n o = some (some none, zeroA, false, e)) ∨
  (∃ a : AA, a.Key.length ≤ 1000 ∧ a.Value.length ≤ 1000 ∧ S_next.f k (some ⟨T1, Q⟩) c n o = some (none, a, false, 0) ∧ S_next.f k (some ⟨T2, Q⟩) c n o = some (none, a, false, 0)) ∨
  (∃ a : AA, a.Key.length ≤ 1000 ∧ a.Value.length ≤ 1000 ∧ ∃ T1' T2' Q', S_next.f k (some ⟨T1, Q⟩) c n o = some (some (some ⟨T1', Q'⟩), a, true, 0) ∧ S_next.f k (some ⟨T2, Q⟩) c n o = some (some (some ⟨T2', Q'⟩), a, true, 0) ∧ GI T1' Q' (stepS st o) ∧ SI T2' Q' (stepS st o)) := by
 have hsr := step_r st o; obtain ⟨n1, n2, n3, n4, n5, n6⟩ := sh_next hk (by omega) G.si c n o (by omega); obtain ⟨m1, m2, m3, m4, m5, m6⟩ := sh_next hk (by omega) S2 c n o (by omega)
 by_cases v : Vd c n
 ·by_cases R : right o = true
  ·by_cases c1 : n < (rd Q c).Seq
   ·exact .inl ⟨141, by decide, n3 v R c1, m3 v R c1⟩
   ·by_cases c2 : (rd Q c).Seq = n
    ·have := G.si.mem (c := c) ⟨v.1, v.2.1⟩
     exact .inr (.inl ⟨_, this.key, this.val, n4 v R c2, m4 v R c2⟩)
    ·have c3 : (rd Q c).Seq < n := by omega
     have hsh := act_short (o := o) G.si.rep.inv
     by_cases K : o.Kind = 1 ∨ o.Kind = 5
     ·exact .inr (.inl ⟨_, by omega, by omega, n5 v R c3 K, m5 v R c3 K⟩)
     ·obtain ⟨T1', h1, z1, e1, _, _, x1⟩ := n6 v R c3 K
      obtain ⟨T2', h2, z2, e2, _, _, x2⟩ := m6 v R c3 K; have q := qs_step G v R K; have y1 := Option.some.inj (e1.symm.trans (Size_eq hk (by omega) h1 q)); have y2 := Option.some.inj (e2.symm.trans (Size_eq hk (by omega) h2 q))
      by_cases big : 262144 < z1
      ·rw [if_pos big] at x1
       rw [if_pos (by omega)] at x2; exact .inl ⟨142, by decide, x1, x2⟩
      ·rw [if_neg big] at x1
       rw [if_neg (by omega)] at x2; exact .inr (.inr ⟨_, by omega, by omega, T1', T2', _, x1, x2, gi_step G v R K h1 (by omega), h2⟩)
  ·have R' : right o = false := by simpa using R
   exact .inl ⟨131, by decide, n2 v R', m2 v R'⟩
 ·exact .inl ⟨2, by decide, n1 v, m1 v⟩
section
variable {k : Nat} {s : Sha} {c n : Int} {o : AO} {a : AA} {ch : Bool} {e : Int}
theorem after_none (h : S_next.f k (some s) c n o = some (some none, a, ch, e)) : S_After.f k (some s) c n o = some (0, e) := by
 unfold S_After.f; rw [be h]
 rfl
theorem after_self {z : Int} (h : S_next.f k (some s) c n o = some (none, a, ch, e)) (hz : S_Size.f k (some s) = some z) : S_After.f k (some s) c n o = some (z, e) := by
 unfold S_After.f; rw [be h]
 show (S_Size.f k (some s)).bind _ = _
 rw [be hz]
theorem after_new {s' : Sha} {z : Int} (h : S_next.f k (some s) c n o = some (some (some s'), a, ch, e)) (hz : S_Size.f k (some s') = some z) : S_After.f k (some s) c n o = some (z, e) := by
 unfold S_After.f; rw [be h]
 show (S_Size.f k (some s')).bind _ = _
 rw [be hz]
end
theorem made_gi {k : Nat} (hk : Fuel k) (ops : List L_Step) (hn : ops.length < 2000000) : ∃ T Q st, L_made.f k ops = some (some ⟨T, Q⟩) ∧ GI T Q st ∧ st.2 ≤ ops.length := by
 have h24 : 1099511627776 ≤ k := hk; obtain ⟨t, eT, eN, S0⟩ := new_si; unfold L_made.f; rw [be eN]; have L := loop_inv (f := fun (s_ : (Option Sha) × Int) => L_made.b1 k ops s_.1 s_.2)
  (I := fun i s => ∃ T Q st, s = (some ⟨T, Q⟩, (i : Int)) ∧ GI T Q st ∧ st.2 ≤ i)
  (P := fun x => ∃ T Q st, x = some ⟨T, Q⟩ ∧ GI T Q st ∧ st.2 ≤ ops.length) (N := ops.length) ?_ ?_ ops.length 0 (some ⟨t, Q0⟩, 0) k ⟨t, Q0, ([], 0), rfl, GI.zero S0, Nat.le_refl _⟩ (by omega) (by omega)
 ·obtain ⟨x, ex, T, Q, st, rfl, G, hst⟩ := L
  exact ⟨T, Q, st, by rw [be ex]; rfl, G, hst⟩
 ·rintro i _ hi ⟨T, Q, st, rfl, G, hst⟩
  left
  have hsr := step_r st (rd ops (i : Int)).Op
  simp only [L_made.b1]
  rw [if_pos (by omega), if_pos (by omega), wrS i (by omega)]
  rcases both hk (by omega) G G.si (rd ops (i : Int)).Client (rd ops (i : Int)).Seq (rd ops (i : Int)).Op with ⟨e, he, h, _⟩ | ⟨a, _, _, h, _⟩ | ⟨a, _, _, T1', _, Q', h, _, G', _⟩
  ·rw [be (do_none h he)]; exact ⟨_, rfl, T, Q, st, rfl, G, by omega⟩
  ·rw [be (do_self h)]; exact ⟨_, rfl, T, Q, st, rfl, G, by omega⟩
  ·rw [be (do_new h)]; exact ⟨_, rfl, T1', Q', _, rfl, G', by omega⟩
 ·rintro _ ⟨T, Q, st, rfl, G, hst⟩
  refine ⟨_, ?_, T, Q, st, rfl, G, hst⟩
  simp only [L_made.b1]
  rw [if_neg (by omega)]
theorem rep_inj {T : Option Tab} {s s' : St} (h : RepS T s) (h' : RepS T s') : s = s' := by
 obtain ⟨rows, e, _, hl, _⟩ := h; obtain ⟨rows', e', _, hl', _⟩ := h'; rw [e] at e'
 injection e' with e'
 injection e' with e1 e2 e3
 obtain ⟨L, r⟩ := s; obtain ⟨L', r'⟩ := s'
 simp only at hl hl' e2
 subst e1; rw [← hl, ← hl']
 congr 1
 omega
theorem sameSeat_refl {k : Nat} (hk : Fuel k) {q : AS} (h1 : q.Answer.Key.length < 4000000000) (h2 : q.Answer.Value.length < 4000000000) : L_sameSeat.f k q q = some true := by
 unfold L_sameSeat.f; rw [if_pos rfl, if_pos rfl, be (sameAnswer_refl hk h1 h2)]
theorem ShardMoves_true {k : Nat} (hk : Fuel k) (script further : List L_Step) (hn : script.length + further.length < 2000000) : L_ShardMoves.f k script further = some true := by
 have h24 : 1099511627776 ≤ k := hk; obtain ⟨T0, Q0, st0, e0, G0, hst0⟩ := made_gi hk script (by omega); have hr0 : st0.2 < 4194304 := by omega
 have hs0 : Sound st0 := ⟨G0.si.rep.inv, G0.dis, by omega⟩; have x0 := Export_eq hk hr0 G0.si G0.qs (by have := G0.form; omega); obtain ⟨TI, eI, RI⟩ := Import_fwd hk hr0 hs0 G0.qs G0.ats G0.ex; have SI0 : SI TI Q0 st0 := ⟨RI, G0.si.len, G0.si.qb⟩; have x1 := Export_eq hk hr0 SI0 G0.qs (by have := G0.form; omega); obtain ⟨R0, hR0⟩ := Root_fun hk hr0 G0.si; have z0 := Size_eq hk hr0 G0.si G0.qs; have z1 := Size_eq hk hr0 SI0 G0.qs; have hxl := G0.ex; unfold L_ShardMoves.f L_num.f; rw [be (known_eq hk), if_pos rfl, be e0, be x0, be eI]
 simp only [oB]
 rw [if_pos trivial, if_neg (by simp), be x1, be (same_refl hk (by omega)), if_pos rfl, be (hR0 _ SI0), be (hR0 _ G0.si), if_pos rfl, be z1, if_pos rfl, be z0, dt rfl]; unfold L_ShardMoves.j1; have ec : S_Copy.f (some ⟨T0, Q0⟩) = some (some ⟨T0, Q0⟩) := by
  unfold S_Copy.f; rw [if_neg (by simp), oB, be (copy_eq G0.si.rep)]
 rw [if_neg (by simp), be ec]; have L := loop_inv (f := fun (s_ : (Option Sha) × (Option Sha) × Int) => L_ShardMoves.b4 k further s_.1 s_.2.1 s_.2.2)
  (I := fun i s => ∃ T1 T2 Q st, s = (some ⟨T1, Q⟩, some ⟨T2, Q⟩, (i : Int)) ∧ GI T1 Q st ∧ SI T2 Q st ∧ st.2 ≤ script.length + i)
  (P := fun x => ∃ T1 T2 Q st, x = .inl (some ⟨T1, Q⟩, some ⟨T2, Q⟩) ∧ GI T1 Q st ∧ SI T2 Q st ∧ st.2 ≤ script.length + further.length) (N := further.length) ?_ ?_ further.length 0 (some ⟨T0, Q0⟩, some ⟨TI, Q0⟩, 0) k ⟨T0, TI, Q0, st0, rfl, G0, SI0, by omega⟩ (by omega) (by omega)
 ·obtain ⟨x, ex, T1, T2, Q, st, rfl, G, S2, hst⟩ := L
  have hr : st.2 < 4194304 := by omega
  have y1 := Export_eq hk hr G.si G.qs (by have := G.form; omega); have y2 := Export_eq hk hr S2 G.qs (by have := G.form; omega); obtain ⟨R1, hR1⟩ := Root_fun hk hr G.si; have w2 := Size_eq hk hr S2 G.qs; have hyl := G.ex; rw [be ex]
  simp only
  unfold L_ShardMoves.j5; obtain ⟨q, b, q1, q2, s1, s2⟩ : ∃ (q : AS) (b : Bool), q.Answer.Key.length ≤ 1000 ∧ q.Answer.Value.length ≤ 1000 ∧ S_Seat.f (some ⟨T1, Q⟩) 0 = some (q, b) ∧ S_Seat.f (some ⟨T2, Q⟩) 0 = some (q, b) := by
   have hm := G.si.mem (c := 0) (by omega)
   rcases Seat_eq G.si 0 with ⟨h, _⟩ | ⟨_, ⟨h, e⟩ | ⟨h, e⟩⟩
   ·omega
   ·rcases Seat_eq S2 0 with ⟨h', _⟩ | ⟨_, ⟨h', e'⟩ | ⟨h', e'⟩⟩
    ·omega
    ·exact ⟨_, _, by simp, by simp, e, e'⟩
    ·exact absurd h h'
   ·rcases Seat_eq S2 0 with ⟨h', _⟩ | ⟨_, ⟨h', e'⟩ | ⟨h', e'⟩⟩
    ·omega
    ·exact absurd h' h
    ·exact ⟨_, _, hm.key, hm.val, e, e'⟩
  rw [be y1, be s1, be s2, be y2, be (same_refl hk (by omega)), if_pos rfl, be (hR1 _ S2), be (hR1 _ G.si), if_pos rfl, be w2, if_pos rfl, if_pos (by simp), be (sameSeat_refl hk (show q.Answer.Key.length < 4000000000 by omega) (show q.Answer.Value.length < 4000000000 by omega)), if_pos rfl, be x0, be (same_refl hk (by omega)), if_pos rfl, be (same_eq hk _ _ (.inl (by omega)))]
  by_cases c : EX st0 Q0 = EX st Q
  ·have hs1 : Sound st := ⟨G.si.rep.inv, G.dis, by omega⟩
   obtain ⟨TJ, eJ, RJ⟩ := Import_fwd hk hr hs1 G.qs G.ats G.ex; rw [c] at eI; have e2 := Option.some.inj (eI.symm.trans eJ)
   simp only [Prod.mk.injEq, Option.some.injEq, Sha.mk.injEq, and_true] at e2
   obtain ⟨e3, e4⟩ := e2; subst e3; have hst' : st0 = st := rep_inj RI RJ; subst hst'; subst e4; rw [dt c, if_pos rfl, be (hR1 _ S2), be (hR1 _ G0.si), dt rfl]
  ·rw [dz c, if_neg (by simp)]
 ·rintro i _ hi ⟨T1, T2, Q, st, rfl, G, S2, hst⟩
  left
  have hsr := step_r st (rd further (i : Int)).Op; have hr : st.2 < 4194304 := by omega
  simp only [L_ShardMoves.b4]
  rw [if_pos (by omega), if_pos (by omega)]; unfold L_num.f; have h3 : ∀ (t u : AA × Bool × Int × Option Sha), L_ShardMoves.j3 t u (i : Int) false = some (.next (t.2.2.2, u.2.2.2, ((i + 1 : Nat) : Int))) := by
   intro t u; unfold L_ShardMoves.j3; rw [if_neg (by simp), wrS i (by omega)]
  rcases both hk (by omega) G S2 (rd further (i : Int)).Client (rd further (i : Int)).Seq (rd further (i : Int)).Op with ⟨e, he, h, h'⟩ | ⟨a, a1, a2, h, h'⟩ | ⟨a, a1, a2, T1', T2', Q', h, h', G', S'⟩
  ·rw [be (after_none h'), be (do_none h he), be (do_none h' he)]
   simp only [oB]
   rw [if_pos trivial, if_pos (by rfl), be (sameAnswer_refl hk (by decide) (by decide)), if_pos rfl, if_pos trivial, if_neg he, if_neg he, dt trivial]; exact ⟨_, h3 _ _, T1, T2, Q, st, rfl, G, S2, by omega⟩
  ·have z1 := Size_eq hk hr G.si G.qs
   have z2 := Size_eq hk hr S2 G.qs; rw [be (after_self h' z2), be (do_self h), be (do_self h')]
   simp only [oB]
   rw [if_pos trivial, if_pos (by rfl), be (sameAnswer_refl hk (by omega) (by omega)), if_pos rfl, if_pos trivial, if_pos trivial, be z1, if_pos rfl, if_pos trivial]; exact ⟨_, h3 _ _, T1, T2, Q, st, rfl, G, S2, by omega⟩
  ·have z1 := Size_eq hk (by omega) G'.si G'.qs
   have z2 := Size_eq hk (by omega) S' G'.qs; rw [be (after_new h' z2), be (do_new h), be (do_new h')]
   simp only [oB]
   rw [if_pos trivial, if_pos (by rfl), be (sameAnswer_refl hk (by omega) (by omega)), if_pos rfl, if_pos trivial, if_pos trivial, be z1, if_pos rfl, if_pos trivial]; exact ⟨_, h3 _ _, T1', T2', Q', _, rfl, G', S', by omega⟩
 ·rintro _ ⟨T1, T2, Q, st, rfl, G, S2, hst⟩
  refine ⟨_, ?_, T1, T2, Q, st, rfl, G, S2, hst⟩
  simp only [L_ShardMoves.b4]
  rw [if_neg (by omega)]
end Go.Proofs.YthankpjbfpcldaaGreat.G
namespace Go.Proofs.YthankpjbfpcldaaGreat.shardMoves
open Go.ChangeShapes Go.WideShapes Go.ChangeAt Go.RowKit
set_option linter.unusedVariables false
set_option maxRecDepth 100000 in
theorem contract (H : Type) (enc : TypeId × Value → H) (W : World) (base : Nat) (args : Array Value) (ds gs : List (DataW H)) (before : List MemPlace)
  (hval : ∀ (j : Nat) t v, Tryz.f5.params[j]? = some t → args[j]? = some v → Value.okWide Tryz.prog W .any base t v)
  (hW : DataW.Whole enc Tryz.prog Tryz.f5.params.toList Rows.shardMovesSpec.vars false W args.toList ds gs before) (hk : Rows.uptoSmall H (ds ++ gs) = true) :
  Calls Tryz.prog 5 args W fun e W' => ∃ v, e = .returned v ∧ Rows.shardMovesSpec.post enc Tryz.prog Tryz.f5 false true false false W args v W' := by
 have hW' := hW; obtain ⟨p, q, hA0, hV, rfl, hfz, hnd⟩ := hW; have hA : DataW.TrodAll enc Tryz.prog W 0 (fun _ => true) true Tryz.f5.params.toList args.toList ds p := hA0; rw [Tryz.params5] at hA hval; obtain ⟨v0, vs0, d0, ds0, p0, q0, hargs, rfl, rfl, h0, r0⟩ := trodAll_cons hA; obtain ⟨v1, vs1, d1, ds1, p1, q1, rfl, rfl, rfl, h1, r1⟩ := trodAll_cons r0; obtain ⟨rfl, rfl, rfl⟩ := trodAll_nil r1; obtain rfl : args = #[v0, v1] := by cases args; simp_all
 obtain ⟨rfl, rfl⟩ := trodVars_none hV; have k0 := h0; have lt0 : ∀ x ∈ p0, x.block < W.heap.size := by obtain ⟨m, hm⟩ := k0; exact DataW.trod_lt m _ _ _ hm
 obtain ⟨A0, C0, a0, rfl, s0, b0, o0⟩ := G.arg_steps (okWide_slice Tryz.underlying22 (hval 0 22 v0 rfl rfl)) h0; have l0 := G.len_sum G.wt_haulagelaw14_Step G.wt_haulagelaw14_Step_pos a0; have k1 := h1; have lt1 : ∀ x ∈ p1, x.block < W.heap.size := by obtain ⟨m, hm⟩ := k1; exact DataW.trod_lt m _ _ _ hm
 obtain ⟨A1, C1, a1, rfl, s1, b1, o1⟩ := G.arg_steps (okWide_slice Tryz.underlying22 (hval 1 22 v1 rfl rfl)) h1; have l1 := G.len_sum G.wt_haulagelaw14_Step G.wt_haulagelaw14_Step_pos a1; have hb : Rows.uptoBulkAll [d0, d1] ≤ 1048576 := of_decide_eq_true hk
 simp only [Rows.uptoBulkAll] at hb
 refine (G.L_ShardMoves.calls 1099511627776 (m := 1) (c0 := G.c0) (w0 := W) (Nat.lt_succ_self 0) (fun _ _ => Nat.lt_succ_self 0) s0 s1 true (G.ShardMoves_true (k := 1099511627776) (Nat.le_refl _) _ _ (by omega))).mono fun e W' ⟨c_, he, ev_, _⟩ => ?_; subst he; have bel : Below W.heap.size W W' := G.Ev.below ev_; exact ⟨_, rfl, _, _, _, [], _, [], hW', trodAll_mk1 (shut_bool Tryz.underlying4 _), (trodAll_cons_mk (Below.trod G.row_laidOut (by kernel_rfl) (of_decide_eq_true (by kernel_rfl)) k0 bel lt0) (trodAll_cons_mk (Below.trod G.row_laidOut (by kernel_rfl) (of_decide_eq_true (by kernel_rfl)) k1 bel lt1) trodAll_mk0)), rfl, bel.frame _, fun h => by cases h⟩
set_option maxRecDepth 100000 in
theorem lifted (os : Os) (started : os.Started) (H : Type) (enc : TypeId × Value → H) (F : Stop.Interp) :
  ReturnsInHanded {} Tryz.checked os 5 .any ((Rows.OpenSpec.upto Rows.shardMovesSpec).pre6 enc Tryz.prog Tryz.f5 Rows.shardMovesUptoRow.domain false) (((Rows.OpenSpec.upto Rows.shardMovesSpec).at F).post enc Tryz.prog Tryz.f5 false true false false) := by
 refine returnsInHanded_of_cond (C := Tryz.checked) (s := Rows.OpenSpec.upto Rows.shardMovesSpec) (k := Rows.uptoSmall) rfl G.row_own started (by kernel_rfl) Tryz.func5
  (OpenSpec.witness (enc := enc) (C := Tryz.checked) (s := Rows.OpenSpec.upto Rows.shardMovesSpec) (k := Rows.uptoSmall) rfl false ⟨#[], #[.slice none 0 0, .slice none 0 0], []⟩ 8 (by kernel_rfl) (by kernel_rfl) (by kernel_rfl)
   (x := ([.nil, .nil], [], [])) (by kernel_rfl) rfl (by kernel_rfl)) ?_
 intro W base args ds gs before hval hW _ hk _; exact contract H enc W base args ds gs before hval hW hk
theorem over : Rows.shardMovesUptoRow.holds Tryz.pinned (Rows.OpenSpec.upto Rows.shardMovesSpec) :=
 OpenClaim.holds_of_cond 5 Tryz.f5 rfl rfl rfl rfl rfl rfl rfl ⟨rfl, rfl, rfl, rfl, rfl⟩ rfl rfl rfl rfl rfl (by kernel_rfl) Tryz.func5 (by kernel_rfl)
  (of_decide_eq_true (by kernel_rfl)) (by unfold Func.isWrapper; first | (rw [if_pos (by decide +kernel)]; kernel_rfl) | (rw [if_neg (by decide +kernel)]; exact ⟨rfl, rfl⟩))
  (fun os started H enc _ F => lifted os started H enc F)
theorem proved : Rows.ShardMovesUptoSaid := over
end Go.Proofs.YthankpjbfpcldaaGreat.shardMoves
namespace Go.Proofs.YthankpjbfpcldaaGreat
theorem shardMoves_holds : Rows.ShardMovesUptoSaid := shardMoves.proved
end Go.Proofs.YthankpjbfpcldaaGreat