/- A map keyed by ints whose elements are told as the values that they are: a plain function. Over the kit's 'ownsMap'. Nothing of one program is named. -/
import Derived.Maps.OwnSet
import Derived.RowKit
namespace Go.Proofs.Ytohljkjaggcapaa.MV
open Go.Maps (Keyed IsMap Tidy)
open Go Go.RowKit
set_option linter.unusedVariables false

/-- An element reads as itself. -/
def heldElem (v : Value) : Option (DataW Value × List MemPlace) := some (.held v, [])

/-- Block b is a map of at most n entries, keyed by ints, that tells f. -/
def VMap (w : World) (P : Program) (K : TypeId) (b n : Nat) (f : Int → Option Value) : Prop :=
  ∃ D : DataW Value, w.ownsMap P K heldElem b n D ∧ ∀ k, (∀ z, D.atKey (.int .i64 k) (.held z) = .held ((f k).getD z)) ∧ Maps.has D (.int .i64 k) = (f k).isSome

def upd (f : Int → Option Value) (k : Int) (v : Option Value) : Int → Option Value := fun j => if j = k then v else f j

variable {P : Program} {K : TypeId} {b n : Nat} {f : Int → Option Value} {w : World}

theorem VMap.made (w : World) (P : Program) (K : TypeId) : VMap (w.alloc (.map #[] 0)) P K w.heap.size 0 (fun _ => none) :=
  ⟨_, World.ownsMap_made w P K heldElem, fun k => ⟨fun z => rfl, rfl⟩⟩
theorem VMap.mono (h : VMap w P K b n f) {n' : Nat} (hn : n ≤ n') : VMap w P K b n' f := by
  obtain ⟨D, h, r⟩ := h; exact ⟨D, h.mono hn, r⟩
theorem VMap.lt (h : VMap w P K b n f) : b < w.heap.size := by obtain ⟨D, h, r⟩ := h; exact h.lt
theorem VMap.kept {w' : World} (h : VMap w P K b n f) (hb : w'.heap[b]? = w.heap[b]?) : VMap w' P K b n f := by
  obtain ⟨D, ⟨es, clock, h1, h2⟩, r⟩ := h
  exact ⟨D, ⟨es, clock, hb.trans h1, h2⟩, r⟩
theorem VMap.is_map (h : VMap w P K b n f) : ∃ es c, w.heap[b]? = some (.map es c) := by
  obtain ⟨D, ⟨es, clock, h1, h2⟩, r⟩ := h
  exact ⟨es, clock, h1⟩

section
variable {ops : Array Oper} {rest : List Oper} {o : Oper} {a : Act} {Q : Exit → Act → World → Prop}

theorem put_tells {D : DataW Value} (hD : IsMap D) (r : ∀ k, (∀ z, D.atKey (.int .i64 k) (.held z) = .held ((f k).getD z)) ∧ Maps.has D (.int .i64 k) = (f k).isSome) (k : Int) (v : Value) :
    ∀ j, (∀ z, (D.put (.int .i64 k) (.held v)).atKey (.int .i64 j) (.held z) = .held ((upd f k (some v) j).getD z)) ∧ Maps.has (D.put (.int .i64 k) (.held v)) (.int .i64 j) = (upd f k (some v) j).isSome := by
  intro j
  unfold upd
  by_cases c : j = k
  · subst c
    rw [if_pos rfl]
    have hk : WideAt.IsKeyLit (.int .i64 j) := trivial
    exact ⟨fun z => Maps.atKey_put_same hD hk _ _, Maps.has_put_same hD hk _⟩
  · rw [if_neg c]
    have hne : (Lit.int .i64 j) ≠ .int .i64 k := fun e => c (by injection e)
    exact ⟨fun z => by rw [Maps.atKey_put_other hne]; exact (r j).1 z, by rw [Maps.has_put_other hne]; exact (r j).2⟩
theorem del_tells {D : DataW Value} (r : ∀ k, (∀ z, D.atKey (.int .i64 k) (.held z) = .held ((f k).getD z)) ∧ Maps.has D (.int .i64 k) = (f k).isSome) (k : Int) :
    ∀ j, (∀ z, (D.del (.int .i64 k)).atKey (.int .i64 j) (.held z) = .held ((upd f k none j).getD z)) ∧ Maps.has (D.del (.int .i64 k)) (.int .i64 j) = (upd f k none j).isSome := by
  intro j
  unfold upd
  by_cases c : j = k
  · subst c
    rw [if_pos rfl]
    exact ⟨fun z => Maps.atKey_del_same _, Maps.has_del_same⟩
  · rw [if_neg c]
    have hne : (Lit.int .i64 j) ≠ .int .i64 k := fun e => c (by injection e)
    exact ⟨fun z => by rw [Maps.atKey_del_other hne]; exact (r j).1 z, by rw [Maps.has_del_other hne]; exact (r j).2⟩

/-- 'v, ok := m[k]'. -/
theorem look_ok (hg : o.guard = none) (m x : Operand) (t : TypeId) (hop : o.op = Op.lookup t m x true) (e : TypeId) (hk : P.underlying K = some (.int .i64)) (ht : P.underlying t = some (.map K e)) {z : Value} (hz : (zeroValue e).run P w = .ok z w)
    (b n : Nat) (f : Int → Option Value) (hm : a.eval m = .map (some b)) (h : VMap w P K b n f) (k : Int) (hx : a.eval x = .int .i64 k) (hw : (Lit.int .i64 k).wf = true) (v0 : Value) (ok0 : Bool) (hv0 : (f k).getD z = v0) (hok : (f k).isSome = ok0)
    (hK : wpList P ops Q rest (a.put o.dst (.tuple #[v0, .bool ok0])) w) : wpList P ops Q (o :: rest) a w := by
  subst hv0
  subst hok
  obtain ⟨D, hown, r⟩ := h
  refine wpList_lookup_own_ok w hg m x t hop K e (Maps.int_keyed hk) ht heldElem hz (.held z) [] rfl b n D hm hown _ _ hx (Maps.keyOf_int_mk hk hw) ?_
  intro v ps hv
  rw [(r k).1 z] at hv
  rw [(r k).2]
  simp only [heldElem, Option.some.injEq, Prod.mk.injEq, DataW.held.injEq] at hv
  rw [hv.1]; exact hK

/-- 'm[k]'. -/
theorem look (hg : o.guard = none) (m x : Operand) (t : TypeId) (hop : o.op = Op.lookup t m x false) (e : TypeId) (hk : P.underlying K = some (.int .i64)) (ht : P.underlying t = some (.map K e)) {z : Value} (hz : (zeroValue e).run P w = .ok z w)
    (b n : Nat) (f : Int → Option Value) (hm : a.eval m = .map (some b)) (h : VMap w P K b n f) (k : Int) (hx : a.eval x = .int .i64 k) (hw : (Lit.int .i64 k).wf = true) (v0 : Value) (hv0 : (f k).getD z = v0)
    (hK : wpList P ops Q rest (a.put o.dst v0) w) : wpList P ops Q (o :: rest) a w := by
  subst hv0
  obtain ⟨D, hown, r⟩ := h
  refine wpList_plain hg fun K' hK' => ?_
  obtain ⟨v, ps, hrun, hv⟩ := hown.lookup (Maps.int_keyed hk) ht hz (zd := .held z) (zp := []) rfl (Maps.keyOf_int_mk hk hw)
  rw [(r k).1 z] at hv
  simp only [heldElem, Option.some.injEq, Prod.mk.injEq, DataW.held.injEq] at hv
  unfold Oper.wp
  simp [execOp, hop, hm, hx, hrun, Result.andThen]
  refine hK' _ _ ?_
  rw [hv.1]; exact hK

/-- 'm[k] = v'. -/
theorem store (hg : o.guard = none) (m x v : Operand) (t : TypeId) (hop : o.op = Op.mapUpdate t m x v) (e : TypeId) (hk : P.underlying K = some (.int .i64)) (ht : P.underlying t = some (.map K e))
    (b n : Nat) (f : Int → Option Value) (hm : a.eval m = .map (some b)) (h : VMap w P K b n f) (hn : n < maxLen) (k : Int) (val : Value) (hx : a.eval x = .int .i64 k) (hv : a.eval v = val) (hw : (Lit.int .i64 k).wf = true)
    (hK : ∀ w', VMap w' P K b (n + 1) (upd f k (some val)) → w.grownBy w' (some b) → w'.heap.size = w.heap.size → wpList P ops Q rest (a.put o.dst undef) w') : wpList P ops Q (o :: rest) a w := by
  obtain ⟨D, hown, r⟩ := h
  refine wpList_mapUpdate_in w hg m x v t hop K e (Maps.int_keyed hk) ht heldElem b n D hm hown hn _ _ _ hx hv (Maps.keyOf_int_mk hk hw) (.held val) [] rfl ?_
  intro w' hown' hturn
  refine hK w' ⟨_, hown', put_tells hown.isMap r k val⟩ hturn.grown ?_
  obtain ⟨es, clock, es', clock', hb, rfl⟩ := hturn
  simp [ChangeMaps.setBlock]

/-- 'delete(m, k)'. -/
theorem drop (hg : o.guard = none) (m x : Operand) (t : TypeId) (hop : o.op = Op.call { callee := Callee.builtin Builtin.delete, args := #[m, x], argTypes := #[t, K] }) (e : TypeId) (hk : P.underlying K = some (.int .i64)) (ht : P.underlying t = some (.map K e))
    (b n : Nat) (f : Int → Option Value) (hm : a.eval m = .map (some b)) (h : VMap w P K b n f) (k : Int) (hx : a.eval x = .int .i64 k) (hw : (Lit.int .i64 k).wf = true)
    (hK : ∀ w', VMap w' P K b n (upd f k none) → w.grownBy w' (some b) → w'.heap.size = w.heap.size → wpList P ops Q rest (a.put o.dst (.tuple #[])) w') : wpList P ops Q (o :: rest) a w := by
  obtain ⟨D, hown, r⟩ := h
  refine wpList_delete_own w hg m x t K hop e (Maps.int_keyed hk) ht heldElem b n D hm hown _ _ hx (Maps.keyOf_int_mk hk hw) ?_
  intro w' hown' hturn
  refine hK w' ⟨_, hown', del_tells r k⟩ hturn.grown ?_
  obtain ⟨es, clock, es', clock', hb, rfl⟩ := hturn
  simp [ChangeMaps.setBlock]
end

end Go.Proofs.Ytohljkjaggcapaa.MV
