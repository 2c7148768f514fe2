/- The plain law of the tree and of the table. -/
import Derived.Test.YtcolmmjcdlmcoaaNB
import Derived.Laws.OwnMore
import Derived.Laws.Strings
/-! The plain law of the tree: what join, last, both, Put, Delete, Get and the iterators do to the rows in order. -/
namespace Go.Proofs.Ytcolmmjcdlmcoaa.G
open Go
set_option linter.unusedVariables false
set_option linter.unusedSimpArgs false
abbrev Ent := ByteArray × table_cell
def Tr.list : Tr → List Ent
  | .nil => []
  | .node l r k v _ _ => l.list ++ (k, v) :: r.list
def Tr.hgt : Tr → Nat
  | .nil => 0
  | .node l r _ _ _ _ => 1 + max l.hgt r.hgt
def Tr.WF : Tr → Prop
  | .nil => True
  | .node l r k v s d => l.WF ∧ r.WF ∧ s = ((Tr.node l r k v s d).list.length : Int) ∧ d = ((Tr.node l r k v s d).hgt : Int)
theorem Tr.hgt_le : ∀ t : Tr, t.hgt ≤ t.list.length
  | .nil => Nat.le_refl _
  | .node l r k v s d => by
    have := hgt_le l; have := hgt_le r
    simp only [Tr.hgt, Tr.list, List.length_append, List.length_cons]; omega
theorem len_eq {t : Tr} (h : t.WF) : tree_Tree_Len.f t = some (t.list.length : Int) := by
  cases t with
  | nil => rfl
  | node l r k v s d => show (if (Tr.node l r k v s d).isNil = true then some 0 else some s) = _; rw [if_neg (by simp [Tr.isNil])]; exact congrArg some h.2.2.1
theorem dep_eq {t : Tr} (h : t.WF) : tree_Tree_Depth.f t = some (t.hgt : Int) := by
  cases t with
  | nil => rfl
  | node l r k v s d => show (if (Tr.node l r k v s d).isNil = true then some 0 else some d) = _; rw [if_neg (by simp [Tr.isNil])]; exact congrArg some h.2.2.2
theorem wr {n : Int} (h0 : -1000000000000000000 ≤ n) (h1 : n ≤ 1000000000000000000) : IntKind.i64.wrap n = n := by rw [IntKind.wrap_i64]; omega
/-- a bound that keeps whole numbers as they are -/
def big : Nat := 1099511627776
theorem node_eq {l r : Tr} {k : ByteArray} {v : table_cell} (hl : l.WF) (hr : r.WF) (hb : l.list.length + r.list.length < big) :
    ∃ t, tree_node.f l k v r = some t ∧ t.WF ∧ t.list = l.list ++ (k, v) :: r.list ∧ (∃ s d, t = .node l r k v s d) := by
  have h1 := l.hgt_le; have h2 := r.hgt_le
  unfold big at hb
  refine ⟨.node l r k v (l.list.length + 1 + r.list.length) (1 + max l.hgt r.hgt), ?_, ⟨hl, hr, ?_, ?_⟩, rfl, _, _, rfl⟩
  · simp only [tree_node.f, len_eq hl, len_eq hr, dep_eq hl, dep_eq hr, Option.bind_some]
    rw [wr (n := (l.list.length : Int) + 1) (by omega) (by omega), wr (by omega) (by omega), wr (by omega) (by omega)]
    simp; omega
  · simp only [Tr.list, List.length_append, List.length_cons]; omega
  · simp only [Tr.hgt]; omega
theorem turnL {l r : Tr} {k : ByteArray} {v : table_cell} {s d : Int} (hl : l.WF) (hr : r.WF) (hn : r.list ≠ []) (hb : l.list.length + r.list.length < big) :
    ∃ t, tree_turnLeft.f (.node l r k v s d) = some t ∧ t.WF ∧ t.list = l.list ++ (k, v) :: r.list := by
  cases r with
  | nil => exact absurd rfl hn
  | node rl rr rk rv rs rd =>
    obtain ⟨h1, h2, _⟩ := hr
    simp only [Tr.list, List.length_append, List.length_cons] at hb
    obtain ⟨a, ea, wa, la, _⟩ := node_eq (k := k) (v := v) hl h1 (by omega)
    obtain ⟨b, eb, wb, lb, _⟩ := node_eq (k := rk) (v := rv) wa h2 (by rw [la]; simp only [List.length_append, List.length_cons]; omega)
    refine ⟨b, ?_, wb, ?_⟩
    · simp only [tree_turnLeft.f, Tr.cs, ea, eb, Option.bind_some]
    · rw [lb, la]; simp [Tr.list]
theorem turnR {l r : Tr} {k : ByteArray} {v : table_cell} {s d : Int} (hl : l.WF) (hr : r.WF) (hn : l.list ≠ []) (hb : l.list.length + r.list.length < big) :
    ∃ t, tree_turnRight.f (.node l r k v s d) = some t ∧ t.WF ∧ t.list = l.list ++ (k, v) :: r.list := by
  cases l with
  | nil => exact absurd rfl hn
  | node rl rr rk rv rs rd =>
    obtain ⟨h1, h2, _⟩ := hl
    simp only [Tr.list, List.length_append, List.length_cons] at hb
    obtain ⟨a, ea, wa, la, _⟩ := node_eq (k := k) (v := v) h2 hr (by omega)
    obtain ⟨b, eb, wb, lb, _⟩ := node_eq (k := rk) (v := rv) h1 wa (by rw [la]; simp only [List.length_append, List.length_cons]; omega)
    refine ⟨b, ?_, wb, ?_⟩
    · simp only [tree_turnRight.f, Tr.cs, ea, eb, Option.bind_some]
    · rw [lb, la]; simp [Tr.list]
theorem hgt_pos {t : Tr} (h : 0 < t.hgt) : t.list ≠ [] := by
  cases t with
  | nil => simp [Tr.hgt] at h
  | node l r k v s d => simp [Tr.list]
theorem join_eq : ∀ (n : Nat) (l r : Tr) (k : ByteArray) (v : table_cell), l.hgt + r.hgt < n → l.WF → r.WF → l.list.length + r.list.length + 1 < big →
    ∃ t, tree_join.f n l k v r = some t ∧ t.WF ∧ t.list = l.list ++ (k, v) :: r.list
  | 0, _, _, _, _, h, _, _, _ => absurd h (by omega)
  | n + 1, l, r, k, v, hn, hl, hr, hb => by
    have h1 := l.hgt_le; have h2 := r.hgt_le
    have hb' := hb
    unfold big at hb'
    simp only [tree_join.f, dep_eq hl, dep_eq hr, Option.bind_some]
    rw [wr (n := (r.hgt : Int) + 1) (by omega) (by omega), wr (n := (l.hgt : Int) + 1) (by omega) (by omega)]
    by_cases c1 : (r.hgt : Int) + 1 < l.hgt
    · rw [if_pos c1]
      cases l with
      | nil => simp [Tr.hgt] at c1; omega
      | node ll lr lk lv ls ld =>
        obtain ⟨wl, wr', _, _⟩ := hl
        simp only [Tr.hgt] at hn
        simp only [Tr.list, List.length_append, List.length_cons] at hb
        obtain ⟨u, eu, wu, lu⟩ := join_eq n lr r k v (by omega) wr' hr (by omega)
        simp only [Tr.cs, eu, Option.bind_some]
        have hul : u.list.length = lr.list.length + r.list.length + 1 := by rw [lu]; simp; omega
        cases u with
        | nil => simp [Tr.list] at lu
        | node ul ur uk uv us ud =>
          have wu' := wu
          obtain ⟨wul, wur, hus, hud⟩ := wu
          simp only [dep_eq wl, dep_eq wul, dep_eq wur, Option.bind_some]
          have h3 := ll.hgt_le
          unfold big at hb
          rw [wr (n := (ll.hgt : Int) + 1) (by omega) (by omega)]
          have hull : ul.list.length + ur.list.length + 1 = lr.list.length + r.list.length + 1 := by rw [← hul]; simp [Tr.list]; omega
          split
          · split
            · rename_i c3
              obtain ⟨x, ex, wx, lx⟩ := turnR (k := uk) (v := uv) (s := us) (d := ud) wul wur (hgt_pos (by omega)) (by unfold big; omega)
              obtain ⟨y, ey, wy, ly, s', d', hy⟩ := node_eq (k := lk) (v := lv) wl wx (by rw [lx]; simp only [List.length_append, List.length_cons]; unfold big; omega)
              subst hy
              obtain ⟨z, ez, wz, lz⟩ := turnL (k := lk) (v := lv) (s := s') (d := d') wl wx (by rw [lx]; simp) (by rw [lx]; simp only [List.length_append, List.length_cons]; unfold big; omega)
              refine ⟨z, by simp only [ex, ey, ez, Option.bind_some], wz, ?_⟩
              have e1 : x.list = lr.list ++ (k, v) :: r.list := by rw [lx, ← lu]; simp [Tr.list]
              rw [lz, e1]; simp [Tr.list]
            · obtain ⟨y, ey, wy, ly, s', d', hy⟩ := node_eq (k := lk) (v := lv) wl wu' (by rw [hul]; unfold big; omega)
              subst hy
              obtain ⟨z, ez, wz, lz⟩ := turnL (k := lk) (v := lv) (s := s') (d := d') wl wu' (by simp [Tr.list]) (by rw [hul]; unfold big; omega)
              refine ⟨z, by simp only [ey, ez, Option.bind_some], wz, ?_⟩
              rw [lz, lu]; simp [Tr.list]
          · obtain ⟨y, ey, wy, ly, _⟩ := node_eq (k := lk) (v := lv) wl wu' (by rw [hul]; unfold big; omega)
            refine ⟨y, by simp only [ey, Option.bind_some], wy, ?_⟩
            rw [ly, lu]; simp [Tr.list]
    · rw [if_neg c1]
      by_cases c2 : (l.hgt : Int) + 1 < r.hgt
      · rw [if_pos c2]
        cases r with
        | nil => simp [Tr.hgt] at c2; omega
        | node rl rr rk rv rs rd =>
          obtain ⟨wl, wr', _, _⟩ := hr
          simp only [Tr.hgt] at hn
          simp only [Tr.list, List.length_append, List.length_cons] at hb
          obtain ⟨u, eu, wu, lu⟩ := join_eq n l rl k v (by omega) hl wl (by omega)
          simp only [Tr.cs, eu, Option.bind_some]
          have hul : u.list.length = l.list.length + rl.list.length + 1 := by rw [lu]; simp; omega
          cases u with
          | nil => simp [Tr.list] at lu
          | node ul ur uk uv us ud =>
            have wu' := wu
            obtain ⟨wul, wur, hus, hud⟩ := wu
            simp only [dep_eq wr', dep_eq wul, dep_eq wur, Option.bind_some]
            have h3 := rr.hgt_le
            unfold big at hb
            rw [wr (n := (rr.hgt : Int) + 1) (by omega) (by omega)]
            have hull : ul.list.length + ur.list.length + 1 = l.list.length + rl.list.length + 1 := by rw [← hul]; simp [Tr.list]; omega
            split
            · split
              · rename_i c3
                obtain ⟨x, ex, wx, lx⟩ := turnL (k := uk) (v := uv) (s := us) (d := ud) wul wur (hgt_pos (by omega)) (by unfold big; omega)
                obtain ⟨y, ey, wy, ly, s', d', hy⟩ := node_eq (k := rk) (v := rv) wx wr' (by rw [lx]; simp only [List.length_append, List.length_cons]; unfold big; omega)
                subst hy
                obtain ⟨z, ez, wz, lz⟩ := turnR (k := rk) (v := rv) (s := s') (d := d') wx wr' (by rw [lx]; simp) (by rw [lx]; simp only [List.length_append, List.length_cons]; unfold big; omega)
                refine ⟨z, by simp only [ex, ey, ez, Option.bind_some], wz, ?_⟩
                have e1 : x.list = l.list ++ (k, v) :: rl.list := by rw [lx, ← lu]; simp [Tr.list]
                rw [lz, e1]; simp [Tr.list]
              · obtain ⟨y, ey, wy, ly, s', d', hy⟩ := node_eq (k := rk) (v := rv) wu' wr' (by rw [hul]; unfold big; omega)
                subst hy
                obtain ⟨z, ez, wz, lz⟩ := turnR (k := rk) (v := rv) (s := s') (d := d') wu' wr' (by simp [Tr.list]) (by rw [hul]; unfold big; omega)
                refine ⟨z, by simp only [ey, ez, Option.bind_some], wz, ?_⟩
                rw [lz, lu]; simp [Tr.list]
            · obtain ⟨y, ey, wy, ly, _⟩ := node_eq (k := rk) (v := rv) wu' wr' (by rw [hul]; unfold big; omega)
              refine ⟨y, by simp only [ey, Option.bind_some], wy, ?_⟩
              rw [ly, lu]; simp [Tr.list]
      · rw [if_neg c2]
        obtain ⟨y, ey, wy, ly, _⟩ := node_eq (k := k) (v := v) hl hr (by omega)
        exact ⟨y, by simp only [ey, Option.bind_some], wy, ly⟩
theorem last_eq : ∀ (n : Nat) (t : Tr), 2 * t.list.length < n → t.WF → t.list ≠ [] → t.list.length < big →
    ∃ u k v, tree_last.f n t = some (u, k, v) ∧ u.WF ∧ t.list = u.list ++ [(k, v)]
  | 0, _, h, _, _, _ => absurd h (by omega)
  | n + 1, t, hn, ht, hne, hb => by
    cases t with
    | nil => exact absurd rfl hne
    | node l r k v s d =>
      obtain ⟨wl, wr', _, _⟩ := ht
      simp only [Tr.list, List.length_append, List.length_cons] at hn hb
      cases r with
      | nil => exact ⟨l, k, v, rfl, wl, by simp [Tr.list]⟩
      | node rl rr rk rv rs rd =>
        obtain ⟨u, k', v', e, wu, lu⟩ := last_eq n (.node rl rr rk rv rs rd) (by omega) wr' (by simp [Tr.list]) (by omega)
        have h1 := l.hgt_le; have h2 := u.hgt_le
        have hlen : (Tr.node rl rr rk rv rs rd).list.length = u.list.length + 1 := by rw [lu]; simp
        obtain ⟨x, ex, wx, lx⟩ := join_eq n l u k v (by omega) wl wu (by omega)
        refine ⟨x, k', v', ?_, wx, ?_⟩
        · simp only [tree_last.f, Tr.cs]
          rw [if_neg (by simp [Tr.isNil])]
          simp only [e, ex, Option.bind_some]
        · rw [lx]; show l.list ++ (k, v) :: (Tr.node rl rr rk rv rs rd).list = _; rw [lu]; simp
theorem both_eq (n : Nat) (l r : Tr) (hn : 2 * l.list.length + r.list.length + 1 < n) (hl : l.WF) (hr : r.WF) (hb : l.list.length + r.list.length < big) :
    ∃ t, tree_both.f n l r = some t ∧ t.WF ∧ t.list = l.list ++ r.list := by
  cases l with
  | nil => exact ⟨r, rfl, hr, rfl⟩
  | node ll lr lk lv ls ld =>
    obtain ⟨u, k, v, e, wu, lu⟩ := last_eq n (.node ll lr lk lv ls ld) (by omega) hl (by simp [Tr.list]) (by omega)
    have hlen : (Tr.node ll lr lk lv ls ld).list.length = u.list.length + 1 := by rw [lu]; simp
    have h1 := u.hgt_le; have h2 := r.hgt_le
    obtain ⟨x, ex, wx, lx⟩ := join_eq n u r k v (by omega) wu hr (by omega)
    refine ⟨x, ?_, wx, ?_⟩
    · unfold tree_both.f
      rw [if_neg (by simp [Tr.isNil])]
      simp only [e, ex, Option.bind_some]
    · rw [lx, lu]; simp
/-! ### the order of keys -/
def lt (a b : ByteArray) : Bool := Op.bytesLess a.toList b.toList
theorem nan_eq (a : ByteArray) : cmp_isNaN.f a = some false := by simp [cmp_isNaN.f]
theorem less_eq (a b : ByteArray) : cmp_Less.f a b = some (lt a b) := by
  simp only [cmp_Less.f, nan_eq, Option.bind_some]
  rw [if_neg (by simp)]; rfl
theorem compare_eq (a b : ByteArray) : cmp_Compare.f a b = some (if lt a b = true then -1 else if (a.toList == b.toList) = true then 0 else 1) := by
  simp only [cmp_Compare.f, nan_eq, Option.bind_some]
  rw [if_neg (by simp), if_neg (by simp)]
  unfold lt
  split
  · rfl
  · rename_i h
    simp [h]
    split <;> rfl
theorem bl_irr : ∀ x : List UInt8, Op.bytesLess x x = false
  | [] => rfl
  | a :: x => by simp [Op.bytesLess, bl_irr x]
theorem bl_tri : ∀ x y : List UInt8, Op.bytesLess x y = false → Op.bytesLess y x = false → x = y
  | [], [], _, _ => rfl
  | [], _ :: _, h, _ => by simp [Op.bytesLess] at h
  | _ :: _, [], _, h => by simp [Op.bytesLess] at h
  | a :: x, b :: y, h1, h2 => by
    simp only [Op.bytesLess, Bool.or_eq_false_iff, Bool.and_eq_false_iff, decide_eq_false_iff_not, beq_eq_false_iff_ne] at h1 h2
    have hab : a = b := by
      have g1 := h1.1; have g2 := h2.1
      simp only [UInt8.lt_iff_toNat_lt] at g1 g2
      exact UInt8.toNat_inj.1 (by omega)
    subst hab
    have e1 := h1.2.resolve_left (fun q => q rfl)
    have e2 := h2.2.resolve_left (fun q => q rfl)
    rw [bl_tri x y e1 e2]
theorem bl_tr : ∀ x y z : List UInt8, Op.bytesLess x y = true → Op.bytesLess y z = true → Op.bytesLess x z = true
  | x, [], [], _, h => by simp [Op.bytesLess] at h
  | x, b :: y, [], _, h => by simp [Op.bytesLess] at h
  | [], [], c :: z, h, _ => by simp [Op.bytesLess] at h
  | a :: x, [], c :: z, h, _ => by simp [Op.bytesLess] at h
  | [], b :: y, c :: z, _, _ => rfl
  | a :: x, b :: y, c :: z, h1, h2 => by
    simp only [Op.bytesLess, Bool.or_eq_true, Bool.and_eq_true, decide_eq_true_eq, beq_iff_eq] at h1 h2 ⊢
    simp only [UInt8.lt_iff_toNat_lt] at h1 h2 ⊢
    rcases h1 with h1 | ⟨rfl, h1⟩
    · rcases h2 with h2 | ⟨rfl, h2⟩
      · left; omega
      · left; exact h1
    · rcases h2 with h2 | ⟨rfl, h2⟩
      · left; exact h2
      · right; exact ⟨rfl, bl_tr x y z h1 h2⟩
end Go.Proofs.Ytcolmmjcdlmcoaa.G
/-! Put, Delete, Get on the rows in order. -/
namespace Go.Proofs.Ytcolmmjcdlmcoaa.G
open Go
set_option linter.unusedVariables false
set_option linter.unusedSimpArgs false
theorem toList_inj {a b : ByteArray} (h : a.toList = b.toList) : a = b := by
  rw [ByteArray.toList_eq, ByteArray.toList_eq] at h
  cases a; cases b
  simp only [ByteArray.mk.injEq]
  exact Array.toList_inj.1 h
theorem lt_irr (a : ByteArray) : lt a a = false := bl_irr _
theorem lt_tr {a b c : ByteArray} (h1 : lt a b = true) (h2 : lt b c = true) : lt a c = true := bl_tr _ _ _ h1 h2
theorem lt_tri {a b : ByteArray} (h1 : lt a b = false) (h2 : lt b a = false) : a = b := toList_inj (bl_tri _ _ h1 h2)
def Ord (L : List Ent) : Prop := L.Pairwise fun x y => lt x.1 y.1 = true
def ins (k : ByteArray) (v : table_cell) : List Ent → List Ent
  | [] => [(k, v)]
  | (a, x) :: L => if lt k a = true then (k, v) :: (a, x) :: L else if lt a k = true then (a, x) :: ins k v L else (k, v) :: L
def del (k : ByteArray) : List Ent → List Ent
  | [] => []
  | (a, x) :: L => if lt k a = true then (a, x) :: L else if lt a k = true then (a, x) :: del k L else L
def look (k : ByteArray) : List Ent → Option table_cell
  | [] => none
  | (a, x) :: L => if lt k a = true then none else if lt a k = true then look k L else some x
theorem Ord.split {A B : List Ent} {x : Ent} (h : Ord (A ++ x :: B)) : Ord A ∧ Ord B ∧ (∀ y ∈ A, lt y.1 x.1 = true) ∧ (∀ y ∈ B, lt x.1 y.1 = true) := by
  unfold Ord at h ⊢
  rw [List.pairwise_append] at h
  obtain ⟨h1, h2, h3⟩ := h
  rw [List.pairwise_cons] at h2
  exact ⟨h1, h2.2, fun y hy => h3 y hy x (by simp), h2.1⟩
theorem lt_asym {a b : ByteArray} (h : lt a b = true) : lt b a = false := by
  cases hb : lt b a with
  | false => rfl
  | true => have := lt_tr h hb; rw [lt_irr] at this; cases this
theorem ins_left {k : ByteArray} {v : table_cell} {x : Ent} {B : List Ent} (hk : lt k x.1 = true) : ∀ A : List Ent, ins k v (A ++ x :: B) = ins k v A ++ x :: B
  | [] => by simp [ins, hk]
  | (a, y) :: A => by
    simp only [List.cons_append, ins]
    split
    · rfl
    · split
      · rw [ins_left hk A]; rfl
      · rfl
theorem ins_right {k : ByteArray} {v : table_cell} {x : Ent} {B : List Ent} (hk : lt x.1 k = true) : ∀ A : List Ent, (∀ y ∈ A, lt y.1 x.1 = true) → ins k v (A ++ x :: B) = A ++ x :: ins k v B
  | [], _ => by simp [ins, hk, lt_asym hk]
  | (a, y) :: A, h => by
    have h1 : lt a k = true := lt_tr (h (a, y) (by simp)) hk
    simp only [List.cons_append, ins, h1, lt_asym h1]
    rw [ins_right hk A (fun y hy => h y (by simp [hy]))]
    simp
theorem ins_here {k : ByteArray} {v y : table_cell} {B : List Ent} : ∀ A : List Ent, (∀ y ∈ A, lt y.1 k = true) → ins k v (A ++ (k, y) :: B) = A ++ (k, v) :: B
  | [], _ => by simp [ins, lt_irr]
  | (a, y) :: A, h => by
    have h1 : lt a k = true := h (a, y) (by simp)
    simp only [List.cons_append, ins, h1, lt_asym h1]
    rw [ins_here A (fun y hy => h y (by simp [hy]))]
    simp
theorem ins_len (k : ByteArray) (v : table_cell) : ∀ L : List Ent, (ins k v L).length ≤ L.length + 1
  | [] => by simp [ins]
  | (a, x) :: L => by
    have := ins_len k v L
    simp only [ins]
    split
    · simp
    · split <;> simp <;> omega
theorem put_eq : ∀ (n : Nat) (t : Tr) (k : ByteArray) (v : table_cell), 2 * t.list.length + 3 < n → t.WF → Ord t.list → t.list.length + 1 < big →
    ∃ u, tree_Tree_Put.f n t k v = some u ∧ u.WF ∧ u.list = ins k v t.list
  | 0, _, _, _, h, _, _, _ => absurd h (by omega)
  | n + 1, t, k, v, hn, ht, ho, hb => by
    cases t with
    | nil =>
      obtain ⟨u, eu, wu, lu, _⟩ := node_eq (l := .nil) (r := .nil) (k := k) (v := v) trivial trivial (by simp [Tr.list, big])
      refine ⟨u, ?_, wu, by rw [lu]; rfl⟩
      simp only [tree_Tree_Put.f, eu, Option.bind_some]
      rw [if_pos (by rfl)]
    | node l r a x s d =>
      obtain ⟨wl, wr', _, _⟩ := ht
      obtain ⟨ol, or', hA, hB⟩ := Ord.split (show Ord (l.list ++ (a, x) :: r.list) from ho)
      simp only [Tr.list, List.length_append, List.length_cons] at hn hb
      simp only [tree_Tree_Put.f, Tr.cs, compare_eq, Option.bind_some]
      rw [if_neg (by simp [Tr.isNil])]
      cases h1 : lt k a with
      | true =>
        obtain ⟨u, eu, wu, lu⟩ := put_eq n l k v (by omega) wl ol (by omega)
        have hu := ins_len k v l.list; rw [← lu] at hu
        have g1 := u.hgt_le; have g2 := r.hgt_le
        obtain ⟨z, ez, wz, lz⟩ := join_eq n u r a x (by omega) wu wr' (by omega)
        refine ⟨z, ?_, wz, ?_⟩
        · simp [eu, ez]
        · rw [lz, lu]; exact (ins_left (x := (a, x)) h1 l.list).symm
      | false =>
        cases h2 : lt a k with
        | true =>
          have hne : (k.toList == a.toList) = false := by
            cases q : (k.toList == a.toList) with
            | false => rfl
            | true => have := toList_inj (eq_of_beq q); subst this; rw [lt_irr] at h2; cases h2
          obtain ⟨u, eu, wu, lu⟩ := put_eq n r k v (by omega) wr' or' (by omega)
          have hu := ins_len k v r.list; rw [← lu] at hu
          have g1 := u.hgt_le; have g2 := l.hgt_le
          obtain ⟨z, ez, wz, lz⟩ := join_eq n l u a x (by omega) wl wu (by omega)
          refine ⟨z, ?_, wz, ?_⟩
          · simp [hne, eu, ez]
          · rw [lz, lu]; exact (ins_right (x := (a, x)) h2 l.list hA).symm
        | false =>
          have he := lt_tri h1 h2
          subst he
          obtain ⟨z, ez, wz, lz, _⟩ := node_eq (k := k) (v := v) wl wr' (by omega)
          refine ⟨z, ?_, wz, ?_⟩
          · simp [ez]
          · rw [lz]; exact (ins_here l.list hA).symm
theorem lt_ne {a b : ByteArray} (h : lt a b = true) : a ≠ b := by rintro rfl; rw [lt_irr] at h; cases h
theorem keq {a b : ByteArray} : (a.toList == b.toList) = decide (a = b) := by
  by_cases h : a = b
  · subst h; simp
  · rw [decide_eq_false h]
    cases q : (a.toList == b.toList) with
    | false => rfl
    | true => exact absurd (toList_inj (eq_of_beq q)) h
theorem mem_ins {k : ByteArray} {v : table_cell} {y : Ent} : ∀ L : List Ent, y ∈ ins k v L → y = (k, v) ∨ y ∈ L
  | [], h => by simp only [ins, List.mem_singleton] at h; exact Or.inl h
  | (a, x) :: L, h => by
    simp only [ins] at h
    split at h
    · simp only [List.mem_cons] at h ⊢; exact h
    · split at h
      · simp only [List.mem_cons] at h ⊢
        rcases h with h | h
        · exact Or.inr (Or.inl h)
        · rcases mem_ins L h with h | h
          · exact Or.inl h
          · exact Or.inr (Or.inr h)
      · simp only [List.mem_cons] at h ⊢
        rcases h with h | h
        · exact Or.inl h
        · exact Or.inr (Or.inr h)
theorem mem_del {k : ByteArray} {y : Ent} : ∀ L : List Ent, y ∈ del k L → y ∈ L
  | [], h => by simp [del] at h
  | (a, x) :: L, h => by
    simp only [del] at h
    split at h
    · exact h
    · split at h
      · simp only [List.mem_cons] at h ⊢
        rcases h with h | h
        · exact Or.inl h
        · exact Or.inr (mem_del L h)
      · exact List.mem_cons_of_mem _ h
theorem ins_ord {k : ByteArray} {v : table_cell} : ∀ L : List Ent, Ord L → Ord (ins k v L)
  | [], _ => by simp [ins, Ord]
  | (a, x) :: L, h => by
    have h' := h
    unfold Ord at h'
    rw [List.pairwise_cons] at h'
    simp only [ins]
    split
    · rename_i c
      unfold Ord
      rw [List.pairwise_cons]
      refine ⟨?_, h⟩
      intro y hy
      rcases List.mem_cons.1 hy with rfl | hy
      · exact c
      · exact lt_tr c (h'.1 y hy)
    · split
      · rename_i c1 c
        unfold Ord
        rw [List.pairwise_cons]
        refine ⟨?_, ins_ord L h'.2⟩
        intro y hy
        rcases mem_ins L hy with rfl | hy
        · exact c
        · exact h'.1 y hy
      · rename_i c1 c2
        have he : k = a := lt_tri (by simpa using c1) (by simpa using c2)
        subst he
        unfold Ord
        rw [List.pairwise_cons]
        exact ⟨h'.1, h'.2⟩
theorem del_ord {k : ByteArray} : ∀ L : List Ent, Ord L → Ord (del k L)
  | [], _ => by simp [del, Ord]
  | (a, x) :: L, h => by
    have h' := h
    unfold Ord at h'
    rw [List.pairwise_cons] at h'
    simp only [del]
    split
    · exact h
    · split
      · unfold Ord
        rw [List.pairwise_cons]
        exact ⟨fun y hy => h'.1 y (mem_del L hy), del_ord L h'.2⟩
      · exact h'.2
theorem del_left {k : ByteArray} {x : Ent} {B : List Ent} (hk : lt k x.1 = true) : ∀ A : List Ent, del k (A ++ x :: B) = del k A ++ x :: B
  | [] => by simp [del, hk]
  | (a, y) :: A => by
    simp only [List.cons_append, del]
    split
    · rfl
    · split
      · rw [del_left hk A]; rfl
      · rfl
theorem del_right {k : ByteArray} {x : Ent} {B : List Ent} (hk : lt x.1 k = true) : ∀ A : List Ent, (∀ y ∈ A, lt y.1 x.1 = true) → del k (A ++ x :: B) = A ++ x :: del k B
  | [], _ => by simp [del, hk, lt_asym hk]
  | (a, y) :: A, h => by
    have h1 : lt a k = true := lt_tr (h (a, y) (by simp)) hk
    simp only [List.cons_append, del, h1, lt_asym h1]
    rw [del_right hk A (fun y hy => h y (by simp [hy]))]
    simp
theorem del_here {k : ByteArray} {y : table_cell} {B : List Ent} : ∀ A : List Ent, (∀ y ∈ A, lt y.1 k = true) → del k (A ++ (k, y) :: B) = A ++ B
  | [], _ => by simp [del, lt_irr]
  | (a, y) :: A, h => by
    have h1 : lt a k = true := h (a, y) (by simp)
    simp only [List.cons_append, del, h1, lt_asym h1]
    rw [del_here A (fun y hy => h y (by simp [hy]))]
    simp
theorem del_len (k : ByteArray) : ∀ L : List Ent, (del k L).length ≤ L.length
  | [] => by simp [del]
  | (a, x) :: L => by
    have := del_len k L
    simp only [del]
    split
    · simp
    · split <;> simp <;> omega
theorem look_left {k : ByteArray} {x : Ent} {B : List Ent} (hk : lt k x.1 = true) : ∀ A : List Ent, look k (A ++ x :: B) = look k A
  | [] => by simp [look, hk]
  | (a, y) :: A => by
    simp only [List.cons_append, look]
    rw [look_left hk A]
theorem look_right {k : ByteArray} {x : Ent} {B : List Ent} (hk : lt x.1 k = true) : ∀ A : List Ent, (∀ y ∈ A, lt y.1 x.1 = true) → look k (A ++ x :: B) = look k B
  | [], _ => by simp [look, hk, lt_asym hk]
  | (a, y) :: A, h => by
    have h1 : lt a k = true := lt_tr (h (a, y) (by simp)) hk
    simp only [List.cons_append, look, h1, lt_asym h1]
    rw [look_right hk A (fun y hy => h y (by simp [hy]))]
    simp
theorem look_here {k : ByteArray} {y : table_cell} {B : List Ent} : ∀ A : List Ent, (∀ y ∈ A, lt y.1 k = true) → look k (A ++ (k, y) :: B) = some y
  | [], _ => by simp [look, lt_irr]
  | (a, y) :: A, h => by
    have h1 : lt a k = true := h (a, y) (by simp)
    simp only [List.cons_append, look, h1, lt_asym h1]
    rw [look_here A (fun y hy => h y (by simp [hy]))]
    simp
theorem look_low {k : ByteArray} : ∀ L : List Ent, (∀ y ∈ L, lt k y.1 = true) → look k L = none
  | [], _ => rfl
  | (a, y) :: L, h => by simp [look, h (a, y) (by simp)]
theorem look_ins (k : ByteArray) (v : table_cell) : ∀ L : List Ent, look k (ins k v L) = some v
  | [] => by simp [ins, look, lt_irr]
  | (a, x) :: L => by
    simp only [ins]
    split
    · simp [look, lt_irr]
    · split
      · rename_i c1 c
        simp only [look, c, lt_asym c]
        simp [look_ins k v L]
      · simp [look, lt_irr]
theorem look_ins_ne {j k : ByteArray} (v : table_cell) (hjk : j ≠ k) : ∀ L : List Ent, look j (ins k v L) = look j L
  | [] => by
    simp only [ins, look]
    split
    · rfl
    · split
      · rfl
      · rename_i c1 c2; exact absurd (lt_tri (by simpa using c1) (by simpa using c2)) hjk
  | (a, x) :: L => by
    simp only [ins]
    split
    · rename_i c
      simp only [look]
      by_cases c1 : lt j k = true
      · rw [if_pos c1, if_pos (lt_tr c1 c)]
      · rw [if_neg c1]
        by_cases c2 : lt k j = true
        · rw [if_pos c2]
        · exact absurd (lt_tri (by simpa using c1) (by simpa using c2)) hjk
    · split
      · simp only [look]; rw [look_ins_ne v hjk L]
      · rename_i c1 c2
        have he : k = a := lt_tri (by simpa using c1) (by simpa using c2)
        subst he
        simp only [look]
        by_cases d1 : lt j k = true
        · rw [if_pos d1, if_pos d1]
        · rw [if_neg d1, if_neg d1]
          by_cases d2 : lt k j = true
          · rw [if_pos d2, if_pos d2]
          · exact absurd (lt_tri (by simpa using d1) (by simpa using d2)) hjk
theorem look_del {k : ByteArray} : ∀ L : List Ent, Ord L → look k (del k L) = none
  | [], _ => rfl
  | (a, x) :: L, h => by
    have h' := h
    unfold Ord at h'
    rw [List.pairwise_cons] at h'
    simp only [del]
    split
    · rename_i c; simp [look, c]
    · split
      · rename_i c1 c
        simp only [look, c, lt_asym c]
        simp [look_del L h'.2]
      · rename_i c1 c2
        have he : k = a := lt_tri (by simpa using c1) (by simpa using c2)
        subst he
        exact look_low L h'.1
theorem look_del_ne {j k : ByteArray} (hjk : j ≠ k) : ∀ L : List Ent, Ord L → look j (del k L) = look j L
  | [], _ => rfl
  | (a, x) :: L, h => by
    have h' := h
    unfold Ord at h'
    rw [List.pairwise_cons] at h'
    simp only [del]
    split
    · rfl
    · split
      · simp only [look]; rw [look_del_ne hjk L h'.2]
      · rename_i c1 c2
        have he : k = a := lt_tri (by simpa using c1) (by simpa using c2)
        subst he
        simp only [look]
        by_cases d1 : lt j k = true
        · rw [if_pos d1]; exact look_low L (fun y hy => lt_tr d1 (h'.1 y hy))
        · rw [if_neg d1]
          by_cases d2 : lt k j = true
          · rw [if_pos d2]
          · exact absurd (lt_tri (by simpa using d1) (by simpa using d2)) hjk
theorem del_none {k : ByteArray} : ∀ L : List Ent, look k L = none → del k L = L
  | [], _ => rfl
  | (a, x) :: L, h => by
    simp only [look] at h
    simp only [del]
    split
    · rfl
    · rename_i c1
      rw [if_neg c1] at h
      split
      · rename_i c2; rw [if_pos c2] at h; rw [del_none L h]
      · rename_i c2; rw [if_neg c2] at h; cases h
theorem look_mem {k : ByteArray} {x : table_cell} : ∀ L : List Ent, look k L = some x → (k, x) ∈ L
  | [], h => by simp [look] at h
  | (a, y) :: L, h => by
    simp only [look] at h
    split at h
    · cases h
    · split at h
      · exact List.mem_cons_of_mem _ (look_mem L h)
      · rename_i c1 c2
        have he : k = a := lt_tri (by simpa using c1) (by simpa using c2)
        subst he
        cases h
        simp
theorem mem_look {k : ByteArray} {x : table_cell} : ∀ L : List Ent, Ord L → (k, x) ∈ L → look k L = some x
  | [], _, h => by simp at h
  | (a, y) :: L, ho, h => by
    unfold Ord at ho
    rw [List.pairwise_cons] at ho
    rcases List.mem_cons.1 h with h | h
    · cases h; simp [look, lt_irr]
    · have c := ho.1 _ h
      simp only [look]
      rw [if_neg (by rw [lt_asym c]; simp), if_pos c]
      exact mem_look L ho.2 h
end Go.Proofs.Ytcolmmjcdlmcoaa.G
/-! Delete, Get, the iterators on the rows in order. -/
namespace Go.Proofs.Ytcolmmjcdlmcoaa.G
open Go
set_option linter.unusedVariables false
set_option linter.unusedSimpArgs false
theorem keqb {k a : ByteArray} (h : lt a k = true) : (k.toList == a.toList) = false := by
  cases q : (k.toList == a.toList) with
  | false => rfl
  | true => have := toList_inj (eq_of_beq q); subst this; rw [lt_irr] at h; cases h
theorem look_ord_left {k : ByteArray} {A B : List Ent} {a : ByteArray} {x : table_cell} (ho : Ord (A ++ (a, x) :: B)) (h : lt k a = true) : look k (A ++ (a, x) :: B) = look k A := look_left (x := (a, x)) h A
theorem delete_eq : ∀ (n : Nat) (t : Tr) (k : ByteArray), 4 * t.list.length + 3 < n → t.WF → Ord t.list → t.list.length + 1 < big →
    ∃ u, tree_Tree_Delete.f n t k = some (u, (look k t.list).isSome) ∧ u.WF ∧ u.list = del k t.list
  | 0, _, _, h, _, _, _ => absurd h (by omega)
  | n + 1, t, k, hn, ht, ho, hb => by
    cases t with
    | nil => exact ⟨.nil, rfl, trivial, rfl⟩
    | node l r a x s d =>
      have ht' := ht
      obtain ⟨wl, wr', _, _⟩ := ht
      obtain ⟨ol, or', hA, hB⟩ := Ord.split (show Ord (l.list ++ (a, x) :: r.list) from ho)
      simp only [Tr.list, List.length_append, List.length_cons] at hn hb
      simp only [tree_Tree_Delete.f, Tr.cs, compare_eq, Option.bind_some]
      rw [if_neg (by simp [Tr.isNil])]
      cases h1 : lt k a with
      | true =>
        obtain ⟨u, eu, wu, lu⟩ := delete_eq n l k (by omega) wl ol (by omega)
        have hl : look k (l.list ++ (a, x) :: r.list) = look k l.list := look_left (x := (a, x)) h1 l.list
        have hd : del k (l.list ++ (a, x) :: r.list) = del k l.list ++ (a, x) :: r.list := del_left (x := (a, x)) h1 l.list
        show ∃ u : Tr, _ = some (u, (look k (l.list ++ (a, x) :: r.list)).isSome) ∧ u.WF ∧ u.list = del k (l.list ++ (a, x) :: r.list)
        rw [hl, hd]
        cases hs : (look k l.list).isSome with
        | false =>
          rw [hs] at eu
          refine ⟨_, ?_, ht', ?_⟩
          · simp [eu]
          · rw [del_none l.list (by simpa using hs)]; rfl
        | true =>
          rw [hs] at eu
          have hu := del_len k l.list; rw [← lu] at hu
          have g1 := u.hgt_le; have g2 := r.hgt_le
          obtain ⟨z, ez, wz, lz⟩ := join_eq n u r a x (by omega) wu wr' (by omega)
          refine ⟨z, ?_, wz, ?_⟩
          · simp [eu, ez]
          · rw [lz, lu]
      | false =>
        cases h2 : lt a k with
        | true =>
          obtain ⟨u, eu, wu, lu⟩ := delete_eq n r k (by omega) wr' or' (by omega)
          have hl : look k (l.list ++ (a, x) :: r.list) = look k r.list := look_right (x := (a, x)) h2 l.list hA
          have hd : del k (l.list ++ (a, x) :: r.list) = l.list ++ (a, x) :: del k r.list := del_right (x := (a, x)) h2 l.list hA
          show ∃ u : Tr, _ = some (u, (look k (l.list ++ (a, x) :: r.list)).isSome) ∧ u.WF ∧ u.list = del k (l.list ++ (a, x) :: r.list)
          rw [hl, hd]
          cases hs : (look k r.list).isSome with
          | false =>
            rw [hs] at eu
            refine ⟨_, ?_, ht', ?_⟩
            · simp [keqb h2, eu]
            · rw [del_none r.list (by simpa using hs)]; rfl
          | true =>
            rw [hs] at eu
            have hu := del_len k r.list; rw [← lu] at hu
            have g1 := u.hgt_le; have g2 := l.hgt_le
            obtain ⟨z, ez, wz, lz⟩ := join_eq n l u a x (by omega) wl wu (by omega)
            refine ⟨z, ?_, wz, ?_⟩
            · simp [keqb h2, eu, ez]
            · rw [lz, lu]
        | false =>
          have he := lt_tri h1 h2
          subst he
          obtain ⟨z, ez, wz, lz⟩ := both_eq n l r (by omega) wl wr' (by omega)
          refine ⟨z, ?_, wz, ?_⟩
          · show _ = some (z, (look k (l.list ++ (k, x) :: r.list)).isSome)
            rw [look_here l.list hA]; simp [ez]
          · rw [lz]; exact (del_here l.list hA).symm
theorem loop_next {S X : Type} {f : S → Option (Ctl S X)} {n : Nat} {s s' : S} (h : f s = some (.next s')) : loop f (n + 1) s = loop f n s' := by
  show (f s).bind _ = _; rw [h]; rfl
theorem loop_done {S X : Type} {f : S → Option (Ctl S X)} {n : Nat} {s : S} {x : X} (h : f s = some (.done x)) : loop f (n + 1) s = some x := by
  show (f s).bind _ = _; rw [h]; rfl
def gotQ (o : Option table_cell) : table_cell × Bool := match o with
  | some x => (x, true)
  | none => (table_cell.mk [] 0, false)
theorem get_eq : ∀ (n : Nat) (t : Tr) (k : ByteArray), t.hgt < n → Ord t.list →
    tree_Tree_Get.f n t k = some (gotQ (look k t.list)) := by
  have key : ∀ (n : Nat) (t : Tr) (k : ByteArray), t.hgt < n → Ord t.list →
    loop (tree_Tree_Get.b1 k) n t = some ((look k t.list).elim (Sum.inl ()) fun x => Sum.inr (x, true)) := by
    intro n
    induction n with
    | zero => intro t k h; omega
    | succ n ih =>
      intro t k hn ho
      cases t with
      | nil => rfl
      | node l r a x s d =>
        obtain ⟨ol, or', hA, hB⟩ := Ord.split (show Ord (l.list ++ (a, x) :: r.list) from ho)
        simp only [Tr.hgt] at hn
        simp only [Tr.list]
        cases h1 : lt k a with
        | true =>
          rw [look_left (x := (a, x)) h1 l.list, loop_next (s' := l)]
          · exact ih l k (by omega) ol
          · unfold tree_Tree_Get.b1
            rw [if_neg (by simp [Tr.isNil])]
            simp [Tr.cs, compare_eq, h1]
        | false =>
          cases h2 : lt a k with
          | true =>
            rw [look_right (x := (a, x)) h2 l.list hA, loop_next (s' := r)]
            · exact ih r k (by omega) or'
            · unfold tree_Tree_Get.b1
              rw [if_neg (by simp [Tr.isNil])]
              simp [Tr.cs, compare_eq, h1, keqb h2]
          | false =>
            have he := lt_tri h1 h2
            subst he
            rw [look_here l.list hA, loop_done (x := Sum.inr (x, true))]
            · rfl
            · unfold tree_Tree_Get.b1
              rw [if_neg (by simp [Tr.isNil])]
              simp [Tr.cs, compare_eq, h1]
  intro n t k hn ho
  unfold tree_Tree_Get.f
  show (loop (tree_Tree_Get.b1 k) n t).bind _ = _
  rw [key n t k hn ho]
  cases look k t.list <;> rfl
/-! ### iterators -/
section
variable {σ X : Type} (g : σ → ByteArray → table_cell → Option (Ctl σ X))
def foldC : List Ent → σ → Option (Ctl σ X)
  | [], s => some (.next s)
  | (k, v) :: L, s => thenC (g s k v) fun s => foldC L s
theorem thenC_assoc (y : Option (Ctl σ X)) (f h : σ → Option (Ctl σ X)) : thenC (thenC y f) h = thenC y fun s => thenC (f s) h := by
  cases y with
  | none => rfl
  | some c => cases c <;> rfl
theorem foldC_app : ∀ (A B : List Ent) (s : σ), foldC g (A ++ B) s = thenC (foldC g A s) fun s => foldC g B s
  | [], B, s => rfl
  | (k, v) :: A, B, s => by
    show thenC (g s k v) (fun s => foldC g (A ++ B) s) = thenC (thenC (g s k v) fun s => foldC g A s) fun s => foldC g B s
    rw [thenC_assoc]
    congr 1; funext s; exact foldC_app A B s
theorem up_eq : ∀ (t : Tr) (s : σ), Tr.up g t s = foldC g t.list s
  | .nil, s => rfl
  | .node l r k v _ _, s => by
    show thenC (Tr.up g l s) _ = foldC g (l.list ++ (k, v) :: r.list) s
    rw [foldC_app, up_eq l s]
    congr 1; funext s'
    show thenC _ _ = thenC _ _
    congr 1; funext s''; exact up_eq r s''
def above (key : ByteArray) (L : List Ent) : List Ent := L.filter fun e => !lt e.1 key
theorem from_eq (key : ByteArray) : ∀ (t : Tr) (s : σ), Ord t.list → Tr.from key g t s = foldC g (above key t.list) s
  | .nil, s, _ => rfl
  | .node l r k v _ _, s, ho => by
    obtain ⟨ol, or', hA, hB⟩ := Ord.split (show Ord (l.list ++ (k, v) :: r.list) from ho)
    show (cmp_Less.f k key).bind _ = foldC g (above key (l.list ++ (k, v) :: r.list)) s
    rw [less_eq, Option.bind_some]
    unfold above
    rw [List.filter_append]
    cases h : lt k key with
    | true =>
      rw [if_pos rfl, from_eq key r s or']
      have e1 : l.list.filter (fun e => !lt e.1 key) = [] := by
        rw [List.filter_eq_nil_iff]
        intro a ha
        simp [lt_tr (hA a ha) h]
      rw [e1, List.filter_cons, if_neg (by simp [h])]
      rfl
    | false =>
      rw [if_neg (by simp), List.filter_cons, if_pos (by simp [h])]
      have e2 : r.list.filter (fun e => !lt e.1 key) = r.list := by
        rw [List.filter_eq_self]
        intro a ha
        have := hB a ha
        simp only [Bool.not_eq_true']
        cases q : lt a.1 key with
        | false => rfl
        | true => rw [lt_tr this q] at h; cases h
      rw [e2, foldC_app, from_eq key l s ol]
      congr 1; funext s'
      show thenC _ _ = thenC _ _
      congr 1; funext s''; exact up_eq g r s''
end
def seekQ (L : List Ent) : ByteArray × table_cell × Bool := match L with
  | [] => (.empty, table_cell.mk [] 0, false)
  | (k, v) :: _ => (k, v, true)
theorem seek_eq (t : Tr) (key : ByteArray) (ho : Ord t.list) :
    tree_Tree_Seek.f t key = some (seekQ (above key t.list)) := by
  unfold tree_Tree_Seek.f
  show (some (It.from t key)).bind _ = _
  rw [Option.bind_some]
  show (Tr.from key _ t ()).bind _ = _
  rw [from_eq _ key t () ho]
  cases above key t.list with
  | nil => rfl
  | cons e L => rfl
end Go.Proofs.Ytcolmmjcdlmcoaa.G
/-! The table: what an op answers and leaves. -/
namespace Go.Proofs.Ytcolmmjcdlmcoaa.G
open Go
set_option linter.unusedVariables false
set_option linter.unusedSimpArgs false
abbrev Fuel (k : Nat) : Prop := 1099511627776 ≤ k
theorem bind_eq {α β : Type} {x : Option α} {f : α → Option β} {a : α} (h : x = some a) : x.bind f = f a := by rw [h]; rfl
theorem shr7 (n : Nat) : shr .i64 (n : Int) 7 = ((n / 128 : Nat) : Int) := by
  unfold shr
  have : (2 : Int) ^ (min (7 : Int).toNat IntKind.i64.bits) = 128 := by decide
  rw [this, Int.fdiv_eq_ediv_of_nonneg _ (by omega)]
  omega
theorem shr7u (n : Nat) : shr .u64 (n : Int) 7 = ((n / 128 : Nat) : Int) := by
  unfold shr
  have : (2 : Int) ^ (min (7 : Int).toNat IntKind.u64.bits) = 128 := by decide
  rw [this, Int.fdiv_eq_ediv_of_nonneg _ (by omega)]
  omega
def nmF : Nat → Nat → Nat
  | 0, _ => 0
  | f + 1, n => if n ≤ 127 then 0 else nmF f (n / 128) + 1
def nm (n : Nat) : Nat := 1 + nmF 9 n
theorem nmF_le : ∀ f n, nmF f n ≤ f
  | 0, _ => Nat.le_refl _
  | f + 1, n => by
    have := nmF_le f (n / 128)
    unfold nmF; split <;> omega
theorem num_loop : ∀ (f n s k : Nat), n < 128 ^ f → f < k → s + f < 1000 → loop (fun (s_ : Int × Int) => table_num.b1 s_.1 s_.2) k ((n : Int), (s : Int)) = some ((s + nmF f n : Nat) : Int)
  | _, _, _, 0, _, h, _ => absurd h (by omega)
  | 0, n, s, k + 1, h, _, _ => by
    have : n = 0 := by simpa using h
    subst this
    rw [loop_done (x := (s : Int))]
    · simp [nmF]
    · simp [table_num.b1]
  | f + 1, n, s, k + 1, h, hk, hs => by
    by_cases c : n ≤ 127
    · rw [loop_done (x := (s : Int))]
      · simp [nmF, c]
      · unfold table_num.b1; rw [if_neg (by omega)]
    · have hd : n / 128 < 128 ^ f := by rw [Nat.pow_succ] at h; omega
      rw [loop_next (s' := (((n / 128 : Nat) : Int), ((s + 1 : Nat) : Int)))]
      · rw [num_loop f (n / 128) (s + 1) k hd (by omega) (by omega)]
        simp only [nmF, if_neg c]; congr 2; omega
      · unfold table_num.b1
        rw [if_pos (by omega), shr7, wr (by omega) (by omega)]
        congr 3
theorem num_eq {k n : Nat} (hk : Fuel k) (hn : n < 9223372036854775808) : table_num.f k (n : Int) = some (nm n : Int) := by
  unfold table_num.f
  rw [show ((n : Int), (1 : Int)) = ((n : Int), ((1 : Nat) : Int)) from rfl, bind_eq (num_loop 9 n 1 k (by omega) (by omega) (by omega))]
  rfl
/-! ### rows -/
def lg (k : ByteArray) (c : table_cell) : Int := nm k.size + k.size + nm c.value.length + c.value.length + nm c.rev.toNat
def sz (L : List Ent) : Int := (L.map fun e => lg e.1 e.2).sum
structure Inv (L : List Ent) (r : Nat) : Prop where
  ord : Ord L
  len : L.length ≤ r
  ent : ∀ e ∈ L, 1 ≤ e.1.size ∧ e.1.size ≤ 64 ∧ e.2.value.length ≤ 256 ∧ 1 ≤ e.2.rev ∧ e.2.rev ≤ r
theorem nm_le (n : Nat) : 1 ≤ nm n ∧ nm n ≤ 10 := by have := nmF_le 9 n; unfold nm; omega
theorem lg_le {k : ByteArray} {c : table_cell} (h1 : k.size ≤ 64) (h2 : c.value.length ≤ 256) : 0 ≤ lg k c ∧ lg k c ≤ 400 := by
  have := nm_le k.size; have := nm_le c.value.length; have := nm_le c.rev.toNat
  unfold lg; omega
theorem sz_le : ∀ {L : List Ent} {r : Nat}, (∀ e ∈ L, 1 ≤ e.1.size ∧ e.1.size ≤ 64 ∧ e.2.value.length ≤ 256 ∧ 1 ≤ e.2.rev ∧ e.2.rev ≤ (r : Int)) → 0 ≤ sz L ∧ sz L ≤ 400 * L.length
  | [], _, _ => by simp [sz]
  | e :: L, r, h => by
    have h1 := sz_le (L := L) (r := r) (fun x hx => h x (by simp [hx]))
    have h2 := h e (by simp)
    have h3 := lg_le h2.2.1 h2.2.2.1
    simp only [sz, List.map_cons, List.sum_cons, List.length_cons] at h1 ⊢
    omega
theorem long_eq {k : Nat} (hk : Fuel k) {key : ByteArray} {c : table_cell} (h1 : key.size ≤ 64) (h2 : c.value.length ≤ 256) (h3 : 0 ≤ c.rev) (h4 : c.rev ≤ 1099511627776) : table_long.f k key c = some (lg key c) := by
  have e3 : (c.rev : Int) = ((c.rev.toNat : Nat) : Int) := by omega
  have := nm_le key.size; have := nm_le c.value.length; have := nm_le c.rev.toNat
  unfold table_long.f
  rw [bind_eq (num_eq hk (n := key.size) (by omega)), bind_eq (num_eq hk (n := c.value.length) (by omega)), e3, bind_eq (num_eq hk (n := c.rev.toNat) (by omega))]
  rw [wr (n := (nm key.size : Int) + key.size) (by omega) (by omega), wr (n := (nm key.size : Int) + key.size + nm c.value.length) (by omega) (by omega), wr (n := (nm key.size : Int) + key.size + nm c.value.length + c.value.length) (by omega) (by omega), wr (by omega) (by omega)]
  rfl
theorem sz_cons (e : Ent) (L : List Ent) : sz (e :: L) = lg e.1 e.2 + sz L := by simp [sz]
theorem sz_ins (k : ByteArray) (v : table_cell) : ∀ L : List Ent, sz (ins k v L) = sz L + lg k v - (look k L).elim 0 (fun o => lg k o)
  | [] => by simp [ins, look, sz]
  | (a, x) :: L => by
    simp only [ins, look]
    split
    · simp only [sz_cons, Option.elim]; omega
    · split
      · rw [sz_cons, sz_cons, sz_ins k v L]; omega
      · rename_i c1 c2
        have he : k = a := lt_tri (by simpa using c1) (by simpa using c2)
        subst he
        simp only [sz_cons, Option.elim]; omega
theorem sz_del (k : ByteArray) : ∀ L : List Ent, sz (del k L) = sz L - (look k L).elim 0 (fun o => lg k o)
  | [] => by simp [del, look, sz]
  | (a, x) :: L => by
    simp only [del, look]
    split
    · simp only [Option.elim]; omega
    · split
      · rw [sz_cons, sz_cons, sz_del k L]; omega
      · rename_i c1 c2
        have he : k = a := lt_tri (by simpa using c1) (by simpa using c2)
        subst he
        simp only [sz_cons, Option.elim]; omega
theorem Inv.look {L : List Ent} {r : Nat} (h : Inv L r) {k : ByteArray} {c : table_cell} (hl : look k L = some c) : 1 ≤ k.size ∧ k.size ≤ 64 ∧ c.value.length ≤ 256 ∧ 1 ≤ c.rev ∧ c.rev ≤ r := h.ent _ (look_mem L hl)
theorem Inv.ins {L : List Ent} {r : Nat} (h : Inv L r) {k : ByteArray} {v : List Int} (h1 : 1 ≤ k.size) (h2 : k.size ≤ 64) (h3 : v.length ≤ 256) : Inv (ins k ⟨v, r + 1⟩ L) (r + 1) := by
  refine ⟨ins_ord L h.ord, ?_, fun e he => ?_⟩
  · have := ins_len k ⟨v, r + 1⟩ L; have := h.len; omega
  · rcases mem_ins L he with rfl | he
    · exact ⟨h1, h2, h3, by show (1 : Int) ≤ (r : Int) + 1; omega, by show (r : Int) + 1 ≤ ((r + 1 : Nat) : Int); omega⟩
    · have := h.ent e he; refine ⟨this.1, this.2.1, this.2.2.1, this.2.2.2.1, ?_⟩; have := this.2.2.2.2; omega
theorem Inv.del {L : List Ent} {r : Nat} (h : Inv L r) (k : ByteArray) : Inv (del k L) (r + 1) := by
  refine ⟨del_ord L h.ord, ?_, fun e he => ?_⟩
  · have := del_len k L; have := h.len; omega
  · have := h.ent e (mem_del L he); refine ⟨this.1, this.2.1, this.2.2.1, this.2.2.2.1, ?_⟩; have := this.2.2.2.2; omega
theorem Inv.up {L : List Ent} {r : Nat} (h : Inv L r) : Inv L (r + 1) := by
  refine ⟨h.ord, by have := h.len; omega, fun e he => ?_⟩
  have := h.ent e he; refine ⟨this.1, this.2.1, this.2.2.1, this.2.2.2.1, ?_⟩; have := this.2.2.2.2; omega
/-- a table's words -/
def Rep (t : Option Tab) (L : List Ent) (r : Nat) : Prop := ∃ rows, t = some ⟨rows, r, sz L⟩ ∧ rows.WF ∧ rows.list = L ∧ Inv L r
def told (r : Int) (k : ByteArray) (o : Option table_cell) : api_Answer := match o with
  | some c => ⟨true, sb k, c.value, c.rev, r⟩
  | none => ⟨false, [], [], 0, r⟩
def zeroA : api_Answer := ⟨false, [], [], 0, 0⟩
def keyok (o : api_Op) : Bool := decide (0 < o.Key.length) && decide (o.Key.length ≤ 64)
def right (o : api_Op) : Bool :=
  if o.Kind = 4 then keyok o && decide (o.Value.length ≤ 256) && decide (0 ≤ o.Rev) && decide (o.Rev ≤ 1099511627776)
  else if o.Kind = 2 then keyok o && decide (o.Value.length ≤ 256) && decide (o.Rev = 0)
  else if o.Kind = 5 then decide (o.Key.length ≤ 65) && decide (o.Value.length = 0) && decide (o.Rev = 0)
  else if o.Kind = 1 ∨ o.Kind = 3 then keyok o && decide (o.Value.length = 0) && decide (o.Rev = 0)
  else false
theorem j4_eq (a b c : Bool) : table_Right.j4 a b c = some (a && b && c) := by cases a <;> cases b <;> cases c <;> rfl
theorem natlen {n m : Nat} : decide ((n : Int) ≤ (m : Int)) = decide (n ≤ m) := by simp
theorem right_eq (o : api_Op) : table_Right.f o = some (right o) := by
  have hk : ∀ b, (if 0 < (o.Key.length : Int) then table_Right.j1 o (decide ((o.Key.length : Int) ≤ 64)) else table_Right.j1 o false) = some b ↔ table_Right.j1 o (keyok o) = some b := by
    intro b
    unfold keyok
    by_cases h : 0 < o.Key.length
    · rw [if_pos (by omega), decide_eq_true h, Bool.true_and]
      have : decide ((o.Key.length : Int) ≤ 64) = decide (o.Key.length ≤ 64) := by apply decide_eq_decide.2; omega
      rw [this]
    · rw [if_neg (by omega), decide_eq_false h, Bool.false_and]
  unfold table_Right.f
  rw [hk]
  have v1 : decide ((o.Value.length : Int) ≤ 256) = decide (o.Value.length ≤ 256) := by apply decide_eq_decide.2; omega
  have v2 : decide ((o.Value.length : Int) = 0) = decide (o.Value.length = 0) := by apply decide_eq_decide.2; omega
  have v3 : decide ((o.Key.length : Int) ≤ 65) = decide (o.Key.length ≤ 65) := by apply decide_eq_decide.2; omega
  unfold table_Right.j1 table_Right.j2 table_Right.j3 right
  simp only [j4_eq, v1, v2, v3]
  by_cases c4 : o.Kind = 4
  · simp only [c4, if_true]
    by_cases c : 0 ≤ o.Rev
    · simp [c]
    · simp [c]
  · simp only [c4, if_false]
    by_cases c2 : o.Kind = 2
    · simp only [c2, if_true]
    · simp only [c2, if_false]
      by_cases c5 : o.Kind = 5
      · simp only [c5, if_true]
      · simp only [c5, if_false]
        by_cases c1 : o.Kind = 1
        · simp [c1]
        · by_cases c3 : o.Kind = 3
          · simp [c3]
          · simp [c1, c3]
def isW (o : api_Op) : Bool := decide (o.Kind = 2) || decide (o.Kind = 3) || decide (o.Kind = 4)
theorem writes_eq (o : api_Op) : table_writes.f o = some (isW o) := by
  unfold table_writes.f isW
  by_cases c2 : o.Kind = 2
  · simp [c2]
  · by_cases c3 : o.Kind = 3
    · simp [c3]
    · simp [c2, c3]
theorem writes_eq' (o : api_Op) : haulagelaw13_writes.f o = some (isW o) := writes_eq o
theorem bs_size (l : List Int) : (bs l).size = l.length := by simp [bs, ByteArray.size]
theorem right_key {o : api_Op} (h : right o = true) : o.Key.length ≤ 65 ∧ o.Value.length ≤ 256 ∧ (o.Kind ≠ 5 → 1 ≤ o.Key.length ∧ o.Key.length ≤ 64) ∧ (o.Kind = 1 ∨ o.Kind = 2 ∨ o.Kind = 3 ∨ o.Kind = 4 ∨ o.Kind = 5) := by
  unfold right keyok at h
  split at h
  · simp only [Bool.and_eq_true, decide_eq_true_eq] at h; omega
  · split at h
    · simp only [Bool.and_eq_true, decide_eq_true_eq] at h; omega
    · split at h
      · simp only [Bool.and_eq_true, decide_eq_true_eq] at h; omega
      · split at h
        · simp only [Bool.and_eq_true, decide_eq_true_eq] at h; omega
        · cases h
end Go.Proofs.Ytcolmmjcdlmcoaa.G
/-! The table: an op. -/
namespace Go.Proofs.Ytcolmmjcdlmcoaa.G
open Go
set_option linter.unusedVariables false
set_option linter.unusedSimpArgs false
theorem told_some {rows : Tr} {r z : Int} {k : ByteArray} {c : table_cell} (h1 : k.size ≤ 1000) (h2 : c.value.length ≤ 1000) : table_Table_told.f (some ⟨rows, r, z⟩) k c true = some (told r k (some c)) := by
  unfold table_Table_told.f bytes_Clone.f
  simp only [Option.bind_some, if_true]
  rw [if_pos (by omega), if_pos (by omega)]
  rfl
theorem told_none {rows : Tr} {r z : Int} {k : ByteArray} {c : table_cell} : table_Table_told.f (some ⟨rows, r, z⟩) k c false = some (told r k none) := by
  unfold table_Table_told.f
  simp [told]
theorem told_look {rows : Tr} {r z : Int} {k : ByteArray} {L : List Ent} {n : Nat} (hI : Inv L n) :
    table_Table_told.f (some ⟨rows, r, z⟩) k (gotQ (look k L)).1 (gotQ (look k L)).2 = some (told r k (look k L)) := by
  cases h : look k L with
  | none => exact told_none
  | some c => have := hI.look h; exact told_some (k := k) (c := c) (by omega) (by omega)
/-- of a row: its key and its value are short, its revision is no less than nought -/
def okE (e : Ent) : Prop := e.1.size ≤ 64 ∧ e.2.value.length ≤ 256 ∧ 0 ≤ e.2.rev ∧ e.2.rev ≤ 1099511627776
theorem sz_ok : ∀ {L : List Ent}, (∀ e ∈ L, okE e) → 0 ≤ sz L ∧ sz L ≤ 400 * L.length
  | [], _ => by simp [sz]
  | e :: L, h => by
    have h1 := sz_ok (L := L) (fun x hx => h x (by simp [hx]))
    have h2 := h e (by simp)
    have h3 := lg_le h2.1 h2.2.1
    simp only [sz, List.map_cons, List.sum_cons, List.length_cons] at h1 ⊢
    omega
theorem set_put0 {k : Nat} (hk : Fuel k) {rows : Tr} {L : List Ent} {R : Int} (hlen : L.length < 10000000000) (hw : rows.WF) (hl : rows.list = L) (ho : Ord L) (hE : ∀ e ∈ L, okE e) {key : ByteArray} {c : table_cell} (hc : okE (key, c)) :
    ∃ u, table_Table_set.f k (some ⟨rows, R, sz L⟩) key c true = some (some ⟨u, R, sz (ins key c L)⟩) ∧ u.WF ∧ u.list = ins key c L := by
  subst hl
  have hh := rows.hgt_le
  obtain ⟨u, eu, wu, lu⟩ := put_eq k rows key c (by have : 1099511627776 ≤ k := hk; omega) hw ho (by unfold big; omega)
  have hsz := sz_ok hE
  have hlg := lg_le (k := key) (c := c) hc.1 hc.2.1
  have hlk : 0 ≤ (look key rows.list).elim 0 (fun o => lg key o) ∧ (look key rows.list).elim 0 (fun o => lg key o) ≤ 400 := by
    cases h : look key rows.list with
    | none => simp
    | some x => have := hE _ (look_mem _ h); exact lg_le (k := key) (c := x) this.1 this.2.1
  have hput : table_Table_set.j1 k key c true ⟨rows, R, sz rows.list⟩ (sz rows.list - (look key rows.list).elim 0 (fun o => lg key o)) = some (some ⟨u, R, sz (ins key c rows.list)⟩) := by
    unfold table_Table_set.j1
    rw [if_pos rfl, bind_eq eu, bind_eq (long_eq hk (key := key) (c := c) hc.1 hc.2.1 hc.2.2.1 hc.2.2.2)]
    rw [sz_ins]
    rw [wr (by omega) (by omega)]
    simp only [Option.some.injEq, Tab.mk.injEq, true_and]; omega
  refine ⟨u, ?_, wu, lu⟩
  unfold table_Table_set.f
  simp only [Option.bind_some]
  rw [bind_eq (get_eq k rows key (by have : 1099511627776 ≤ k := hk; omega) ho)]
  cases h : look key rows.list with
  | none =>
    rw [h] at hput
    simp only [Option.elim, Int.sub_zero] at hput
    rw [if_neg (by simp [gotQ])]
    exact hput
  | some x =>
    have hx := hE _ (look_mem _ h)
    rw [h] at hput
    simp only [Option.elim] at hput
    have hL : table_long.f k key (gotQ (some x)).1 = some (lg key x) := long_eq hk (c := x) hx.1 hx.2.1 hx.2.2.1 hx.2.2.2
    rw [if_pos (show (gotQ (some x)).2 = true from rfl), bind_eq hL]
    have := lg_le (k := key) (c := x) hx.1 hx.2.1
    rw [wr (by omega) (by omega)]
    exact hput
theorem set_put {k : Nat} (hk : Fuel k) {rows : Tr} {L : List Ent} {r : Nat} (hr : r < 4194304) (hw : rows.WF) (hl : rows.list = L) (hI : Inv L r) {key : ByteArray} {v : List Int} (h1 : 1 ≤ key.size) (h2 : key.size ≤ 64) (h3 : v.length ≤ 256) :
    ∃ t, table_Table_set.f k (some ⟨rows, r + 1, sz L⟩) key ⟨v, r + 1⟩ true = some t ∧ Rep t (ins key ⟨v, r + 1⟩ L) (r + 1) := by
  obtain ⟨u, e, wu, lu⟩ := set_put0 hk (R := (r : Int) + 1) (Nat.lt_trans (Nat.lt_of_le_of_lt hI.len hr) (by omega)) hw hl hI.ord (fun e he => by have := hI.ent e he; exact ⟨this.2.1, this.2.2.1, by omega, by omega⟩) (key := key) (c := ⟨v, (r : Int) + 1⟩) ⟨h2, h3, by show (0 : Int) ≤ (r : Int) + 1; omega, by show (r : Int) + 1 ≤ _; omega⟩
  exact ⟨_, e, u, rfl, wu, lu, hI.ins h1 h2 h3⟩
theorem set_del {k : Nat} (hk : Fuel k) {rows : Tr} {L : List Ent} {r : Nat} (hr : r < 4194304) (hw : rows.WF) (hl : rows.list = L) (hI : Inv L r) {key : ByteArray} {c0 : table_cell} :
    ∃ t, table_Table_set.f k (some ⟨rows, r + 1, sz L⟩) key c0 false = some t ∧ Rep t (del key L) (r + 1) := by
  subst hl
  have hlen := hI.len
  have hh := rows.hgt_le
  obtain ⟨u, eu, wu, lu⟩ := delete_eq k rows key (by have : 1099511627776 ≤ k := hk; omega) hw hI.ord (by unfold big; omega)
  have hsz := sz_le hI.ent
  have hput : table_Table_set.j1 k key c0 false ⟨rows, r + 1, sz rows.list⟩ (sz rows.list - (look key rows.list).elim 0 (fun o => lg key o)) = some (some ⟨u, r + 1, sz (del key rows.list)⟩) := by
    unfold table_Table_set.j1
    rw [if_neg (by simp), bind_eq eu, sz_del]
  refine ⟨_, ?_, u, rfl, wu, lu, hI.del key⟩
  unfold table_Table_set.f
  simp only [Option.bind_some]
  rw [bind_eq (get_eq k rows key (by have : 1099511627776 ≤ k := hk; omega) hI.ord)]
  rw [show ((r + 1 : Nat) : Int) = (r : Int) + 1 by omega]
  cases h : look key rows.list with
  | none =>
    rw [h] at hput
    simp only [Option.elim, Int.sub_zero] at hput
    rw [if_neg (by simp [gotQ])]
    exact hput
  | some c =>
    have hc := hI.look h
    rw [h] at hput
    simp only [Option.elim] at hput
    have hL : table_long.f k key (gotQ (some c)).1 = some (lg key c) := long_eq hk (c := c) hc.2.1 hc.2.2.1 (by omega) (by omega)
    rw [if_pos (show (gotQ (some c)).2 = true from rfl), bind_eq hL]
    have := lg_le hc.2.1 hc.2.2.1
    rw [wr (by omega) (by omega)]
    exact hput
/-- an op's answer, errno, and what it leaves -/
def act (L : List Ent) (r : Nat) (o : api_Op) : api_Answer × Int × List Ent × Nat :=
  if right o = false then (zeroA, 131, L, r)
  else if o.Kind = 5 then ((match above (bs o.Key) L with | [] => told r .empty none | (k, v) :: _ => told r k (some v)), 0, L, r)
  else if o.Kind = 1 then (told r (bs o.Key) (look (bs o.Key) L), 0, L, r)
  else if o.Kind = 3 then (told ((r : Int) + 1) (bs o.Key) (look (bs o.Key) L), 0, del (bs o.Key) L, r + 1)
  else if o.Kind = 2 ∨ (look (bs o.Key) L).elim 0 (fun c => c.rev) = o.Rev then ({ told ((r : Int) + 1) (bs o.Key) (look (bs o.Key) L) with Done := true }, 0, ins (bs o.Key) ⟨o.Value, r + 1⟩ L, r + 1)
  else ({ told ((r : Int) + 1) (bs o.Key) (look (bs o.Key) L) with Done := false }, 0, L, r + 1)
theorem above_mem {key : ByteArray} {L : List Ent} {e : Ent} {M : List Ent} (h : above key L = e :: M) : e ∈ L := by
  have : e ∈ above key L := by rw [h]; simp
  exact (List.mem_filter.1 this).1
theorem do_eq {k : Nat} (hk : Fuel k) {t : Option Tab} {L : List Ent} {r : Nat} (hr : r < 4194304) (hT : Rep t L r) (o : api_Op) :
    ∃ t', table_Table_Do.f k t o = some ((act L r o).1, (act L r o).2.1, t') ∧ Rep t' (act L r o).2.2.1 (act L r o).2.2.2 := by
  obtain ⟨rows, rfl, hw, hl, hI⟩ := hT
  subst hl
  have hT : Rep (some ⟨rows, r, sz rows.list⟩) rows.list r := ⟨rows, rfl, hw, rfl, hI⟩
  have hlen := hI.len
  have hh := rows.hgt_le
  have h24 : 1099511627776 ≤ k := hk
  unfold table_Table_Do.f act
  rw [if_neg (by simp), bind_eq (right_eq o)]
  cases hR : right o with
  | false => exact ⟨_, rfl, hT⟩
  | true =>
    obtain ⟨k1, k2, k3, k4⟩ := right_key hR
    rw [if_pos rfl, if_neg (show ¬ (true = false) by simp)]
    by_cases c5 : o.Kind = 5
    · rw [if_pos c5, if_pos c5]
      simp only [Option.bind_some]
      rw [bind_eq (seek_eq rows (bs o.Key) hI.ord)]
      unfold table_Table_Do.j1
      cases hA : above (bs o.Key) rows.list with
      | nil =>
        refine ⟨_, ?_, hT⟩
        rw [bind_eq (show table_Table_told.f (some ⟨rows, r, sz rows.list⟩) (seekQ []).1 (seekQ []).2.1 (seekQ []).2.2 = _ from told_none)]; rfl
      | cons e M =>
        have := hI.ent e (above_mem hA)
        refine ⟨_, ?_, hT⟩
        rw [bind_eq (show table_Table_told.f (some ⟨rows, r, sz rows.list⟩) (seekQ (e :: M)).1 (seekQ (e :: M)).2.1 (seekQ (e :: M)).2.2 = _ from told_some (k := e.1) (c := e.2) (by omega) (by omega))]
    · rw [if_neg c5, if_neg c5]
      have k3' := k3 c5
      simp only [Option.bind_some]
      rw [bind_eq (get_eq k rows (bs o.Key) (by omega) hI.ord), bind_eq (writes_eq o)]
      by_cases c1 : o.Kind = 1
      · rw [if_pos c1, if_neg (by simp [isW, c1])]
        refine ⟨_, ?_, hT⟩
        rw [bind_eq (told_look hI)]
      · have hiw : isW o = true := by unfold isW; simp; omega
        rw [if_neg c1, if_pos hiw, if_neg (by show ¬ ((r : Int) = _); omega)]
        rw [wr (n := (r : Int) + 1) (by omega) (by omega), bind_eq (told_look hI)]
        have hcl : bytes_Clone.f o.Value = some o.Value := by unfold bytes_Clone.f; rw [if_pos (by omega)]
        rw [bind_eq hcl]
        unfold table_Table_Do.j2
        rw [wr (n := (r : Int) + 1) (by omega) (by omega)]
        by_cases c3 : o.Kind = 3
        · rw [if_pos c3, if_pos c3]
          obtain ⟨t', e', R'⟩ := set_del hk (c0 := ⟨o.Value, (r : Int) + 1⟩) (key := bs o.Key) hr hw rfl hI
          exact ⟨t', by rw [bind_eq e'], R'⟩
        · rw [if_neg c3, if_neg c3]
          obtain ⟨t', e', R'⟩ := set_put hk (key := bs o.Key) (v := o.Value) hr hw rfl hI (by rw [bs_size]; omega) (by rw [bs_size]; omega) k2
          have hj : ∀ b, table_Table_Do.j3 k o ⟨rows, r, sz rows.list⟩ (told ((r : Int) + 1) (bs o.Key) (look (bs o.Key) rows.list)) o.Value b = if b = true then some ({ told ((r : Int) + 1) (bs o.Key) (look (bs o.Key) rows.list) with Done := true }, 0, t') else some ({ told ((r : Int) + 1) (bs o.Key) (look (bs o.Key) rows.list) with Done := false }, 0, some ⟨rows, r + 1, sz rows.list⟩) := by
            intro b
            unfold table_Table_Do.j3
            rw [wr (n := (r : Int) + 1) (by omega) (by omega)]
            cases b with
            | true => rw [if_pos rfl, if_pos rfl, bind_eq e']
            | false => rw [if_neg (by simp), if_neg (by simp)]
          have hold : (gotQ (look (bs o.Key) rows.list)).1.rev = (look (bs o.Key) rows.list).elim 0 (fun c => c.rev) := by
            cases look (bs o.Key) rows.list <;> rfl
          by_cases c2 : o.Kind = 2
          · rw [if_pos c2, if_pos (Or.inl c2), hj, if_pos rfl]
            exact ⟨t', rfl, R'⟩
          · rw [if_neg c2, hj, hold]
            by_cases c : (look (bs o.Key) rows.list).elim 0 (fun c => c.rev) = o.Rev
            · rw [if_pos (Or.inr c), if_pos (by simp [c])]
              exact ⟨t', rfl, R'⟩
            · rw [if_neg (show ¬ (o.Kind = 2 ∨ (look (bs o.Key) rows.list).elim 0 (fun c => c.rev) = o.Rev) from fun h => h.elim c2 c), if_neg (by simp [c])]
              exact ⟨_, rfl, rows, by simp, hw, rfl, hI.up⟩
theorem act_r (L : List Ent) (r : Nat) (o : api_Op) : (act L r o).2.2.2 = r ∨ (act L r o).2.2.2 = r + 1 := by
  unfold act
  repeat' split
  all_goals simp
theorem new_rep : ∃ t, table_New.f = some t ∧ Rep t [] 0 := ⟨_, rfl, .nil, rfl, trivial, rfl, ⟨List.Pairwise.nil, Nat.le_refl _, fun e he => by cases he⟩⟩
end Go.Proofs.Ytcolmmjcdlmcoaa.G
/-! Ops one behind the other; comparisons; the form. -/
namespace Go.Proofs.Ytcolmmjcdlmcoaa.G
open Go
set_option linter.unusedVariables false
set_option linter.unusedSimpArgs false
theorem rd_eq {α : Type} [Inhabited α] {xs : List α} {i : Nat} (h : i < xs.length) : rd xs (i : Int) = xs[i] := by
  unfold rd
  rw [Int.toNat_natCast, List.getD_eq_getElem?_getD, List.getElem?_eq_getElem h]
  rfl
theorem take_one {α : Type} {xs : List α} {i : Nat} (h : i < xs.length) : xs.take (i + 1) = xs.take i ++ [xs[i]] := by
  rw [List.take_add_one, List.getElem?_eq_getElem h]; rfl
theorem wrS (i : Nat) (h : i < 1000000000000) : IntKind.i64.wrap ((i : Int) + 1) = ((i + 1 : Nat) : Int) := by rw [wr (by omega) (by omega)]; omega
abbrev St := List Ent × Nat
def stepS (s : St) (o : api_Op) : St := (act s.1 s.2 o).2.2
def run (s : St) (ops : List api_Op) : St := ops.foldl stepS s
theorem run_snoc (s : St) (ops : List api_Op) (o : api_Op) : run s (ops ++ [o]) = stepS (run s ops) o := by simp [run]
theorem run_app (s : St) (a b : List api_Op) : run s (a ++ b) = run (run s a) b := by simp [run]
theorem step_r (s : St) (o : api_Op) : (stepS s o).2 = s.2 ∨ (stepS s o).2 = s.2 + 1 := act_r s.1 s.2 o
theorem run_r : ∀ (ops : List api_Op) (s : St), (run s ops).2 ≤ s.2 + ops.length
  | [], s => Nat.le_refl _
  | o :: ops, s => by
    have h1 := run_r ops (stepS s o)
    have h2 := step_r s o
    show (run (stepS s o) ops).2 ≤ _
    rw [List.length_cons]; omega
abbrev RepS (t : Option Tab) (s : St) : Prop := Rep t s.1 s.2
theorem do_step {k : Nat} (hk : Fuel k) {t : Option Tab} {s : St} (hr : s.2 < 4194304) (hT : RepS t s) (o : api_Op) :
    ∃ t', table_Table_Do.f k t o = some ((act s.1 s.2 o).1, (act s.1 s.2 o).2.1, t') ∧ RepS t' (stepS s o) := do_eq hk hr hT o
theorem made_loop {k : Nat} (hk : Fuel k) (ops : List api_Op) (hn : ops.length < 4000000) : ∀ (n i m : Nat) (t : Option Tab), i + n = ops.length → n < m → RepS t (run ([], 0) (ops.take i)) →
    ∃ t', loop (fun (s_ : (Option Tab) × Int) => haulagelaw13_made.b1 k ops s_.1 s_.2) m (t, (i : Int)) = some t' ∧ RepS t' (run ([], 0) ops)
  | _, _, 0, _, _, h, _ => absurd h (by omega)
  | 0, i, m + 1, t, h, _, hT => by
    refine ⟨t, loop_done ?_, ?_⟩
    · unfold haulagelaw13_made.b1; rw [if_neg (by simp only; omega)]
    · rw [List.take_of_length_le (by omega)] at hT; exact hT
  | n + 1, i, m + 1, t, h, hm, hT => by
    have hi : i < ops.length := by omega
    have hr := run_r (ops.take i) ([], 0)
    rw [List.length_take] at hr
    obtain ⟨t1, e1, R1⟩ := do_step hk (by simp only at hr; omega) hT ops[i]
    obtain ⟨t', e', R'⟩ := made_loop hk ops hn n (i + 1) m t1 (by omega) (by omega) (by rw [take_one hi, run_snoc]; exact R1)
    refine ⟨t', ?_, R'⟩
    rw [loop_next (s' := (t1, ((i + 1 : Nat) : Int)))]
    · exact e'
    · unfold haulagelaw13_made.b1
      rw [if_pos (by simp only; omega), if_pos (by simp only; omega), rd_eq hi, bind_eq e1, wrS i (by omega)]
theorem made_eq {k : Nat} (hk : Fuel k) (ops : List api_Op) (hn : ops.length < 4000000) : ∃ t, haulagelaw13_made.f k ops = some t ∧ RepS t (run ([], 0) ops) := by
  obtain ⟨t, e, R⟩ := new_rep
  obtain ⟨t', e', R'⟩ := made_loop hk ops hn ops.length 0 k t (by omega) (by have : 1099511627776 ≤ k := hk; omega) R
  refine ⟨t', ?_, R'⟩
  unfold haulagelaw13_made.f
  rw [bind_eq e, show ((t, (0 : Int)) : Option Tab × Int) = (t, ((0 : Nat) : Int)) from rfl, bind_eq e']
  rfl
theorem same_loop (a b : List Int) (hl : a.length = b.length) : ∀ (n i m : Nat), i + n = a.length → n < m → a.length < 4000000000 →
    loop (fun (s_ : Int) => haulagelaw13_same.b1 a b s_) m (i : Int) = some (if a.drop i = b.drop i then Sum.inl () else Sum.inr false)
  | _, _, 0, _, h, _ => absurd h (by omega)
  | 0, i, m + 1, h, _, _ => by
    refine loop_done ?_
    unfold haulagelaw13_same.b1
    rw [if_neg (by omega), if_pos]
    rw [List.drop_of_length_le (by omega), List.drop_of_length_le (by omega)]
  | n + 1, i, m + 1, h, hm, hb => by
    have hi : i < a.length := by omega
    have hj : i < b.length := by omega
    rw [List.drop_eq_getElem_cons hi, List.drop_eq_getElem_cons hj]
    by_cases c : a[i] = b[i]
    · rw [loop_next (s' := ((i + 1 : Nat) : Int)), same_loop a b hl n (i + 1) m (by omega) (by omega) hb]
      · simp only [c, List.cons.injEq, true_and]
      · unfold haulagelaw13_same.b1
        rw [if_pos (by omega), if_pos (by omega), if_pos (by omega), rd_eq hi, rd_eq hj, if_pos c, wrS i (by omega)]
    · rw [if_neg (by simp only [List.cons.injEq, c, false_and, not_false_eq_true])]
      refine loop_done ?_
      unfold haulagelaw13_same.b1
      rw [if_pos (by omega), if_pos (by omega), if_pos (by omega), rd_eq hi, rd_eq hj, if_neg c]
theorem same_eq {k : Nat} (hk : Fuel k) (a b : List Int) (h : a.length < 4000000000 ∨ b.length < 4000000000) : haulagelaw13_same.f k a b = some (decide (a = b)) := by
  have h24 : 1099511627776 ≤ k := hk
  unfold haulagelaw13_same.f
  by_cases c : a.length = b.length
  · rw [if_pos (by omega), show (0 : Int) = ((0 : Nat) : Int) from rfl, bind_eq (same_loop a b c a.length 0 k (by omega) (by omega) (by omega))]
    simp only [List.drop_zero]
    by_cases e : a = b
    · simp [e, haulagelaw13_same.j2]
    · simp [e]
  · rw [if_neg (by omega), decide_eq_false (fun e => c (by rw [e]))]
theorem sameRow_eq {k : Nat} (hk : Fuel k) (a b : api_Row) (h1 : a.Key.length < 4000000000 ∨ b.Key.length < 4000000000) (h2 : a.Value.length < 4000000000 ∨ b.Value.length < 4000000000) : haulagelaw13_sameRow.f k a b = some (decide (a = b)) := by
  obtain ⟨a1, a2, a3⟩ := a
  obtain ⟨b1, b2, b3⟩ := b
  unfold haulagelaw13_sameRow.f
  rw [bind_eq (same_eq hk _ _ h1)]
  by_cases c1 : a1 = b1
  · rw [if_pos (by simp [c1]), bind_eq (same_eq hk _ _ h2)]
    by_cases c2 : a2 = b2
    · rw [if_pos (by simp [c2])]; simp [c1, c2]
    · rw [if_neg (by simp [c2])]; simp [c2]
  · rw [if_neg (by simp [c1])]; simp [c1]
theorem sameAnswer_eq {k : Nat} (hk : Fuel k) (a b : api_Answer) (h1 : a.Key.length < 4000000000 ∨ b.Key.length < 4000000000) (h2 : a.Value.length < 4000000000 ∨ b.Value.length < 4000000000) : haulagelaw13_sameAnswer.f k a b = some (decide (a = b)) := by
  obtain ⟨a0, a1, a2, a3, a4⟩ := a
  obtain ⟨b0, b1, b2, b3, b4⟩ := b
  unfold haulagelaw13_sameAnswer.f
  by_cases c0 : a0 = b0
  · rw [if_pos (by simp [c0]), bind_eq (same_eq hk _ _ h1)]
    by_cases c1 : a1 = b1
    · rw [if_pos (by simp [c1]), bind_eq (same_eq hk _ _ h2)]
      by_cases c2 : a2 = b2
      · rw [if_pos (by simp [c2])]
        by_cases c3 : a3 = b3
        · simp [c0, c1, c2, c3]
        · simp [c3]
      · rw [if_neg (by simp [c2])]; simp [c2]
    · rw [if_neg (by simp [c1])]; simp [c1]
  · rw [if_neg (by simp [c0])]; simp [c0]
/-! ### the form -/
def fmP : Nat → Nat → List Int
  | 0, _ => []
  | f + 1, n => if n ≤ 127 then [] else bor .u8 (IntKind.u8.wrap n) 128 :: fmP f (n / 128)
def fmL : Nat → Nat → Nat
  | 0, n => n
  | f + 1, n => if n ≤ 127 then n else fmL f (n / 128)
def fm (n : Nat) : List Int := fmP 9 n ++ [IntKind.u8.wrap (fmL 9 n)]
theorem fmP_len : ∀ f n, (fmP f n).length = nmF f n
  | 0, _ => rfl
  | f + 1, n => by
    unfold fmP nmF
    split
    · rfl
    · rw [List.length_cons, fmP_len f]
theorem fm_len (n : Nat) : (fm n).length = nm n := by unfold fm nm; rw [List.length_append, fmP_len]; simp; omega
theorem form_loop : ∀ (f n k : Nat) (l : List Int), n < 128 ^ f → f < k → l.length + f < 1000 → loop (fun (s_ : Int × List Int) => parcel_form.b1 s_.1 s_.2) k ((n : Int), l) = some ((fmL f n : Int), l ++ fmP f n)
  | _, _, 0, _, _, h, _ => absurd h (by omega)
  | 0, n, k + 1, l, h, _, _ => by
    have : n = 0 := by simpa using h
    subst this
    rw [loop_done (x := ((0 : Int), l))]
    · simp [fmP, fmL]
    · simp [parcel_form.b1]
  | f + 1, n, k + 1, l, h, hk, hs => by
    by_cases c : n ≤ 127
    · rw [loop_done (x := ((n : Int), l))]
      · simp [fmP, fmL, c]
      · unfold parcel_form.b1; rw [if_neg (by omega)]
    · have hd : n / 128 < 128 ^ f := by rw [Nat.pow_succ] at h; omega
      rw [loop_next (s' := (((n / 128 : Nat) : Int), l ++ [bor .u8 (IntKind.u8.wrap n) 128]))]
      · rw [form_loop f (n / 128) k _ hd (by omega) (by simp; omega)]
        simp [fmP, fmL, c]
      · unfold parcel_form.b1
        rw [if_pos (by omega), if_pos (by simp; omega), shr7u]
theorem form_eq {k n : Nat} (hk : Fuel k) (hn : n < 9223372036854775808) : parcel_form.f k (n : Int) = some (fm n) := by
  have h24 : 1099511627776 ≤ k := hk
  have := nmF_le 9 n
  unfold parcel_form.f
  rw [if_pos (by decide), bind_eq (form_loop 9 n k _ (by omega) (by omega) (by simp))]
  unfold parcel_form.j2
  simp only [Int.toNat_zero, List.replicate_zero, List.nil_append]
  rw [if_pos (by rw [fmP_len]; simp; omega)]
  rfl
theorem wru {n : Int} (h0 : 0 ≤ n) (h1 : n < 9223372036854775808) : IntKind.u64.wrap n = n := by
  simp only [IntKind.wrap, IntKind.bits, IntKind.signed]; simp; omega
abbrev W (room : Int) (b : List Int) : Option Wri := some ⟨room, b, [], 0⟩
theorem lay_eq {room : Int} {b a : List Int} (h1 : (b.length + a.length : Nat) ≤ room) (h2 : room ≤ 1000000000000) : parcel_Writer_lay.f (W room b) a = some (W room (b ++ a)) := by
  unfold parcel_Writer_lay.f parcel_Writer_whole.f
  simp only [Option.isNone_some, Bool.false_eq_true, if_false, Option.bind_some, decide_true, if_true]
  rw [wr (by omega) (by omega), if_neg (by omega), if_pos (by omega)]
theorem Num_eq {k : Nat} (hk : Fuel k) {room : Int} {b : List Int} {n : Nat} (hn : n < 9223372036854775808) (h1 : (b.length + (fm n).length : Nat) ≤ room) (h2 : room ≤ 1000000000000) :
    parcel_Writer_Num.f k (W room b) (n : Int) = some (W room (b ++ fm n)) := by
  unfold parcel_Writer_Num.f
  rw [bind_eq (form_eq hk hn), bind_eq (lay_eq h1 h2)]
theorem concat_eq {k : Nat} (hk : Fuel k) {x y : List Int} (h : x.length + y.length < 2000000000000) : slices_Concat.f k [x, y] = some (x ++ y) := by
  have h24 : 1099511627776 ≤ k := hk
  obtain ⟨q, rfl⟩ : ∃ q, k = q + 1 + 1 + 1 := ⟨k - 3, by omega⟩
  unfold slices_Concat.f
  have e1 : loop (fun (s_ : Int × Int) => slices_Concat.b1 [x, y] s_.1 s_.2) (q + 1 + 1 + 1) (0, 0) = some ((x.length + y.length : Nat) : Int) := by
    rw [loop_next (s' := ((x.length : Int), (1 : Int)))]
    · rw [loop_next (s' := (((x.length + y.length : Nat) : Int), (2 : Int)))]
      · refine loop_done ?_
        simp [slices_Concat.b1]
      · have r1 : rd [x, y] 1 = y := rfl
        have w1 : IntKind.i64.wrap ((x.length : Int) + (y.length : Int)) = ((x.length + y.length : Nat) : Int) := by rw [wr (by omega) (by omega)]; omega
        unfold slices_Concat.b1
        simp only [r1, w1]
        rw [if_pos (by simp), if_pos (by simp), if_neg (by omega)]
        rfl
    · have r1 : rd [x, y] 0 = x := rfl
      have w1 : IntKind.i64.wrap (0 + (x.length : Int)) = (x.length : Int) := by rw [wr (by omega) (by omega)]; omega
      unfold slices_Concat.b1
      simp only [r1, w1]
      rw [if_pos (by simp), if_pos (by simp), if_neg (by omega)]
      rfl
  rw [bind_eq e1]
  unfold slices_Concat.j2
  have e2 : slices_Grow.f [] ((x.length + y.length : Nat) : Int) = some [] := by
    unfold slices_Grow.f; rw [if_pos ⟨by omega, by omega, rfl⟩]
  rw [bind_eq e2]
  have e3 : loop (fun (s_ : (List Int) × Int) => slices_Concat.b3 [x, y] s_.1 s_.2) (q + 1 + 1 + 1) ([], 0) = some (x ++ y) := by
    rw [loop_next (s' := (x, (1 : Int)))]
    · rw [loop_next (s' := (x ++ y, (2 : Int)))]
      · refine loop_done ?_
        simp [slices_Concat.b3]
      · have r1 : rd [x, y] 1 = y := rfl
        unfold slices_Concat.b3
        simp only [r1]
        rw [if_pos (by simp), if_pos (by simp), if_pos (by omega)]
        rfl
    · have r1 : rd [x, y] 0 = x := rfl
      unfold slices_Concat.b3
      simp only [r1]
      rw [if_pos (by simp), if_pos (by simp), if_pos (by simp; omega)]
      rfl
  rw [bind_eq e3]
  rfl
theorem Text_eq {k : Nat} (hk : Fuel k) {room : Int} {b a : List Int} (h1 : (b.length + (fm a.length).length + a.length : Nat) ≤ room) (h2 : room ≤ 1000000000000) :
    parcel_Writer_Text.f k (W room b) a = some (W room (b ++ (fm a.length ++ a))) := by
  have := fm_len a.length; have := nm_le a.length
  have e : ((b.length + (fm a.length ++ a).length : Nat) : Int) ≤ room := by rw [List.length_append]; omega
  unfold parcel_Writer_Text.f
  rw [wru (by omega) (by omega), bind_eq (form_eq hk (by omega)), bind_eq (concat_eq hk (by omega)), bind_eq (lay_eq e h2)]
def ef (e : Ent) : List Int := (fm e.1.size ++ sb e.1) ++ ((fm e.2.value.length ++ e.2.value) ++ fm e.2.rev.toNat)
theorem sb_len (k : ByteArray) : (sb k).length = k.size := by unfold sb; rw [List.length_map]; rfl
theorem ef_len (e : Ent) : ((ef e).length : Int) = lg e.1 e.2 := by
  unfold ef lg
  simp only [List.length_append, fm_len, sb_len]; omega
theorem bytes_fold {k : Nat} (hk : Fuel k) {room : Int} (h2 : room ≤ 1000000000000) {r : Nat} (hr : r ≤ 1099511627776) : ∀ (L : List Ent) (b : List Int), (∀ e ∈ L, 1 ≤ e.1.size ∧ e.1.size ≤ 64 ∧ e.2.value.length ≤ 256 ∧ 1 ≤ e.2.rev ∧ e.2.rev ≤ (r : Int)) → b.length + sz L ≤ room →
    foldC (fun (s_ : (Option Wri)) (k_ : ByteArray) (v_ : table_cell) => table_Table_Bytes.b1 k s_ k_ v_) L (W room b) = some (.next (W room (b ++ L.flatMap ef)))
  | [], b, _, _ => by simp [foldC]
  | e :: L, b, h, hb => by
    have he := h e (by simp)
    have h3 := sz_le (L := L) (r := r) (fun x hx => h x (by simp [hx]))
    rw [sz_cons] at hb
    have hl := ef_len e
    have hl' := hl
    unfold lg at hl'
    have f1 := fm_len e.1.size; have f2 := fm_len e.2.value.length; have f3 := fm_len e.2.rev.toNat
    have hs := sb_len e.1
    have hrev : e.2.rev = ((e.2.rev.toNat : Nat) : Int) := by omega
    have step : table_Table_Bytes.b1 k (W room b) e.1 e.2 = some (Ctl.next (W room (b ++ ef e))) := by
      unfold table_Table_Bytes.b1
      rw [if_pos (by omega), bind_eq (Text_eq hk (a := sb e.1) (by rw [hs]; omega) h2), bind_eq (Text_eq hk (a := e.2.value) (by simp only [List.length_append, hs]; omega) h2), hrev, wru (by omega) (by omega),
        bind_eq (Num_eq hk (n := e.2.rev.toNat) (by omega) (by simp only [List.length_append, hs]; omega) h2)]
      unfold ef
      rw [hs]
      simp only [List.append_assoc]
    show thenC (table_Table_Bytes.b1 k (W room b) e.1 e.2) _ = _
    rw [step]
    show foldC _ L (W room (b ++ ef e)) = _
    rw [bytes_fold hk h2 hr L (b ++ ef e) (fun x hx => h x (by simp [hx])) (by simp only [List.length_append]; omega)]
    simp
def form (s : St) : List Int := fm s.2 ++ fm s.1.length ++ s.1.flatMap ef
theorem done_eq {room : Int} {b : List Int} (h : b.length ≤ 1000000000000) : parcel_Writer_Done.f (W room b) = some (b, 0) := by
  unfold parcel_Writer_Done.f
  simp only [Option.isNone_some, Bool.false_eq_true, if_false, Option.bind_some, if_true, List.length_nil]
  rw [if_neg (by omega), if_pos (by omega)]
  simp
theorem RepS.inv {t : Option Tab} {s : St} (hT : RepS t s) : Inv s.1 s.2 := by obtain ⟨rows, _, _, _, hI⟩ := hT; exact hI
theorem size_eq0 {k : Nat} (hk : Fuel k) {t : Option Tab} {s : St} (hl0 : s.1.length < 2000000000) (hr : s.2 ≤ 1099511627776) (hT : RepS t s) : table_Table_Size.f k t = some (nm s.2 + nm s.1.length + sz s.1) := by
  obtain ⟨rows, rfl, hw, hl, hI⟩ := hT
  have hlen := hI.len
  have hsz := sz_le hI.ent
  have := nm_le s.2; have := nm_le s.1.length
  unfold table_Table_Size.f
  simp only [Option.isNone_some, Bool.false_eq_true, if_false, Option.bind_some]
  rw [bind_eq (num_eq hk (n := s.2) (by omega)), bind_eq (len_eq hw), hl, bind_eq (num_eq hk (n := s.1.length) (by omega)), wr (n := (nm s.2 : Int) + nm s.1.length) (by omega) (by omega), wr (by omega) (by omega)]
theorem size_eq {k : Nat} (hk : Fuel k) {t : Option Tab} {s : St} (hr : s.2 < 4194304) (hT : RepS t s) : table_Table_Size.f k t = some (nm s.2 + nm s.1.length + sz s.1) := size_eq0 hk (Nat.lt_trans (Nat.lt_of_le_of_lt hT.inv.len hr) (by omega)) (by omega) hT
theorem flat_len : ∀ L : List Ent, ((L.flatMap ef).length : Int) = sz L
  | [] => rfl
  | e :: L => by rw [List.flatMap_cons, List.length_append, sz_cons, ← flat_len L, ← ef_len]; omega
theorem bytes_eq0 {k : Nat} (hk : Fuel k) {t : Option Tab} {s : St} (hl0 : s.1.length < 2000000000) (hr : s.2 ≤ 1099511627776) (hT : RepS t s) : table_Table_Bytes.f k t = some (form s) := by
  have hS := size_eq0 hk hl0 hr hT
  obtain ⟨rows, rfl, hw, hl, hI⟩ := hT
  have hlen := hI.len
  have hsz := sz_le hI.ent
  have h1 := nm_le s.2; have h2 := nm_le s.1.length
  have f1 := fm_len s.2; have f2 := fm_len s.1.length
  unfold table_Table_Bytes.f
  rw [if_neg (by simp), bind_eq hS]
  have e0 : parcel_New.f (nm s.2 + nm s.1.length + sz s.1) = some (W (nm s.2 + nm s.1.length + sz s.1) []) := by
    unfold parcel_New.f
    rw [Int.max_eq_left (by omega)]
  rw [bind_eq e0]
  simp only [Option.bind_some]
  rw [wru (by omega) (by omega), bind_eq (Num_eq hk (n := s.2) (by omega) (by simp only [List.length_nil]; omega) (by omega)), bind_eq (len_eq hw), hl, wru (by omega) (by omega),
    bind_eq (Num_eq hk (n := s.1.length) (by omega) (by simp only [List.length_append, List.length_nil]; omega) (by omega))]
  show (some (It.all rows)).bind _ = _
  rw [Option.bind_some]
  show (Tr.up _ rows _).bind _ = _
  rw [up_eq, hl, bind_eq (bytes_fold hk (by omega) hr s.1 _ hI.ent (by simp only [List.length_append, List.length_nil]; omega))]
  have hfl := flat_len s.1
  show (parcel_Writer_Done.f _).bind _ = _
  rw [bind_eq (done_eq (by simp only [List.length_append, List.length_nil]; omega))]
  simp [form]
theorem bytes_eq {k : Nat} (hk : Fuel k) {t : Option Tab} {s : St} (hr : s.2 < 4194304) (hT : RepS t s) : table_Table_Bytes.f k t = some (form s) := bytes_eq0 hk (Nat.lt_trans (Nat.lt_of_le_of_lt hT.inv.len hr) (by omega)) (by omega) hT
theorem copy_eq {t : Option Tab} {s : St} (hT : RepS t s) : table_Table_Copy.f t = some t := by
  obtain ⟨rows, rfl, hw, hl, hI⟩ := hT
  rfl
theorem Rev_eq {t : Option Tab} {s : St} (hT : RepS t s) : table_Table_Rev.f t = some (s.2 : Int) := by
  obtain ⟨rows, rfl, hw, hl, hI⟩ := hT
  rfl
theorem Len_eq {t : Option Tab} {s : St} (hT : RepS t s) : table_Table_Len.f t = some (s.1.length : Int) := by
  obtain ⟨rows, rfl, hw, hl, hI⟩ := hT
  unfold table_Table_Len.f
  rw [if_neg (by simp)]
  show (tree_Tree_Len.f rows).bind _ = _
  rw [bind_eq (len_eq hw), hl]
/-! ### rows -/
def rowOf (e : Ent) : api_Row := ⟨sb e.1, e.2.value, e.2.rev⟩
theorem rows_fold : ∀ (L : List Ent) (b : List api_Row), (∀ e ∈ L, e.1.size ≤ 64 ∧ e.2.value.length ≤ 256) → b.length + L.length ≤ 2000000000 →
    foldC (X := Unit) (fun (s_ : List api_Row) (k_ : ByteArray) (v_ : table_cell) => table_Table_Rows.b1 s_ k_ v_) L b = some (.next (b ++ L.map rowOf))
  | [], b, _, _ => by simp [foldC]
  | e :: L, b, h, hb => by
    have he := h e (by simp)
    rw [List.length_cons] at hb
    have step : table_Table_Rows.b1 b e.1 e.2 = some (Ctl.next (b ++ [rowOf e])) := by
      unfold table_Table_Rows.b1 bytes_Clone.f
      rw [if_pos (by omega), if_pos (by omega), Option.bind_some, if_pos (by simp only [List.length_singleton]; omega)]
      rfl
    show thenC (table_Table_Rows.b1 b e.1 e.2) _ = _
    rw [step]
    show foldC _ L (b ++ [rowOf e]) = _
    rw [rows_fold L _ (fun x hx => h x (by simp [hx])) (by simp; omega)]
    simp
theorem Rows_eq0 {t : Option Tab} {s : St} (hl0 : s.1.length < 2000000000) (hT : RepS t s) : table_Table_Rows.f t = some (s.1.map rowOf) := by
  obtain ⟨rows, rfl, hw, hl, hI⟩ := hT
  have hlen := hI.len
  unfold table_Table_Rows.f
  rw [if_neg (by simp)]
  show (Tr.up _ rows _).bind _ = _
  rw [up_eq, hl, bind_eq (rows_fold s.1 [] (fun e he => ⟨(hI.ent e he).2.1, (hI.ent e he).2.2.1⟩) (by simp; omega))]
  rfl
theorem Rows_eq {t : Option Tab} {s : St} (hr : s.2 < 4194304) (hT : RepS t s) : table_Table_Rows.f t = some (s.1.map rowOf) := Rows_eq0 (Nat.lt_trans (Nat.lt_of_le_of_lt hT.inv.len hr) (by omega)) hT
end Go.Proofs.Ytcolmmjcdlmcoaa.G
