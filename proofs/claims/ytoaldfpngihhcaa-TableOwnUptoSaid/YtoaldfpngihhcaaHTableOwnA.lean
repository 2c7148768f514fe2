/- Words and laws on which the row of 'TableOwn' hangs (its '..UptoSaid': bulk at most 1048576). -/
import GoSem.Claim
import Derived.WalkKit
import Derived.Orders
import Derived.OrdersHeld
import Derived.ArgAppend
import Derived.Lib.Hide
import Derived.Test.YtoaldfpngihhcaaProg
import Derived.OrdersIn
import Derived.RangeFuncSeq
import Derived.RangeFuncCalls
import Derived.Laws.BytesArg
import Derived.Laws.BytesString
import Derived.Laws.OwnMore
import Derived.Laws.IdiomStrings
import Derived.MapKept
import Derived.Below
import Derived.Laws.Pointers
import Derived.KernelRfl
import Derived.Laws.MakeOwn
import Derived.RangeFuncLeaves
import Derived.RangeFuncNested
import Derived.RangeFuncBound
import Derived.Laws.CopyRow
import Derived.Lib.AppendZerosOnto
import Derived.Maps.OwnSet
import Derived.Laws.StructEq
import Derived.Maps.RangeWalk
namespace Go.Proofs.Ytoaldfpngihhcaa.G
open Go
set_option linter.unusedVariables false
inductive Ctl (S X : Type) where
 | next (s : S)
 | done (x : X)
def loop {S X : Type} (f : S → Option (Ctl S X)) : Nat → S → Option X
 | 0, _ => none
 | n + 1, s => (f s).bind fun
  | .next s' => loop f n s'
  | .done x => some x
theorem loop_some {S X : Type} {f : S → Option (Ctl S X)} {k : Nat} {s : S} {x : X} (h : loop f k s = some x) :
  ∃ n ctl, k = n + 1 ∧ f s = some ctl ∧ (∀ s', ctl = .next s' → loop f n s' = some x) ∧ (∀ x', ctl = .done x' → x' = x) := by
 cases k with
 | zero => cases h
 | succ n =>
  unfold loop at h
  cases hf : f s with
  | none => rw [hf] at h; cases h
  | some ctl =>
   rw [hf] at h
   refine ⟨n, ctl, rfl, rfl, ?_, ?_⟩
   ·rintro s' rfl; exact h
   ·rintro x' rfl; exact Option.some.inj h
theorem bind_some {α β : Type} {x : Option α} {f : α → Option β} {r : β} (h : x.bind f = some r) : ∃ y, x = some y ∧ f y = some r := by
 cases x with
 | none => cases h
 | some y => exact ⟨y, rfl, h⟩
theorem ifN {β : Type} {p : Prop} [Decidable p] {x : Option β} {r : β} (h : (if p then x else none) = some r) : p ∧ x = some r := by
 split at h
 ·exact ⟨by assumption, h⟩
 ·cases h
theorem bfalse {b : Bool} (h : ¬ b = true) : b = false := by cases b <;> simp_all
def rd {α : Type} [Inhabited α] (xs : List α) (k : Int) : α := xs.getD k.toNat default
def sb (s : ByteArray) : List Int := s.data.toList.map fun b => (b.toNat : Int)
def band (k : IntKind) (m n : Int) : Int := k.wrap (BitVec.ofInt k.bits m &&& BitVec.ofInt k.bits n).toNat
def bor (k : IntKind) (m n : Int) : Int := k.wrap (BitVec.ofInt k.bits m ||| BitVec.ofInt k.bits n).toNat
def bxor (k : IntKind) (m n : Int) : Int := k.wrap (BitVec.ofInt k.bits m ^^^ BitVec.ofInt k.bits n).toNat
def shl (k : IntKind) (m n : Int) : Int := k.wrap (m * 2 ^ (min n.toNat k.bits))
def shr (k : IntKind) (m n : Int) : Int := m.fdiv (2 ^ (min n.toNat k.bits))
def bs (l : List Int) : ByteArray := ⟨(l.map fun n => UInt8.ofNat n.toNat).toArray⟩
def Ctl.el {S X β : Type} (t : Ctl S X) (f : S → β) (g : X → β) : β := match t with
 | .next s => f s
 | .done x => g x
def thenC {S X : Type} (y : Option (Ctl S X)) (f : S → Option (Ctl S X)) : Option (Ctl S X) := match y with
 | none => none
 | some (.done x) => some (.done x)
 | some (.next s) => f s
theorem thenC_some {S X : Type} {y : Option (Ctl S X)} {f : S → Option (Ctl S X)} {r : Ctl S X} (h : thenC y f = some r) : ∃ t, y = some t ∧ t.el (fun s => f s = some r) (fun x => Ctl.done x = r) := by
 cases y with
 | none => cases h
 | some t => cases t with
  | next s => exact ⟨_, rfl, h⟩
  | done x => exact ⟨_, rfl, Option.some.inj h⟩
structure MpV (β : Type) where
 f : Int → Option β
 n : Nat
instance {β : Type} : Inhabited (MpV β) := ⟨⟨fun _ => none, 0⟩⟩
structure MkV (β : Type) where
 f : Int → Option β
 n : Nat
 len : Int
instance {β : Type} : Inhabited (MkV β) := ⟨⟨fun _ => none, 0, 0⟩⟩
def MkV.put {β : Type} (o : MkV β) (k : Int) (x : β) : MkV β := ⟨fun i => if i = k then some x else o.f i, o.n + 1, if (o.f k).isSome then o.len else o.len + 1⟩
def MkV.del {β : Type} (o : MkV β) (k : Int) : MkV β := ⟨fun i => if i = k then none else o.f i, o.n, if (o.f k).isSome then o.len - 1 else o.len⟩
def rawI {β : Type} (k : IntKind) (v : Option (List Value)) (q : Nat) (F : Int → Option β) : Option β := match v with
 | none => none
 | some cs => match cs[q]? with
  | some (.int k' n) => if k' = k then F n else none
  | _ => none
theorem rawI_some {β : Type} {k : IntKind} {v : Option (List Value)} {q : Nat} {F : Int → Option β} {r : β} (h : rawI k v q F = some r) : ∃ n x, v = some x ∧ x[q]? = some (.int k n) ∧ F n = some r := by
 unfold rawI at h
 cases v with
 | none => cases h
 | some cs =>
  simp only at h
  split at h
  ·rename_i k' n hq
   by_cases c : k' = k
   ·rw [if_pos c] at h; subst c; exact ⟨n, cs, rfl, hq, h⟩
   ·rw [if_neg c] at h; cases h
  ·cases h
end Go.Proofs.Ytoaldfpngihhcaa.G
namespace Go.Proofs.Ytoaldfpngihhcaa.G
open Go
set_option linter.unusedVariables false
set_option linter.unusedSimpArgs false
structure table_cell where
 value : List Int
 rev : Int
deriving Inhabited, DecidableEq
structure api_Op where
 Kind : Int
 Key : List Int
 Value : List Int
 Rev : Int
deriving Inhabited, DecidableEq
structure api_Answer where
 Done : Bool
 Key : List Int
 Value : List Int
 Rev : Int
 At : Int
deriving Inhabited, DecidableEq
structure api_Row where
 Key : List Int
 Value : List Int
 Rev : Int
deriving Inhabited, DecidableEq
inductive Tr where
 | nil
 | node (l r : Tr) (k : ByteArray) (v : table_cell) (s d : Int)
deriving Inhabited
def Tr.isNil : Tr → Bool
 | .nil => true
 | _ => false
def Tr.cs {β : Type} (t : Tr) (F : Tr → Tr → ByteArray → table_cell → Int → Int → Option β) : Option β :=
 match t with
 | .nil => none
 | .node l r k v s d => F l r k v s d
theorem cs_some {β : Type} {t : Tr} {F : Tr → Tr → ByteArray → table_cell → Int → Int → Option β} {x : β} (h : t.cs F = some x) : ∃ l r k v s d, t = .node l r k v s d ∧ F l r k v s d = some x := by
 cases t with
 | nil => cases h
 | node l r k v s d => exact ⟨l, r, k, v, s, d, rfl, h⟩
inductive It where
 | all (t : Tr)
 | from (t : Tr) (k : ByteArray)
deriving Inhabited
structure Wri where
 room : Int
 b : List Int
 open_ : List Int
 fault : Int
deriving Inhabited
structure Tab where
 rows : Tr
 rev : Int
 size : Int
deriving Inhabited
structure Cel where
 value : List Int
 rev : Int
deriving Inhabited
structure Rdr where
 left : List Int
 outer : List (List Int)
 fault : Int
deriving Inhabited
def slices_Grow.f (a1 : List Int) (n : Int) : Option (List Int) := if 0 ≤ n ∧ n ≤ 140737488355328 ∧ a1 = [] then some [] else none
def bytes_Clone.f (a1 : List Int) : Option (List Int) := if a1.length * 1 ≤ 140737488355328 then some a1 else none
def rnum (f : Int) : List Int → Nat → Int → (List Int × Int) ⊕ (Int × List Int × Int)
 | [], _, _ => .inl ([], f)
 | c :: xs, k, n => if (k = 9 ∧ 1 < c) ∨ (0 < k ∧ c = 0) then .inr (0, xs, 11) else if c < 128 then .inr (bor .u64 n (shl .u64 (IntKind.u64.wrap (band .u8 c 127)) (7 * (k : Int))), xs, f) else rnum f xs (k + 1) (bor .u64 n (shl .u64 (IntKind.u64.wrap (band .u8 c 127)) (7 * (k : Int))))
def rsize (l : List Int) (f most : Int) : (List Int × Int) ⊕ (Int × List Int × Int) := match rnum f l 0 0 with
 | .inl e => .inl e
 | .inr (n, l, f) => if f = 0 then (if most < n then .inr (0, l, 11) else if (l.length : Int) < n then .inr (0, l, 10) else .inr (IntKind.i64.wrap n, l, f)) else .inr (0, l, f)
def rtext (l : List Int) (f most : Int) : Option ((List Int × Int) ⊕ (List Int × List Int × Int)) := match rsize l f (IntKind.u64.wrap (max most 0)) with
 | .inl e => some (.inl e)
 | .inr (n, l, f) => if 0 ≤ n ∧ n ≤ (l.length : Int) ∧ (l.length : Int) ≤ 140737488355328 then some (.inr (l.take n.toNat, l.drop n.toNat, f)) else none
def rtake {α : Type} (z : α) (r : Rdr) (x : (List Int × Int) ⊕ (α × List Int × Int)) : α × Option Rdr := match x with
 | .inl (l, f) => (z, some ⟨l, r.outer, 10⟩)
 | .inr (v, l, f) => if f = 0 then (v, some ⟨l, r.outer, f⟩) else (z, some ⟨l, r.outer, f⟩)
def parcel_Reader_Num.f (a1 : Option Rdr) : Option (Int × Option Rdr) := match a1 with
 | none => some (0, none)
 | some r => if r.fault = 0 then some (rtake 0 r (rnum r.fault r.left 0 0)) else some (0, some r)
def parcel_Reader_Text.f (a1 : Option Rdr) (most : Int) : Option (List Int × Option Rdr) := match a1 with
 | none => some ([], none)
 | some r => if r.fault = 0 then (rtext r.left r.fault most).bind fun x => some (rtake [] r x) else some ([], some r)
def parcel_Read.f (a1 : List Int) : Option (Option Rdr) := if a1.length * 1 ≤ 140737488355328 then some (some ⟨a1, [], 0⟩) else none
def tree_Tree_Len.f (a1 : Tr) : Option Int := if (Tr.isNil a1) = true then (some 0) else (Tr.cs a1 fun tl10 tr11 tk12 tv13 ts14 td15 => (some ts14))
def tree_Tree_Depth.f (a1 : Tr) : Option Int := if (Tr.isNil a1) = true then (some 0) else (Tr.cs a1 fun tl10 tr11 tk12 tv13 ts14 td15 => (some td15))
def tree_node.f (a1 : Tr) (a4 : ByteArray) (a5 : table_cell) (a9 : Tr) : Option Tr := (tree_Tree_Len.f a1).bind fun t23 => (tree_Tree_Len.f a9).bind fun t30 => (tree_Tree_Depth.f a1).bind fun t37 => (tree_Tree_Depth.f a9).bind fun t44 => some (Tr.node a1 a9 a4 a5 (IntKind.i64.wrap ((IntKind.i64.wrap (t23 + 1)) + t30)) (IntKind.i64.wrap (1 + (max t37 t44))))
def tree_turnLeft.f (a1 : Tr) : Option Tr := Tr.cs a1 fun tl6 tr7 tk8 tv9 ts10 td11 => (Tr.cs tr7 fun tl27 tr28 tk29 tv30 ts31 td32 => ((tree_node.f tl6 tk8 tv9 tl27).bind fun t45 => (tree_node.f t45 tk29 tv30 tr28).bind fun t54 => some t54))
def tree_turnRight.f (a1 : Tr) : Option Tr := Tr.cs a1 fun tl6 tr7 tk8 tv9 ts10 td11 => (Tr.cs tl6 fun tl27 tr28 tk29 tv30 ts31 td32 => ((tree_node.f tr28 tk8 tv9 tr7).bind fun t45 => (tree_node.f tl27 tk29 tv30 t45).bind fun t54 => some t54))
def tree_join.f : Nat → Tr → ByteArray → table_cell → Tr → Option Tr
 | 0, _, _, _, _ => none
 | k + 1, a1, a4, a5, a9 => (tree_Tree_Depth.f a1).bind fun t22 => (tree_Tree_Depth.f a9).bind fun t29 => if (IntKind.i64.wrap (t29 + 1)) < t22 then (Tr.cs a1 fun tl40 tr41 tk42 tv43 ts44 td45 => ((tree_join.f k tr41 a4 a5 a9).bind fun t58 => Tr.cs t58 fun tl71 tr72 tk73 tv74 ts75 td76 => ((tree_Tree_Depth.f tl40).bind fun t89 => if (IntKind.i64.wrap (t89 + 1)) < td76 then ((tree_Tree_Depth.f tl71).bind fun t101 => (tree_Tree_Depth.f tr72).bind fun t108 => if t108 < t101 then ((tree_turnRight.f t58).bind fun t116 => (tree_node.f tl40 tk42 tv43 t116).bind fun t128 => (tree_turnLeft.f t128).bind fun t137 => some t137) else ((tree_node.f tl40 tk42 tv43 t58).bind fun t128 => (tree_turnLeft.f t128).bind fun t137 => some t137)) else ((tree_node.f tl40 tk42 tv43 t58).bind fun t166 => some t166)))) else ((tree_Tree_Depth.f a9).bind fun t176 => (tree_Tree_Depth.f a1).bind fun t183 => if (IntKind.i64.wrap (t183 + 1)) < t176 then (Tr.cs a9 fun tl194 tr195 tk196 tv197 ts198 td199 => ((tree_join.f k a1 a4 a5 tl194).bind fun t212 => Tr.cs t212 fun tl225 tr226 tk227 tv228 ts229 td230 => ((tree_Tree_Depth.f tr195).bind fun t243 => if (IntKind.i64.wrap (t243 + 1)) < td230 then ((tree_Tree_Depth.f tr226).bind fun t255 => (tree_Tree_Depth.f tl225).bind fun t262 => if t262 < t255 then ((tree_turnLeft.f t212).bind fun t270 => (tree_node.f t270 tk196 tv197 tr195).bind fun t282 => (tree_turnRight.f t282).bind fun t291 => some t291) else ((tree_node.f t212 tk196 tv197 tr195).bind fun t282 => (tree_turnRight.f t282).bind fun t291 => some t291)) else ((tree_node.f t212 tk196 tv197 tr195).bind fun t320 => some t320)))) else ((tree_node.f a1 a4 a5 a9).bind fun t330 => some t330))
def tree_last.f : Nat → Tr → Option (Tr × ByteArray × table_cell)
 | 0, _ => none
 | k + 1, a1 => Tr.cs a1 fun tl14 tr15 tk16 tv17 ts18 td19 => (if (Tr.isNil tr15) = true then (some (tl14, tk16, tv17)) else ((tree_last.f k tr15).bind fun t40 => (tree_join.f k tl14 tk16 tv17 t40.1).bind fun t65 => some (t65, t40.2.1, t40.2.2)))
def tree_both.f (k : Nat) (a1 : Tr) (a4 : Tr) : Option Tr := if (Tr.isNil a1) = true then (some a4) else ((tree_last.f k a1).bind fun t13 => (tree_join.f k t13.1 t13.2.1 t13.2.2 a4).bind fun t36 => some t36)
def tree_New.f : Option Tr := some Tr.nil
def cmp_isNaN.f (a1 : ByteArray) : Option Bool := some (!(a1.toList == a1.toList))
def cmp_Compare.f (a1 : ByteArray) (a2 : ByteArray) : Option Int := (cmp_isNaN.f a1).bind fun t5 => (cmp_isNaN.f a2).bind fun t13 => if t5 = true then (if t13 = true then (some 0) else (some (-1))) else (if t13 = true then (some 1) else (if (Op.bytesLess a1.toList a2.toList) = true then (some (-1)) else (if (Op.bytesLess a1.toList a2.toList || (a1.toList == a2.toList)) = true then (some 0) else (some 1))))
def cmp_Less.f (a1 : ByteArray) (a2 : ByteArray) : Option Bool := (cmp_isNaN.f a1).bind fun t5 => if t5 = true then ((cmp_isNaN.f a2).bind fun t13 => if t13 = true then (some (Op.bytesLess a1.toList a2.toList)) else (some true)) else (some (Op.bytesLess a1.toList a2.toList))
def tree_Tree_Get.j2 : Option (table_cell × Bool) := some (table_cell.mk [] 0, false)
def tree_Tree_Get.b1 (a4 : ByteArray) (o14 : Tr) : Option (Ctl Tr (Sum Unit (table_cell × Bool))) := if (Tr.isNil o14) = true then (some (.done (.inl ()))) else (Tr.cs o14 fun tl31 tr32 tk33 tv34 ts35 td36 => ((cmp_Compare.f a4 tk33).bind fun t49 => if t49 = 0 then (some (.done (.inr (tv34, true)))) else (if t49 < 0 then (some (.next tl31)) else (some (.next tr32)))))
def tree_Tree_Get.f (k : Nat) (a1 : Tr) (a4 : ByteArray) : Option (table_cell × Bool) := (loop (fun (s_ : Tr) => tree_Tree_Get.b1 a4 s_) k a1).bind fun x_ => match x_ with | .inl y_ => tree_Tree_Get.j2 | .inr q_ => some q_
def tree_Tree_Put.f : Nat → Tr → ByteArray → table_cell → Option Tr
 | 0, _, _, _ => none
 | k + 1, a1, a4, a5 => if (Tr.isNil a1) = true then ((tree_node.f Tr.nil a4 a5 Tr.nil).bind fun t21 => some t21) else (Tr.cs a1 fun tl32 tr33 tk34 tv35 ts36 td37 => ((cmp_Compare.f a4 tk34).bind fun t50 => if t50 < 0 then ((tree_Tree_Put.f k tl32 a4 a5).bind fun t62 => (tree_join.f k t62 tk34 tv35 tr33).bind fun t71 => some t71) else (if 0 < t50 then ((tree_Tree_Put.f k tr33 a4 a5).bind fun t85 => (tree_join.f k tl32 tk34 tv35 t85).bind fun t94 => some t94) else ((tree_node.f tl32 a4 a5 tr33).bind fun t106 => some t106))))
def tree_Tree_Delete.f : Nat → Tr → ByteArray → Option (Tr × Bool)
 | 0, _, _ => none
 | k + 1, a1, a4 => if (Tr.isNil a1) = true then (some (Tr.nil, false)) else (Tr.cs a1 fun tl12 tr13 tk14 tv15 ts16 td17 => ((cmp_Compare.f a4 tk14).bind fun t30 => if t30 < 0 then ((tree_Tree_Delete.f k tl12 a4).bind fun t40 => if t40.2 = true then ((tree_join.f k t40.1 tk14 tv15 tr13).bind fun t56 => some (t56, true)) else (some (a1, false))) else (if 0 < t30 then ((tree_Tree_Delete.f k tr13 a4).bind fun t68 => if t68.2 = true then ((tree_join.f k tl12 tk14 tv15 t68.1).bind fun t84 => some (t84, true)) else (some (a1, false))) else ((tree_both.f k tl12 tr13).bind fun t96 => some (t96, true)))))
def table_num.j2 (i23 : Int) : Option Int := some i23
def table_num.b1 (i5 : Int) (i6 : Int) : Option (Ctl (Int × Int) Int) := if 127 < i5 then (some (.next (shr .i64 i5 7, IntKind.i64.wrap (i6 + 1)))) else (some (.done i6))
def table_num.f (k : Nat) (a1 : Int) : Option Int := (loop (fun (s_ : Int × Int) => table_num.b1 s_.1 s_.2) k (a1, 1)).bind fun x_ => table_num.j2 x_
def table_long.f (k : Nat) (a1 : ByteArray) (a2 : table_cell) : Option Int := (table_num.f k (a1.size : Int)).bind fun t17 => (table_num.f k (a2.value.length : Int)).bind fun t24 => (table_num.f k a2.rev).bind fun t31 => some (IntKind.i64.wrap ((IntKind.i64.wrap ((IntKind.i64.wrap ((IntKind.i64.wrap (t17 + (a1.size : Int))) + t24)) + (a2.value.length : Int))) + t31))
def table_writes.f (a1 : api_Op) : Option Bool := if a1.Kind = 2 then (some true) else (if a1.Kind = 3 then (some true) else (some (decide (a1.Kind = 4))))
def table_Right.j4 (b60 : Bool) (b61 : Bool) (b62 : Bool) : Option Bool := if b60 = true then (if b61 = true then (some b62) else (some false)) else (some false)
def table_Right.j3 (a1 : api_Op) (b53 : Bool) : Option Bool := table_Right.j4 b53 (decide ((a1.Value.length : Int) = 0)) (decide (a1.Rev = 0))
def table_Right.j2 (a1 : api_Op) (b22 : Bool) (b46 : Bool) : Option Bool := if b46 = true then (table_Right.j3 a1 b22) else (some false)
def table_Right.j1 (a1 : api_Op) (b22 : Bool) : Option Bool := if a1.Kind = 4 then (if 0 ≤ a1.Rev then (table_Right.j4 b22 (decide ((a1.Value.length : Int) ≤ 256)) (decide (a1.Rev ≤ 1099511627776))) else (table_Right.j4 b22 (decide ((a1.Value.length : Int) ≤ 256)) false)) else (if a1.Kind = 2 then (table_Right.j4 b22 (decide ((a1.Value.length : Int) ≤ 256)) (decide (a1.Rev = 0))) else (if a1.Kind = 5 then (table_Right.j3 a1 (decide ((a1.Key.length : Int) ≤ 65))) else (if a1.Kind = 1 then (table_Right.j2 a1 b22 (decide (a1.Kind = 1))) else (table_Right.j2 a1 b22 (decide (a1.Kind = 3))))))
def table_Right.f (a1 : api_Op) : Option Bool := if 0 < (a1.Key.length : Int) then (table_Right.j1 a1 (decide ((a1.Key.length : Int) ≤ 64))) else (table_Right.j1 a1 false)
def Tr.up {σ X : Type} (g : σ → ByteArray → table_cell → Option (Ctl σ X)) : Tr → σ → Option (Ctl σ X)
 | .nil, s => some (.next s)
 | .node l r k v _ _, s => thenC (Tr.up g l s) fun s => thenC (g s k v) fun s => Tr.up g r s
def Tr.from {σ X : Type} (key : ByteArray) (g : σ → ByteArray → table_cell → Option (Ctl σ X)) : Tr → σ → Option (Ctl σ X)
 | .nil, s => some (.next s)
 | .node l r k v _ _, s => (cmp_Less.f k key).bind fun b => if b = true then Tr.from key g r s else thenC (Tr.from key g l s) fun s => thenC (g s k v) fun s => Tr.up g r s
def It.run {σ X : Type} (g : σ → ByteArray → table_cell → Option (Ctl σ X)) : It → σ → Option (Ctl σ X)
 | .all t, s => Tr.up g t s
 | .from t k, s => Tr.from k g t s
def tree_Tree_All.f (a1 : Tr) : Option It := some (.all a1)
def tree_Tree_From.f (a1 : Tr) (a4 : ByteArray) : Option It := some (.from a1 a4)
def tree_Tree_Seek.b1 (s48 : ByteArray) (v49 : table_cell) : Option (Ctl Unit (ByteArray × (List Int) × Int)) := some (.done (s48, v49.value, v49.rev))
def tree_Tree_Seek.j2 : Option (ByteArray × table_cell × Bool) := some (.empty, table_cell.mk [] 0, false)
def tree_Tree_Seek.j3 (s79 : ByteArray) (l81 : List Int) (i84 : Int) : Option (ByteArray × table_cell × Bool) := some (s79, table_cell.mk l81 i84, true)
def tree_Tree_Seek.f (a1 : Tr) (a4 : ByteArray) : Option (ByteArray × table_cell × Bool) := (tree_Tree_From.f a1 a4).bind fun t29 => (It.run (fun (s_ : Unit) (k_ : ByteArray) (v_ : table_cell) => tree_Tree_Seek.b1 k_ v_) t29 ()).bind fun x_ => x_.el (fun s_ => tree_Tree_Seek.j2) (fun y_ => tree_Tree_Seek.j3 y_.1 y_.2.1 y_.2.2)
def table_New.f : Option (Option Tab) := (tree_New.f).bind fun t3 => some (some (Tab.mk t3 0 0))
def table_Table_set.j1 (k : Nat) (a5 : ByteArray) (a6 : table_cell) (a10 : Bool) (ob21 : Tab) (i73 : Int) : Option (Option Tab) := if a10 = true then ((tree_Tree_Put.f k ob21.rows a5 a6).bind fun t100 => (table_long.f k a5 a6).bind fun t116 => some (some (Tab.mk t100 ob21.rev (IntKind.i64.wrap (i73 + t116))))) else ((tree_Tree_Delete.f k ob21.rows a5).bind fun t82 => some (some (Tab.mk t82.1 ob21.rev i73)))
def table_Table_set.f (k : Nat) (a1 : Option Tab) (a5 : ByteArray) (a6 : table_cell) (a10 : Bool) : Option (Option Tab) := (a1).bind fun ob21 => ((tree_Tree_Get.f k ob21.rows a5).bind fun t29 => if t29.2 = true then ((table_long.f k a5 t29.1).bind fun t55 => table_Table_set.j1 k a5 a6 a10 ob21 (IntKind.i64.wrap (ob21.size - t55))) else (table_Table_set.j1 k a5 a6 a10 ob21 ob21.size))
def table_Table_told.f (a1 : Option Tab) (a5 : ByteArray) (a6 : table_cell) (a11 : Bool) : Option api_Answer := (a1).bind fun ob28 => (if a11 = true then (if (a5).size ≤ 140737488355328 then ((bytes_Clone.f a6.value).bind fun t59 => some (api_Answer.mk a11 (sb a5) t59 a6.rev ob28.rev)) else none) else (some (api_Answer.mk a11 [] [] 0 ob28.rev)))
def table_Table_Rev.f (a1 : Option Tab) : Option Int := if (Option.isNone a1) = true then (some 0) else ((a1).bind fun ob11 => (some ob11.rev))
def table_Table_Len.f (a1 : Option Tab) : Option Int := if (Option.isNone a1) = true then (some 0) else ((a1).bind fun ob11 => ((tree_Tree_Len.f ob11.rows).bind fun t19 => some t19))
def table_Table_Size.f (k : Nat) (a1 : Option Tab) : Option Int := if (Option.isNone a1) = true then (some 0) else ((a1).bind fun ob11 => ((table_num.f k ob11.rev).bind fun t21 => (tree_Tree_Len.f ob11.rows).bind fun t28 => (table_num.f k t28).bind fun t35 => some (IntKind.i64.wrap ((IntKind.i64.wrap (t21 + t35)) + ob11.size))))
def table_Table_Do.j1 (ob48 : Tab) (t58 : ByteArray × table_cell × Bool) : Option (api_Answer × Int × (Option Tab)) := (table_Table_told.f (some (Tab.mk ob48.rows ob48.rev ob48.size)) t58.1 t58.2.1 t58.2.2).bind fun t102 => some (t102, 0, (some (Tab.mk ob48.rows ob48.rev ob48.size)))
def table_Table_Do.j3 (k : Nat) (a5 : api_Op) (ob125 : Tab) (t193 : api_Answer) (t220 : List Int) (b274 : Bool) : Option (api_Answer × Int × (Option Tab)) := if b274 = true then ((table_Table_set.f k (some (Tab.mk ob125.rows (IntKind.i64.wrap (ob125.rev + 1)) ob125.size)) (bs a5.Key) (table_cell.mk t220 (IntKind.i64.wrap (ob125.rev + 1))) true).bind fun t284 => some (api_Answer.mk true t193.Key t193.Value t193.Rev t193.At, 0, t284)) else (some (api_Answer.mk false t193.Key t193.Value t193.Rev t193.At, 0, (some (Tab.mk ob125.rows (IntKind.i64.wrap (ob125.rev + 1)) ob125.size))))
def table_Table_Do.j2 (k : Nat) (a5 : api_Op) (ob125 : Tab) (t133 : table_cell × Bool) (t193 : api_Answer) (t220 : List Int) : Option (api_Answer × Int × (Option Tab)) := if a5.Kind = 3 then ((table_Table_set.f k (some (Tab.mk ob125.rows (IntKind.i64.wrap (ob125.rev + 1)) ob125.size)) (bs a5.Key) (table_cell.mk t220 (IntKind.i64.wrap (ob125.rev + 1))) false).bind fun t264 => some (t193, 0, t264)) else (if a5.Kind = 2 then (table_Table_Do.j3 k a5 ob125 t193 t220 true) else (table_Table_Do.j3 k a5 ob125 t193 t220 (decide (t133.1.rev = a5.Rev))))
def table_Table_Do.f (k : Nat) (a1 : Option Tab) (a5 : api_Op) : Option (api_Answer × Int × (Option Tab)) := if (Option.isNone a1) = true then (some (api_Answer.mk false [] [] 0 0, 1, a1)) else ((table_Right.f a5).bind fun t37 => if t37 = true then (if a5.Kind = 5 then ((a1).bind fun ob48 => ((tree_Tree_Seek.f ob48.rows (bs a5.Key)).bind fun t58 => table_Table_Do.j1 ob48 t58)) else ((a1).bind fun ob125 => ((tree_Tree_Get.f k ob125.rows (bs a5.Key)).bind fun t133 => (table_writes.f a5).bind fun t155 => if t155 = true then (if ob125.rev = 1099511627776 then (some (api_Answer.mk false [] [] 0 0, 132, a1)) else ((table_Table_told.f (some (Tab.mk ob125.rows (IntKind.i64.wrap (ob125.rev + 1)) ob125.size)) (bs a5.Key) t133.1 t133.2).bind fun t193 => (bytes_Clone.f a5.Value).bind fun t220 => table_Table_Do.j2 k a5 ob125 t133 t193 t220)) else ((table_Table_told.f a1 (bs a5.Key) t133.1 t133.2).bind fun t164 => some (t164, 0, a1))))) else (some (api_Answer.mk false [] [] 0 0, 131, a1)))
def table_Table_Rows.b1 (l139 : List api_Row) (s150 : ByteArray) (v151 : table_cell) : Option (Ctl (List api_Row) Unit) := if (s150).size ≤ 140737488355328 then ((bytes_Clone.f v151.value).bind fun t76 => if (l139.length + [api_Row.mk (sb s150) t76 v151.rev].length) * 56 ≤ 140737488355328 then (some (.next (l139 ++ [api_Row.mk (sb s150) t76 v151.rev]))) else none) else none
def table_Table_Rows.j2 (l139 : List api_Row) : Option (List api_Row) := some l139
def table_Table_Rows.f (a1 : Option Tab) : Option (List api_Row) := if (Option.isNone a1) = true then (some []) else ((a1).bind fun ob20 => ((tree_Tree_All.f ob20.rows).bind fun t28 => (It.run (fun (s_ : (List api_Row)) (k_ : ByteArray) (v_ : table_cell) => table_Table_Rows.b1 s_ k_ v_) t28 []).bind fun x_ => x_.el (fun s_ => table_Table_Rows.j2 s_) (fun y_ => none)))
def parcel_New.f (a1 : Int) : Option (Option Wri) := some (some (Wri.mk (max a1 0) [] [] 0))
def parcel_form.j2 (i52 : Int) (l54 : List Int) : Option (List Int) := if (l54.length + [IntKind.u8.wrap i52].length) * 1 ≤ 140737488355328 then (some (l54 ++ [IntKind.u8.wrap i52])) else none
def parcel_form.b1 (i13 : Int) (l14 : List Int) : Option (Ctl (Int × (List Int)) (Int × (List Int))) := if 127 < i13 then (if (l14.length + [bor .u8 (IntKind.u8.wrap i13) 128].length) * 1 ≤ 140737488355328 then (some (.next (shr .u64 i13 7, (l14 ++ [bor .u8 (IntKind.u8.wrap i13) 128])))) else none) else (some (.done (i13, l14)))
def parcel_form.f (k : Nat) (a1 : Int) : Option (List Int) := if (0 : Int) ≤ 0 ∧ (0 : Int) ≤ 10 ∧ (10 : Int) * (1 : Nat) ≤ 140737488355328 then ((loop (fun (s_ : Int × (List Int)) => parcel_form.b1 s_.1 s_.2) k (a1, (List.replicate (0 : Int).toNat (0 : Int)))).bind fun x_ => parcel_form.j2 x_.1 x_.2) else none
def parcel_Writer_whole.f (a1 : Option Wri) : Option Bool := if (Option.isNone a1) = true then (some false) else ((a1).bind fun ob9 => (some (decide (ob9.fault = 0))))
def parcel_Writer_lay.f (a1 : Option Wri) (a6 : List Int) : Option (Option Wri) := (parcel_Writer_whole.f a1).bind fun t11 => if t11 = true then ((a1).bind fun ob20 => (if (IntKind.i64.wrap (ob20.room - (ob20.b.length : Int))) < (a6.length : Int) then (some (some (Wri.mk ob20.room ob20.b ob20.open_ 13))) else (if (ob20.b.length + a6.length) * 1 ≤ 140737488355328 then (some (some (Wri.mk ob20.room (ob20.b ++ a6) ob20.open_ ob20.fault))) else none))) else (some a1)
def parcel_Writer_Num.f (k : Nat) (a1 : Option Wri) (a6 : Int) : Option (Option Wri) := (parcel_form.f k a6).bind fun t7 => (parcel_Writer_lay.f a1 t7).bind fun t17 => some t17
def slices_Concat.b3 (a1 : List (List Int)) (l61 : List Int) (i65 : Int) : Option (Ctl ((List Int) × Int) (List Int)) := if i65 < (a1.length : Int) then (if 0 ≤ i65 ∧ i65 < (a1.length : Int) then (if (l61.length + (rd a1 i65).length) * 1 ≤ 140737488355328 then (some (.next ((l61 ++ (rd a1 i65)), IntKind.i64.wrap (i65 + 1)))) else none) else none) else (some (.done l61))
def slices_Concat.j4 (l106 : List Int) : Option (List Int) := some l106
def slices_Concat.j2 (k : Nat) (a1 : List (List Int)) (i44 : Int) : Option (List Int) := (slices_Grow.f [] i44).bind fun t49 => (loop (fun (s_ : (List Int) × Int) => slices_Concat.b3 a1 s_.1 s_.2) k (t49, 0)).bind fun x_ => slices_Concat.j4 x_
def slices_Concat.b1 (a1 : List (List Int)) (i11 : Int) (i12 : Int) : Option (Ctl (Int × Int) Int) := if i12 < (a1.length : Int) then (if 0 ≤ i12 ∧ i12 < (a1.length : Int) then (if (IntKind.i64.wrap (i11 + ((rd a1 i12).length : Int))) < 0 then (none) else (some (.next (IntKind.i64.wrap (i11 + ((rd a1 i12).length : Int)), IntKind.i64.wrap (i12 + 1))))) else none) else (some (.done i11))
def slices_Concat.f (k : Nat) (a1 : List (List Int)) : Option (List Int) := (loop (fun (s_ : Int × Int) => slices_Concat.b1 a1 s_.1 s_.2) k (0, 0)).bind fun x_ => slices_Concat.j2 k a1 x_
def parcel_Writer_Text.f (k : Nat) (a1 : Option Wri) (a6 : List Int) : Option (Option Wri) := (parcel_form.f k (IntKind.u64.wrap (a6.length : Int))).bind fun t10 => (slices_Concat.f k [t10, a6]).bind fun t27 => (parcel_Writer_lay.f a1 t27).bind fun t37 => some t37
def parcel_Writer_Done.f (a1 : Option Wri) : Option ((List Int) × Int) := if (Option.isNone a1) = true then (some ([], 1)) else ((a1).bind fun ob12 => (if ob12.fault = 0 then (if 0 < (ob12.open_.length : Int) then (some ([], 12)) else (if (0 : Int) ≤ (ob12.b.length : Int) ∧ ((ob12.b.length : Int) : Int) ≤ (ob12.b.length : Int) ∧ ((ob12.b.length : Int) : Int) * (1 : Nat) ≤ 140737488355328 then (some ((ob12.b.take (List.replicate (ob12.b.length : Int).toNat (0 : Int)).length ++ (List.replicate (ob12.b.length : Int).toNat (0 : Int)).drop ob12.b.length), 0)) else none)) else (some ([], ob12.fault))))
def table_Table_Bytes.b1 (k : Nat) (o150 : Option Wri) (s161 : ByteArray) (v162 : table_cell) : Option (Ctl (Option Wri) Unit) := if (s161).size ≤ 140737488355328 then ((parcel_Writer_Text.f k o150 (sb s161)).bind fun t123 => (parcel_Writer_Text.f k t123 v162.value).bind fun t132 => (parcel_Writer_Num.f k t132 (IntKind.u64.wrap v162.rev)).bind fun t140 => some (.next t140)) else none
def table_Table_Bytes.j2 (o150 : Option Wri) : Option (List Int) := (parcel_Writer_Done.f o150).bind fun t214 => some t214.1
def table_Table_Bytes.f (k : Nat) (a1 : Option Tab) : Option (List Int) := if (Option.isNone a1) = true then (some []) else ((table_Table_Size.f k a1).bind fun t11 => (parcel_New.f t11).bind fun t18 => (a1).bind fun ob38 => ((parcel_Writer_Num.f k t18 (IntKind.u64.wrap ob38.rev)).bind fun t48 => (tree_Tree_Len.f ob38.rows).bind fun t59 => (parcel_Writer_Num.f k t48 (IntKind.u64.wrap t59)).bind fun t66 => (tree_Tree_All.f ob38.rows).bind fun t76 => (It.run (fun (s_ : (Option Wri)) (k_ : ByteArray) (v_ : table_cell) => table_Table_Bytes.b1 k s_ k_ v_) t76 t66).bind fun x_ => x_.el (fun s_ => table_Table_Bytes.j2 s_) (fun y_ => none)))
def parcel_Reader_Done.j1 (b26 : Bool) : Option Int := if b26 = true then (some 12) else (some 0)
def parcel_Reader_Done.f (a1 : Option Rdr) : Option Int := if (Option.isNone a1) = true then (some 1) else ((a1).bind fun ob11 => (if ob11.fault = 0 then (if 0 < (ob11.left.length : Int) then (parcel_Reader_Done.j1 true) else (parcel_Reader_Done.j1 (decide (0 < (ob11.outer.length : Int))))) else (some ob11.fault)))
def parcel_copied.f (a1 : List Int) : Option (List Int) := if (a1.length : Int) = 0 then (some []) else (if (0 : Int) ≤ 0 ∧ (0 : Int) ≤ (a1.length : Int) ∧ ((a1.length : Int) : Int) * (1 : Nat) ≤ 140737488355328 then (if ((List.replicate (0 : Int).toNat (0 : Int)).length + a1.length) * 1 ≤ 140737488355328 then (some ((List.replicate (0 : Int).toNat (0 : Int)) ++ a1)) else none) else none)
def table_Read.j6 (k : Nat) (t92 : (List Int) × (Option Rdr)) (t114 : (List Int) × (Option Rdr)) (t248 : Int × (Option Rdr)) (i286 : Int) (o289 : Option Tab) (o293 : MpV Bool) (b481 : Bool) : Option (Ctl ((Option Rdr) × Int × (Option Tab) × Bool × (MpV Bool) × ByteArray) ((Option Rdr) × (Option Tab) × Bool)) := if (Lit.int .u64 t248.1).wf = true ∧ o293.n < 140737488355328 then ((table_Table_set.f k o289 (bs t92.1) (table_cell.mk t114.1 (IntKind.i64.wrap t248.1)) true).bind fun t275 => some (.next (t248.2, IntKind.u64.wrap (i286 - 1), t275, b481, (MpV.mk (fun i_ => if i_ = t248.1 then some true else o293.f i_) (o293.n + 1)), bs t92.1))) else none
def table_Read.j5 (k : Nat) (t18 : Int × (Option Rdr)) (t92 : (List Int) × (Option Rdr)) (t114 : (List Int) × (Option Rdr)) (i286 : Int) (o289 : Option Tab) (o293 : MpV Bool) (s294 : ByteArray) : Option (Ctl ((Option Rdr) × Int × (Option Tab) × Bool × (MpV Bool) × ByteArray) ((Option Rdr) × (Option Tab) × Bool)) := (parcel_Reader_Num.f t114.2).bind fun t248 => if (Op.bytesLess (bs t92.1).toList s294.toList || ((bs t92.1).toList == s294.toList)) = true then (table_Read.j6 k t92 t114 t248 i286 o289 o293 false) else (if 0 < t248.1 then (if t248.1 ≤ t18.1 then (if (Lit.int .u64 t248.1).wf = true then (table_Read.j6 k t92 t114 t248 i286 o289 o293 (!((o293.f t248.1).getD false))) else none) else (table_Read.j6 k t92 t114 t248 i286 o289 o293 false)) else (table_Read.j6 k t92 t114 t248 i286 o289 o293 false))
def table_Read.j4 (k : Nat) (t18 : Int × (Option Rdr)) (o285 : Option Rdr) (i286 : Int) (o289 : Option Tab) (b290 : Bool) (o293 : MpV Bool) (s294 : ByteArray) (b308 : Bool) : Option (Ctl ((Option Rdr) × Int × (Option Tab) × Bool × (MpV Bool) × ByteArray) ((Option Rdr) × (Option Tab) × Bool)) := if b308 = true then ((parcel_Reader_Text.f o285 64).bind fun t92 => (parcel_Reader_Text.f t92.2 256).bind fun t114 => table_Read.j5 k t18 t92 t114 i286 o289 o293 s294) else (some (.done (o285, o289, b290)))
def table_Read.j9 (o511 : Option Tab) (b526 : Bool) : Option ((Option Tab) × Int) := if b526 = true then (some (none, 130)) else (some (o511, 0))
def table_Read.j8 (o509 : Option Rdr) (o511 : Option Tab) (b512 : Bool) : Option ((Option Tab) × Int) := if b512 = true then ((parcel_Reader_Done.f o509).bind fun t519 => table_Read.j9 o511 (!decide (t519 = 0))) else (table_Read.j9 o511 true)
def table_Read.b7 (k : Nat) (t18 : Int × (Option Rdr)) (o285 : Option Rdr) (i286 : Int) (o289 : Option Tab) (b290 : Bool) (o293 : MpV Bool) (s294 : ByteArray) : Option (Ctl ((Option Rdr) × Int × (Option Tab) × Bool × (MpV Bool) × ByteArray) ((Option Rdr) × (Option Tab) × Bool)) := if 0 < i286 then (table_Read.j4 k t18 o285 i286 o289 b290 o293 s294 b290) else (table_Read.j4 k t18 o285 i286 o289 b290 o293 s294 false)
def table_Read.f (k : Nat) (a1 : List Int) : Option ((Option Tab) × Int) := (parcel_Read.f a1).bind fun t8 => (parcel_Reader_Num.f t8).bind fun t18 => (parcel_Reader_Num.f t18.2).bind fun t26 => (table_New.f).bind fun t35 => (t35).bind fun ob45 => ((loop (fun (s_ : (Option Rdr) × Int × (Option Tab) × Bool × (MpV Bool) × ByteArray) => table_Read.b7 k t18 s_.1 s_.2.1 s_.2.2.1 s_.2.2.2.1 s_.2.2.2.2.1 s_.2.2.2.2.2) k (t26.2, t26.1, (some (Tab.mk ob45.rows (IntKind.i64.wrap (min t18.1 1099511627776)) ob45.size)), decide (t18.1 ≤ 1099511627776), (MpV.mk (fun _ => none) 0), { data := #[] })).bind fun x_ => table_Read.j8 x_.1 x_.2.1 x_.2.2)
def haulagelaw13_same.j2 : Option Bool := some true
def haulagelaw13_same.b1 (a1 : List Int) (a6 : List Int) (i18 : Int) : Option (Ctl Int (Sum Unit Bool)) := if i18 < (a1.length : Int) then (if 0 ≤ i18 ∧ i18 < (a1.length : Int) then (if 0 ≤ i18 ∧ i18 < (a6.length : Int) then (if (rd a1 i18) = (rd a6 i18) then (some (.next (IntKind.i64.wrap (i18 + 1)))) else (some (.done (.inr false)))) else none) else none) else (some (.done (.inl ())))
def haulagelaw13_same.f (k : Nat) (a1 : List Int) (a6 : List Int) : Option Bool := if (a1.length : Int) = (a6.length : Int) then ((loop (fun (s_ : Int) => haulagelaw13_same.b1 a1 a6 s_) k 0).bind fun x_ => match x_ with | .inl y_ => haulagelaw13_same.j2 | .inr q_ => some q_) else (some false)
def haulagelaw13_sameRow.f (k : Nat) (a1 : api_Row) (a10 : api_Row) : Option Bool := (haulagelaw13_same.f k a1.Key a10.Key).bind fun t35 => if t35 = true then ((haulagelaw13_same.f k a1.Value a10.Value).bind fun t43 => if t43 = true then (some (decide (a1.Rev = a10.Rev))) else (some false)) else (some false)
def haulagelaw13_sameRows.j2 : Option Bool := some true
def haulagelaw13_sameRows.b1 (k : Nat) (a1 : List api_Row) (a7 : List api_Row) (i20 : Int) : Option (Ctl Int (Sum Unit Bool)) := if i20 < (a1.length : Int) then (if 0 ≤ i20 ∧ i20 < (a1.length : Int) then (if 0 ≤ i20 ∧ i20 < (a7.length : Int) then ((haulagelaw13_sameRow.f k (rd a1 i20) (rd a7 i20)).bind fun t66 => if t66 = true then (some (.next (IntKind.i64.wrap (i20 + 1)))) else (some (.done (.inr false)))) else none) else none) else (some (.done (.inl ())))
def haulagelaw13_sameRows.f (k : Nat) (a1 : List api_Row) (a7 : List api_Row) : Option Bool := if (a1.length : Int) = (a7.length : Int) then ((loop (fun (s_ : Int) => haulagelaw13_sameRows.b1 k a1 a7 s_) k 0).bind fun x_ => match x_ with | .inl y_ => haulagelaw13_sameRows.j2 | .inr q_ => some q_) else (some false)
def haulagelaw13_sameAnswer.f (k : Nat) (a1 : api_Answer) (a10 : api_Answer) : Option Bool := if (a1.Done == a10.Done) = true then ((haulagelaw13_same.f k a1.Key a10.Key).bind fun t36 => if t36 = true then ((haulagelaw13_same.f k a1.Value a10.Value).bind fun t44 => if t44 = true then (if a1.Rev = a10.Rev then (some (decide (a1.At = a10.At))) else (some false)) else (some false)) else (some false)) else (some false)
def haulagelaw13_lent.f (a1 : List Int) : Option (List Int) := if a1.length * 1 ≤ 140737488355328 then (if (([] ++ a1).length + [201, 77].length) * 1 ≤ 140737488355328 then (if (a1.length : Int) = (([] ++ a1).length : Int) then (some ([] ++ a1)) else none) else none) else none
def haulagelaw13_lentOp.f (a1 : api_Op) : Option api_Op := (haulagelaw13_lent.f a1.Key).bind fun t28 => (haulagelaw13_lent.f a1.Value).bind fun t38 => some (api_Op.mk a1.Kind t28 t38 a1.Rev)
def haulagelaw13_put.f (a1 : List Int) (a6 : List Int) : Option api_Op := some (api_Op.mk 2 a1 a6 0)
def haulagelaw13_get.f (a1 : List Int) : Option api_Op := some (api_Op.mk 1 a1 [] 0)
def haulagelaw13_awake.f (k : Nat) : Option Bool := (table_New.f).bind fun t3 => (haulagelaw13_put.f [97] [49]).bind fun t27 => (table_Table_Do.f k t3 t27).bind fun t40 => (haulagelaw13_put.f [97] [50]).bind fun t79 => (table_Table_Do.f k t40.2.2 t79).bind fun t92 => (haulagelaw13_get.f [97]).bind fun t124 => (table_Table_Do.f k t92.2.2 t124).bind fun t137 => (table_Table_Do.f k t137.2.2 (api_Op.mk 0 [] [] 0)).bind fun t162 => if t40.2.1 = 0 then (if t92.2.1 = 0 then (if t137.2.1 = 0 then (if t162.2.1 = 131 then (if t40.1.Done = true then (if t40.1.At = 1 then (if t92.1.Rev = 1 then ((haulagelaw13_same.f k t92.1.Value [49]).bind fun t201 => if t201 = true then (if t137.1.Done = true then (if t137.1.Rev = 2 then ((haulagelaw13_same.f k t137.1.Value [50]).bind fun t218 => if t218 = true then ((table_Table_Bytes.f k t162.2.2).bind fun t226 => (haulagelaw13_same.f k t226 [2, 1, 1, 97, 1, 50, 2]).bind fun t243 => some t243) else (some false)) else (some false)) else (some false)) else (some false)) else (some false)) else (some false)) else (some false)) else (some false)) else (some false)) else (some false)) else (some false)
def haulagelaw13_made.j2 (o111 : Option Tab) : Option (Option Tab) := some o111
def haulagelaw13_made.b1 (k : Nat) (a1 : List api_Op) (o63 : Option Tab) (i65 : Int) : Option (Ctl ((Option Tab) × Int) (Option Tab)) := if i65 < (a1.length : Int) then (if 0 ≤ i65 ∧ i65 < (a1.length : Int) then ((table_Table_Do.f k o63 (rd a1 i65)).bind fun t47 => some (.next (t47.2.2, IntKind.i64.wrap (i65 + 1)))) else none) else (some (.done o63))
def haulagelaw13_made.f (k : Nat) (a1 : List api_Op) : Option (Option Tab) := (table_New.f).bind fun t7 => (loop (fun (s_ : (Option Tab) × Int) => haulagelaw13_made.b1 k a1 s_.1 s_.2) k (t7, 0)).bind fun x_ => haulagelaw13_made.j2 x_
def haulagelaw13_copyOf.f (a1 : api_Answer) : Option api_Answer := if a1.Key.length * 1 ≤ 140737488355328 then (if a1.Value.length * 1 ≤ 140737488355328 then (some (api_Answer.mk a1.Done ([] ++ a1.Key) ([] ++ a1.Value) a1.Rev a1.At)) else none) else none
def haulagelaw13_apart.j4 (i156 : Int) (l292 : List (List Int)) : Option (Ctl ((List (List Int)) × Int) (List (List Int))) := some (.next (l292, IntKind.i64.wrap (i156 + 1)))
def haulagelaw13_apart.b3 (i156 : Int) (l230 : List (List Int)) (i231 : Int) : Option (Ctl ((List (List Int)) × Int) (List (List Int))) := if 0 ≤ i156 ∧ i156 < (l230.length : Int) then (if i231 < ((rd l230 i156).length : Int) then (if 0 ≤ i156 ∧ i156 < (l230.length : Int) then (if 0 ≤ i231 ∧ i231 < ((rd l230 i156).length : Int) then (some (.next ((l230.set i156.toNat ((rd l230 i156).set i231.toNat (IntKind.u8.wrap (IntKind.i64.wrap ((IntKind.i64.wrap ((IntKind.i64.wrap (37 * i156)) + (IntKind.i64.wrap (5 * i231)))) + 11))))), IntKind.i64.wrap (i231 + 1)))) else none) else none) else (some (.done l230))) else none
def haulagelaw13_apart.b9 (i415 : Int) (l446 : List Int) (i450 : Int) : Option (Ctl ((List Int) × Int) (List Int)) := if i450 < 80 then (if (l446.length + [IntKind.u8.wrap (IntKind.i64.wrap ((IntKind.i64.wrap ((IntKind.i64.wrap (101 * i415)) + (IntKind.i64.wrap (3 * i450)))) + 60))].length) * 1 ≤ 140737488355328 then (some (.next ((l446 ++ [IntKind.u8.wrap (IntKind.i64.wrap ((IntKind.i64.wrap ((IntKind.i64.wrap (101 * i415)) + (IntKind.i64.wrap (3 * i450)))) + 60))]), IntKind.i64.wrap (i450 + 1)))) else none) else (some (.done l446))
def haulagelaw13_apart.j10 (l411 : List (List Int)) (i415 : Int) (l488 : List Int) : Option (Ctl ((List (List Int)) × Int) (List (List Int))) := if (l411.length + [l488].length) * 24 ≤ 140737488355328 then (some (.next ((l411 ++ [l488]), IntKind.i64.wrap (i415 + 1)))) else none
def haulagelaw13_apart.b11 (k : Nat) (l304 : List (List Int)) (l411 : List (List Int)) (i415 : Int) : Option (Ctl ((List (List Int)) × Int) (List (List Int))) := if i415 < (l304.length : Int) then (if 0 ≤ i415 ∧ i415 < (l304.length : Int) then ((loop (fun (s_ : (List Int) × Int) => haulagelaw13_apart.b9 i415 s_.1 s_.2) k ((rd l304 i415), 0)).bind fun x_ => haulagelaw13_apart.j10 l411 i415 x_) else none) else (if l304.length ≤ i415.toNat then (some (.done l411)) else none)
def haulagelaw13_apart.b13 (l304 : List (List Int)) (i525 : Int) (i554 : Int) : Option (Ctl Int (Sum Unit (Ctl Int (Sum Unit Bool)))) := if i554 < ((rd l304 i525).length : Int) then (if 0 ≤ i525 ∧ i525 < (l304.length : Int) then (if 0 ≤ i554 ∧ i554 < ((rd l304 i525).length : Int) then (if (rd (rd l304 i525) i554) = (IntKind.u8.wrap (IntKind.i64.wrap ((IntKind.i64.wrap ((IntKind.i64.wrap (37 * i525)) + (IntKind.i64.wrap (5 * i554)))) + 11))) then (some (.next (IntKind.i64.wrap (i554 + 1)))) else (some (.done (.inr (.done (.inr false)))))) else none) else none) else (some (.done (.inl ())))
def haulagelaw13_apart.b15 (l304 : List (List Int)) (l517 : List (List Int)) (i525 : Int) (i596 : Int) : Option (Ctl Int (Sum Unit (Ctl Int (Sum Unit Bool)))) := if i596 < 80 then (if 0 ≤ i525 ∧ i525 < (l517.length : Int) then (if 0 ≤ (IntKind.i64.wrap (((rd l304 i525).length : Int) + i596)) ∧ (IntKind.i64.wrap (((rd l304 i525).length : Int) + i596)) < ((rd l517 i525).length : Int) then (if (rd (rd l517 i525) (IntKind.i64.wrap (((rd l304 i525).length : Int) + i596))) = (IntKind.u8.wrap (IntKind.i64.wrap ((IntKind.i64.wrap ((IntKind.i64.wrap (101 * i525)) + (IntKind.i64.wrap (3 * i596)))) + 60))) then (some (.next (IntKind.i64.wrap (i596 + 1)))) else (some (.done (.inr (.done (.inr false)))))) else none) else none) else (some (.done (.inl ())))
def haulagelaw13_apart.j16 (i525 : Int) : Option (Ctl Int (Sum Unit Bool)) := some (.next (IntKind.i64.wrap (i525 + 1)))
def haulagelaw13_apart.j14 (k : Nat) (l304 : List (List Int)) (l517 : List (List Int)) (i525 : Int) : Option (Ctl Int (Sum Unit Bool)) := (loop (fun (s_ : Int) => haulagelaw13_apart.b15 l304 l517 i525 s_) k 0).bind fun x_ => match x_ with | .inl y_ => haulagelaw13_apart.j16 i525 | .inr q_ => some q_
def haulagelaw13_apart.b17 (k : Nat) (l304 : List (List Int)) (l517 : List (List Int)) (i525 : Int) : Option (Ctl Int (Sum Unit Bool)) := if i525 < (l304.length : Int) then (if 0 ≤ i525 ∧ i525 < (l304.length : Int) then ((loop (fun (s_ : Int) => haulagelaw13_apart.b13 l304 i525 s_) k 0).bind fun x_ => match x_ with | .inl y_ => haulagelaw13_apart.j14 k l304 l517 i525 | .inr q_ => some q_) else none) else (some (.done (.inl ())))
def haulagelaw13_apart.j18 : Option Bool := some true
def haulagelaw13_apart.j12 (k : Nat) (l304 : List (List Int)) (l517 : List (List Int)) : Option Bool := (loop (fun (s_ : Int) => haulagelaw13_apart.b17 k l304 l517 s_) k 0).bind fun x_ => match x_ with | .inl y_ => haulagelaw13_apart.j18 | .inr q_ => some q_
def haulagelaw13_apart.j6 (k : Nat) (l304 : List (List Int)) : Option Bool := (loop (fun (s_ : (List (List Int)) × Int) => haulagelaw13_apart.b11 k l304 s_.1 s_.2) k ([], 0)).bind fun x_ => haulagelaw13_apart.j12 k l304 x_
def haulagelaw13_apart.b5 (k : Nat) (l155 : List (List Int)) (i156 : Int) : Option (Ctl ((List (List Int)) × Int) (List (List Int))) := if i156 < (l155.length : Int) then ((loop (fun (s_ : (List (List Int)) × Int) => haulagelaw13_apart.b3 i156 s_.1 s_.2) k (l155, 0)).bind fun x_ => haulagelaw13_apart.j4 i156 x_) else (some (.done l155))
def haulagelaw13_apart.f (k : Nat) (a1 : List (List Int)) : Option Bool := (loop (fun (s_ : (List (List Int)) × Int) => haulagelaw13_apart.b5 k s_.1 s_.2) k (a1, 0)).bind fun x_ => haulagelaw13_apart.j6 k x_
def haulagelaw13_parted.b3 (l125 : List (Option (List Value))) (i126 : Int) : Option (Ctl ((List (Option (List Value))) × Int) (List (Option (List Value)))) := if i126 < (l125.length : Int) then (if 0 ≤ i126 ∧ i126 < (l125.length : Int) then (some (.next ((l125.set i126.toNat (some ([.slice none 0 0, .slice none 0 0, .int .i64 (IntKind.i64.wrap (20000 + i126))] : List Value))), IntKind.i64.wrap (i126 + 1)))) else none) else (some (.done l125))
def haulagelaw13_parted.b5 (l171 : List (Option (List Value))) (i175 : Int) : Option (Ctl ((List (Option (List Value))) × Int) (List (Option (List Value)))) := if i175 < 20 then (if (l171.length + [some ([.slice none 0 0, .slice none 0 0, .int .i64 (IntKind.i64.wrap ((-1) - i175))] : List Value)].length) * 56 ≤ 140737488355328 then (some (.next ((l171 ++ [some ([.slice none 0 0, .slice none 0 0, .int .i64 (IntKind.i64.wrap ((-1) - i175))] : List Value)]), IntKind.i64.wrap (i175 + 1)))) else none) else (some (.done l171))
def haulagelaw13_parted.b7 (l225 : List (Option (List Value))) (i229 : Int) : Option (Ctl ((List (Option (List Value))) × Int) (List (Option (List Value)))) := if i229 < 20 then (if (l225.length + [some ([.slice none 0 0, .slice none 0 0, .int .i64 (IntKind.i64.wrap ((-100) - i229))] : List Value)].length) * 56 ≤ 140737488355328 then (some (.next ((l225 ++ [some ([.slice none 0 0, .slice none 0 0, .int .i64 (IntKind.i64.wrap ((-100) - i229))] : List Value)]), IntKind.i64.wrap (i229 + 1)))) else none) else (some (.done l225))
def haulagelaw13_parted.b9 (l84 : List (Option (List Value))) (i279 : Int) : Option (Ctl Int (Sum Unit Bool)) := if i279 < (l84.length : Int) then (if 0 ≤ i279 ∧ i279 < (l84.length : Int) then (rawI .i64 (rd l84 i279) 2 fun i306 => (if i306 = (IntKind.i64.wrap (100 + i279)) then (some (.next (IntKind.i64.wrap (i279 + 1)))) else (some (.done (.inr false))))) else none) else (some (.done (.inl ())))
def haulagelaw13_parted.b11 (l162 : List (Option (List Value))) (i318 : Int) : Option (Ctl Int (Sum Unit Bool)) := if i318 < (l162.length : Int) then (if 0 ≤ i318 ∧ i318 < (l162.length : Int) then (rawI .i64 (rd l162 i318) 2 fun i345 => (if i345 = (IntKind.i64.wrap (20000 + i318)) then (some (.next (IntKind.i64.wrap (i318 + 1)))) else (some (.done (.inr false))))) else none) else (some (.done (.inl ())))
def haulagelaw13_parted.j13 (i357 : Int) (b404 : Bool) : Option (Ctl Int (Sum Unit Bool)) := if b404 = true then (some (.done (.inr false))) else (some (.next (IntKind.i64.wrap (i357 + 1))))
def haulagelaw13_parted.b14 (l84 : List (Option (List Value))) (l162 : List (Option (List Value))) (l214 : List (Option (List Value))) (l268 : List (Option (List Value))) (i357 : Int) : Option (Ctl Int (Sum Unit Bool)) := if i357 < 20 then (if 0 ≤ (IntKind.i64.wrap ((l84.length : Int) + i357)) ∧ (IntKind.i64.wrap ((l84.length : Int) + i357)) < (l214.length : Int) then (rawI .i64 (rd l214 (IntKind.i64.wrap ((l84.length : Int) + i357))) 2 fun i384 => (if i384 = (IntKind.i64.wrap ((-1) - i357)) then (if 0 ≤ (IntKind.i64.wrap ((l162.length : Int) + i357)) ∧ (IntKind.i64.wrap ((l162.length : Int) + i357)) < (l268.length : Int) then (rawI .i64 (rd l268 (IntKind.i64.wrap ((l162.length : Int) + i357))) 2 fun i400 => (haulagelaw13_parted.j13 i357 (!decide (i400 = (IntKind.i64.wrap ((-100) - i357)))))) else none) else (haulagelaw13_parted.j13 i357 true))) else none) else (some (.done (.inl ())))
def haulagelaw13_parted.j15 : Option Bool := some true
def haulagelaw13_parted.j12 (k : Nat) (l84 : List (Option (List Value))) (l162 : List (Option (List Value))) (l214 : List (Option (List Value))) (l268 : List (Option (List Value))) : Option Bool := (loop (fun (s_ : Int) => haulagelaw13_parted.b14 l84 l162 l214 l268 s_) k 0).bind fun x_ => match x_ with | .inl y_ => haulagelaw13_parted.j15 | .inr q_ => some q_
def haulagelaw13_parted.j10 (k : Nat) (l84 : List (Option (List Value))) (l162 : List (Option (List Value))) (l214 : List (Option (List Value))) (l268 : List (Option (List Value))) : Option Bool := (loop (fun (s_ : Int) => haulagelaw13_parted.b11 l162 s_) k 0).bind fun x_ => match x_ with | .inl y_ => haulagelaw13_parted.j12 k l84 l162 l214 l268 | .inr q_ => some q_
def haulagelaw13_parted.j8 (k : Nat) (l84 : List (Option (List Value))) (l162 : List (Option (List Value))) (l214 : List (Option (List Value))) (l268 : List (Option (List Value))) : Option Bool := (loop (fun (s_ : Int) => haulagelaw13_parted.b9 l84 s_) k 0).bind fun x_ => match x_ with | .inl y_ => haulagelaw13_parted.j10 k l84 l162 l214 l268 | .inr q_ => some q_
def haulagelaw13_parted.j6 (k : Nat) (l84 : List (Option (List Value))) (l162 : List (Option (List Value))) (l214 : List (Option (List Value))) : Option Bool := (loop (fun (s_ : (List (Option (List Value))) × Int) => haulagelaw13_parted.b7 s_.1 s_.2) k (l162, 0)).bind fun x_ => haulagelaw13_parted.j8 k l84 l162 l214 x_
def haulagelaw13_parted.j4 (k : Nat) (l84 : List (Option (List Value))) (l162 : List (Option (List Value))) : Option Bool := (loop (fun (s_ : (List (Option (List Value))) × Int) => haulagelaw13_parted.b5 s_.1 s_.2) k (l84, 0)).bind fun x_ => haulagelaw13_parted.j6 k l84 l162 x_
def haulagelaw13_parted.j2 (k : Nat) (a6 : List (Option (List Value))) (l84 : List (Option (List Value))) : Option Bool := (loop (fun (s_ : (List (Option (List Value))) × Int) => haulagelaw13_parted.b3 s_.1 s_.2) k (a6, 0)).bind fun x_ => haulagelaw13_parted.j4 k l84 x_
def haulagelaw13_parted.b1 (l47 : List (Option (List Value))) (i48 : Int) : Option (Ctl ((List (Option (List Value))) × Int) (List (Option (List Value)))) := if i48 < (l47.length : Int) then (if 0 ≤ i48 ∧ i48 < (l47.length : Int) then (some (.next ((l47.set i48.toNat (some ([.slice none 0 0, .slice none 0 0, .int .i64 (IntKind.i64.wrap (100 + i48))] : List Value))), IntKind.i64.wrap (i48 + 1)))) else none) else (some (.done l47))
def haulagelaw13_parted.f (k : Nat) (a1 : List (Option (List Value))) (a6 : List (Option (List Value))) : Option Bool := (loop (fun (s_ : (List (Option (List Value))) × Int) => haulagelaw13_parted.b1 s_.1 s_.2) k (a1, 0)).bind fun x_ => haulagelaw13_parted.j2 k a6 x_
def haulagelaw13_TableOwn.b7 (i637 : Int) (l641 : List Int) : Option (Ctl (Int × (List Int)) (List Int)) := if i637 < (l641.length : Int) then (if 0 ≤ i637 ∧ i637 < (l641.length : Int) then (if 0 ≤ i637 ∧ i637 < (l641.length : Int) then (some (.next (IntKind.i64.wrap (i637 + 1), (l641.set i637.toNat (bxor .u8 (rd l641 i637) 255))))) else none) else none) else (some (.done l641))
def haulagelaw13_TableOwn.j8 (t65 : api_Op) (t89 : api_Answer × Int × (Option Tab)) (t148 : api_Answer) (l371 : List api_Answer) (l375 : List api_Answer) (l379 : List (List Int)) (i383 : Int) (l595 : List Int) (l684 : List Int) : Option (Ctl ((Option Tab) × (List api_Answer) × (List api_Answer) × (List (List Int)) × Int) ((Option Tab) × (List api_Answer) × (List api_Answer) × (List (List Int)))) := if l595.length = t65.Key.length then (if l684.length = t65.Value.length then (some (.next (t89.2.2, (l371 ++ [t89.1]), (l375 ++ [t148]), ((l379 ++ [l595]) ++ [l684]), IntKind.i64.wrap (i383 + 1)))) else none) else none
def haulagelaw13_TableOwn.j6 (k : Nat) (t65 : api_Op) (t89 : api_Answer × Int × (Option Tab)) (t148 : api_Answer) (l371 : List api_Answer) (l375 : List api_Answer) (l379 : List (List Int)) (i383 : Int) (l595 : List Int) : Option (Ctl ((Option Tab) × (List api_Answer) × (List api_Answer) × (List (List Int)) × Int) ((Option Tab) × (List api_Answer) × (List api_Answer) × (List (List Int)))) := (loop (fun (s_ : Int × (List Int)) => haulagelaw13_TableOwn.b7 s_.1 s_.2) k (0, t65.Value)).bind fun x_ => haulagelaw13_TableOwn.j8 t65 t89 t148 l371 l375 l379 i383 l595 x_
def haulagelaw13_TableOwn.b5 (i548 : Int) (l552 : List Int) : Option (Ctl (Int × (List Int)) (List Int)) := if i548 < (l552.length : Int) then (if 0 ≤ i548 ∧ i548 < (l552.length : Int) then (if 0 ≤ i548 ∧ i548 < (l552.length : Int) then (some (.next (IntKind.i64.wrap (i548 + 1), (l552.set i548.toNat (bxor .u8 (rd l552 i548) 255))))) else none) else none) else (some (.done l552))
def haulagelaw13_TableOwn.b13 (l993 : List Int) (i994 : Int) : Option (Ctl ((List Int) × Int) (List Int)) := if i994 < (l993.length : Int) then (if 0 ≤ i994 ∧ i994 < (l993.length : Int) then (some (.next ((l993.set i994.toNat 0), IntKind.i64.wrap (i994 + 1)))) else none) else (some (.done l993))
def haulagelaw13_TableOwn.b18 (k : Nat) (l720 : List api_Answer) (l724 : List api_Answer) (l1222 : List (List Int)) (i1226 : Int) : Option (Ctl ((List (List Int)) × Int) (Sum (List (List Int)) Bool)) := if i1226 < (l720.length : Int) then (if 0 ≤ i1226 ∧ i1226 < (l720.length : Int) then (if 0 ≤ i1226 ∧ i1226 < (l724.length : Int) then ((haulagelaw13_sameAnswer.f k (rd l720 i1226) (rd l724 i1226)).bind fun t1277 => if t1277 = true then (if (l1222.length + [(rd l720 i1226).Key, (rd l720 i1226).Value].length) * 24 ≤ 140737488355328 then (some (.next ((l1222 ++ [(rd l720 i1226).Key, (rd l720 i1226).Value]), IntKind.i64.wrap (i1226 + 1)))) else none) else (some (.done (.inr false)))) else none) else none) else (some (.done (.inl l1222)))
def haulagelaw13_TableOwn.b20 (t772 : (List api_Row)) (t782 : (List api_Row)) (l1328 : List (List Int)) (i1332 : Int) : Option (Ctl ((List (List Int)) × Int) (List (List Int))) := if i1332 < (t772.length : Int) then (if 0 ≤ i1332 ∧ i1332 < (t772.length : Int) then (if 0 ≤ i1332 ∧ i1332 < (t782.length : Int) then (if (l1328.length + [(rd t772 i1332).Key, (rd t772 i1332).Value, (rd t782 i1332).Key, (rd t782 i1332).Value].length) * 24 ≤ 140737488355328 then (some (.next ((l1328 ++ [(rd t772 i1332).Key, (rd t772 i1332).Value, (rd t782 i1332).Key, (rd t782 i1332).Value]), IntKind.i64.wrap (i1332 + 1)))) else none) else none) else none) else (some (.done l1328))
def haulagelaw13_TableOwn.j22 (k : Nat) (o718 : Option Tab) (t735 : (List Int)) (t921 : api_Answer × Int × (Option Tab)) (b1490 : Bool) : Option Bool := if b1490 = true then (some false) else ((table_Table_Bytes.f k o718).bind fun t1497 => (haulagelaw13_same.f k t1497 t735).bind fun t1507 => if t1507 = true then ((table_Table_Bytes.f k t921.2.2).bind fun t1515 => (haulagelaw13_same.f k t1515 t735).bind fun t1525 => some t1525) else (some false))
def haulagelaw13_TableOwn.j21 (k : Nat) (o718 : Option Tab) (t735 : (List Int)) (t761 : (List Int)) (t772 : (List api_Row)) (t782 : (List api_Row)) (t883 : api_Answer × Int × (Option Tab)) (t921 : api_Answer × Int × (Option Tab)) (t1114 : api_Op) (l1423 : List (List Int)) : Option Bool := if (l1423.length + [t735, t761, t883.1.Key, t883.1.Value, t921.1.Key, t921.1.Value, (t1114.Key.set (0 : Int).toNat 6), (t1114.Value.set (0 : Int).toNat 2)].length) * 24 ≤ 140737488355328 then ((haulagelaw13_apart.f k (l1423 ++ [t735, t761, t883.1.Key, t883.1.Value, t921.1.Key, t921.1.Value, (t1114.Key.set (0 : Int).toNat 6), (t1114.Value.set (0 : Int).toNat 2)])).bind fun t1475 => if t1475 = true then ((haulagelaw13_parted.f k (List.replicate t772.length (none : Option (List Value))) (List.replicate t782.length (none : Option (List Value)))).bind fun t1483 => haulagelaw13_TableOwn.j22 k o718 t735 t921 (!t1483)) else (haulagelaw13_TableOwn.j22 k o718 t735 t921 true)) else none
def haulagelaw13_TableOwn.j19 (k : Nat) (o718 : Option Tab) (t735 : (List Int)) (t761 : (List Int)) (t772 : (List api_Row)) (t782 : (List api_Row)) (t883 : api_Answer × Int × (Option Tab)) (t921 : api_Answer × Int × (Option Tab)) (t1114 : api_Op) (l1320 : List (List Int)) : Option Bool := (loop (fun (s_ : (List (List Int)) × Int) => haulagelaw13_TableOwn.b20 t772 t782 s_.1 s_.2) k (l1320, 0)).bind fun x_ => haulagelaw13_TableOwn.j21 k o718 t735 t761 t772 t782 t883 t921 t1114 x_
def haulagelaw13_TableOwn.j17 (k : Nat) (o718 : Option Tab) (l720 : List api_Answer) (l724 : List api_Answer) (l728 : List (List Int)) (t735 : (List Int)) (t761 : (List Int)) (t772 : (List api_Row)) (t782 : (List api_Row)) (t883 : api_Answer × Int × (Option Tab)) (t921 : api_Answer × Int × (Option Tab)) (t1114 : api_Op) (b1214 : Bool) : Option Bool := if b1214 = true then (some false) else ((loop (fun (s_ : (List (List Int)) × Int) => haulagelaw13_TableOwn.b18 k l720 l724 s_.1 s_.2) k (l728, 0)).bind fun x_ => match x_ with | .inl y_ => haulagelaw13_TableOwn.j19 k o718 t735 t761 t772 t782 t883 t921 t1114 y_ | .inr q_ => some q_)
def haulagelaw13_TableOwn.j16 (k : Nat) (o718 : Option Tab) (l720 : List api_Answer) (l724 : List api_Answer) (l728 : List (List Int)) (t735 : (List Int)) (t761 : (List Int)) (t772 : (List api_Row)) (t782 : (List api_Row)) (t883 : api_Answer × Int × (Option Tab)) (t921 : api_Answer × Int × (Option Tab)) (t1047 : (Option Tab) × Int) (b1093 : Bool) : Option Bool := if b1093 = true then (some false) else ((haulagelaw13_put.f [5, 5] [1]).bind fun t1114 => (table_Table_Do.f k t1047.1 t1114).bind fun t1138 => if 0 ≤ (0 : Int) ∧ (0 : Int) < (t1114.Key.length : Int) then (if 0 ≤ (0 : Int) ∧ (0 : Int) < (t1114.Value.length : Int) then ((table_Table_Do.f k t1138.2.2 (api_Op.mk t1114.Kind (t1114.Key.set (0 : Int).toNat 6) (t1114.Value.set (0 : Int).toNat 2) t1114.Rev)).bind fun t1180 => if t1180.1.Rev = 0 then ((table_Table_Len.f t1180.2.2).bind fun t1207 => haulagelaw13_TableOwn.j17 k o718 l720 l724 l728 t735 t761 t772 t782 t883 t921 t1114 (!decide (t1207 = 2))) else (haulagelaw13_TableOwn.j17 k o718 l720 l724 l728 t735 t761 t772 t782 t883 t921 t1114 true)) else none) else none)
def haulagelaw13_TableOwn.j15 (k : Nat) (o718 : Option Tab) (l720 : List api_Answer) (l724 : List api_Answer) (l728 : List (List Int)) (t735 : (List Int)) (t761 : (List Int)) (t772 : (List api_Row)) (t782 : (List api_Row)) (t883 : api_Answer × Int × (Option Tab)) (t921 : api_Answer × Int × (Option Tab)) (l1042 : List Int) : Option Bool := (table_Read.f k l1042).bind fun t1047 => if t1047.2 = 0 then (if (Option.isNone t1047.1) = true then (haulagelaw13_TableOwn.j16 k o718 l720 l724 l728 t735 t761 t772 t782 t883 t921 t1047 true) else ((table_Table_Len.f t1047.1).bind fun t1060 => if t1060 = 0 then ((table_Table_Rev.f t1047.1).bind fun t1068 => if t1068 = 0 then ((table_Table_Bytes.f k t921.2.2).bind fun t1076 => (haulagelaw13_same.f k t1076 t735).bind fun t1086 => haulagelaw13_TableOwn.j16 k o718 l720 l724 l728 t735 t761 t772 t782 t883 t921 t1047 (!t1086)) else (haulagelaw13_TableOwn.j16 k o718 l720 l724 l728 t735 t761 t772 t782 t883 t921 t1047 true)) else (haulagelaw13_TableOwn.j16 k o718 l720 l724 l728 t735 t761 t772 t782 t883 t921 t1047 true))) else (haulagelaw13_TableOwn.j16 k o718 l720 l724 l728 t735 t761 t772 t782 t883 t921 t1047 true)
def haulagelaw13_TableOwn.j14 (k : Nat) (o718 : Option Tab) (l720 : List api_Answer) (l724 : List api_Answer) (l728 : List (List Int)) (t735 : (List Int)) (t761 : (List Int)) (t772 : (List api_Row)) (t782 : (List api_Row)) (t883 : api_Answer × Int × (Option Tab)) (t921 : api_Answer × Int × (Option Tab)) (l1027 : List Int) : Option Bool := if 2 < (l1027.length : Int) then (if 0 ≤ (2 : Int) ∧ (2 : Int) ≤ (l1027.length : Int) then (haulagelaw13_TableOwn.j15 k o718 l720 l724 l728 t735 t761 t772 t782 t883 t921 (l1027.take (2 : Int).toNat)) else none) else (haulagelaw13_TableOwn.j15 k o718 l720 l724 l728 t735 t761 t772 t782 t883 t921 l1027)
def haulagelaw13_TableOwn.j12 (k : Nat) (o718 : Option Tab) (l720 : List api_Answer) (l724 : List api_Answer) (l728 : List (List Int)) (t735 : (List Int)) (t761 : (List Int)) (t772 : (List api_Row)) (t782 : (List api_Row)) (t883 : api_Answer × Int × (Option Tab)) (t921 : api_Answer × Int × (Option Tab)) (b955 : Bool) : Option Bool := if b955 = true then (some false) else ((loop (fun (s_ : (List Int) × Int) => haulagelaw13_TableOwn.b13 s_.1 s_.2) k (t735, 0)).bind fun x_ => haulagelaw13_TableOwn.j14 k o718 l720 l724 l728 t735 t761 t772 t782 t883 t921 x_)
def haulagelaw13_TableOwn.j11 (k : Nat) (a5 : List Int) (o718 : Option Tab) (l720 : List api_Answer) (l724 : List api_Answer) (l728 : List (List Int)) (t735 : (List Int)) (t761 : (List Int)) (t772 : (List api_Row)) (t782 : (List api_Row)) (t808 : (Option Tab) × Int) (b863 : Bool) : Option Bool := if b863 = true then (some false) else ((haulagelaw13_get.f a5).bind fun t870 => (table_Table_Do.f k t808.1 t870).bind fun t883 => (haulagelaw13_get.f a5).bind fun t908 => (table_Table_Do.f k t883.2.2 t908).bind fun t921 => if t883.2.1 = t921.2.1 then ((haulagelaw13_sameAnswer.f k t883.1 t921.1).bind fun t948 => haulagelaw13_TableOwn.j12 k o718 l720 l724 l728 t735 t761 t772 t782 t883 t921 (!t948)) else (haulagelaw13_TableOwn.j12 k o718 l720 l724 l728 t735 t761 t772 t782 t883 t921 true))
def haulagelaw13_TableOwn.j10 (k : Nat) (a1 : List api_Op) (a5 : List Int) (o718 : Option Tab) (l720 : List api_Answer) (l724 : List api_Answer) (l728 : List (List Int)) : Option Bool := (table_Table_Bytes.f k o718).bind fun t735 => if t735.length * 1 ≤ 140737488355328 then ((table_Table_Bytes.f k o718).bind fun t761 => (table_Table_Rows.f o718).bind fun t772 => (table_Table_Rows.f o718).bind fun t782 => if t735.length * 1 ≤ 140737488355328 then ((table_Read.f k t735).bind fun t808 => if t808.2 = 0 then (if (Option.isNone t808.1) = true then (haulagelaw13_TableOwn.j11 k a5 o718 l720 l724 l728 t735 t761 t772 t782 t808 true) else ((haulagelaw13_same.f k t761 t735).bind fun t821 => if t821 = true then ((haulagelaw13_sameRows.f k t772 t782).bind fun t829 => if t829 = true then ((haulagelaw13_made.f k a1).bind fun t837 => (table_Table_Bytes.f k t837).bind fun t846 => (haulagelaw13_same.f k t735 t846).bind fun t856 => haulagelaw13_TableOwn.j11 k a5 o718 l720 l724 l728 t735 t761 t772 t782 t808 (!t856)) else (haulagelaw13_TableOwn.j11 k a5 o718 l720 l724 l728 t735 t761 t772 t782 t808 true)) else (haulagelaw13_TableOwn.j11 k a5 o718 l720 l724 l728 t735 t761 t772 t782 t808 true))) else (haulagelaw13_TableOwn.j11 k a5 o718 l720 l724 l728 t735 t761 t772 t782 t808 true)) else none) else none
def haulagelaw13_TableOwn.b9 (k : Nat) (a1 : List api_Op) (o370 : Option Tab) (l371 : List api_Answer) (l375 : List api_Answer) (l379 : List (List Int)) (i383 : Int) : Option (Ctl ((Option Tab) × (List api_Answer) × (List api_Answer) × (List (List Int)) × Int) ((Option Tab) × (List api_Answer) × (List api_Answer) × (List (List Int)))) := if i383 < (a1.length : Int) then (if 0 ≤ i383 ∧ i383 < (a1.length : Int) then ((haulagelaw13_lentOp.f (rd a1 i383)).bind fun t65 => (table_Table_Do.f k o370 t65).bind fun t89 => if (l379.length + [t65.Key, t65.Value].length) * 24 ≤ 140737488355328 then (if (l371.length + [t89.1].length) * 72 ≤ 140737488355328 then ((haulagelaw13_copyOf.f t89.1).bind fun t148 => if (l375.length + [t148].length) * 72 ≤ 140737488355328 then ((loop (fun (s_ : Int × (List Int)) => haulagelaw13_TableOwn.b5 s_.1 s_.2) k (0, t65.Key)).bind fun x_ => haulagelaw13_TableOwn.j6 k t65 t89 t148 l371 l375 l379 i383 x_) else none) else none) else none) else none) else (some (.done (o370, l371, l375, l379)))
def haulagelaw13_TableOwn.f (k : Nat) (a1 : List api_Op) (a5 : List Int) : Option Bool := (haulagelaw13_awake.f k).bind fun t12 => if t12 = true then ((table_New.f).bind fun t22 => (loop (fun (s_ : (Option Tab) × (List api_Answer) × (List api_Answer) × (List (List Int)) × Int) => haulagelaw13_TableOwn.b9 k a1 s_.1 s_.2.1 s_.2.2.1 s_.2.2.2.1 s_.2.2.2.2) k (t22, [], [], [], 0)).bind fun x_ => haulagelaw13_TableOwn.j10 k a1 a5 x_.1 x_.2.1 x_.2.2.1 x_.2.2.2) else (some false)
def lk : List (Nat × Value) → Nat → Option Value
 | [], _ => none
 | x :: l, t => bif Nat.beq x.1 t then some x.2 else lk l t
def ev (L : List (Nat × Value)) : Operand → Option Value
 | .tmp t => lk L t
 | .const v => some v
 | .global g => some (.pointer (some ⟨g, 0, none⟩))
 | .func f => some (.func (.func f) #[] #[])
structure Fr (a : Act) (N : Nat) (L : List (Nat × Value)) (D : List Deferred := []) : Prop where
 dfr : a.defers = D
 size : a.tmps.size = N
 get : ∀ t v, lk L t = some v → a.tmps.getD t undef = v
section
variable {a : Act} {N : Nat} {L L' : List (Nat × Value)} {v : Value} {x : Operand} {D : List Deferred}
theorem Fr.ev (h : Fr a N L D) (hx : G.ev L x = some v) : a.eval x = v := by
 cases x with
 | tmp t => exact h.get t v hx
 | const u => exact Option.some.inj hx
 | global g => exact Option.some.inj hx
 | func f => exact Option.some.inj hx
theorem Fr.put (h : Fr a N L D) {d : Nat} (v : Value) (hd : d < N) : Fr (a.put (some d) v) N ((d, v) :: L) D := by
 refine ⟨h.dfr, by show (a.tmps.setIfInBounds d v).size = N; rw [Array.size_setIfInBounds]; exact h.size, fun t u hu => ?_⟩
 show (a.tmps.setIfInBounds d v).getD t undef = u
 have hs := h.size
 unfold lk at hu
 cases hb : Nat.beq d t with
 | true =>
  rw [hb] at hu
  have e : d = t := Nat.eq_of_beq_eq_true hb
  subst e
  simp only [cond_true] at hu
  rw [← Option.some.inj hu]
  simp [Array.getD, hs, hd]
 | false =>
  rw [hb] at hu
  simp only [cond_false] at hu
  have e : d ≠ t := Nat.ne_of_beq_eq_false hb
  have hg := h.get t u hu
  rw [← hg]
  simp only [Array.getD_eq_getD_getElem?]
  rw [Array.getElem?_setIfInBounds_ne e]
def Sub (L : List (Nat × Value)) : List (Nat × Value) → Prop
 | [] => True
 | x :: l => lk L x.1 = some x.2 ∧ Sub L l
theorem Sub.spec : ∀ {l : List (Nat × Value)}, Sub L l → ∀ t v, lk l t = some v → lk L t = some v
 | [], _, t, v, h => by cases h
 | x :: l, hs, t, v, h => by
  unfold lk at h
  cases hb : Nat.beq x.1 t with
  | true =>
   rw [hb] at h; simp only [cond_true] at h
   have e : x.1 = t := Nat.eq_of_beq_eq_true hb
   rw [← e, ← Option.some.inj h]; exact hs.1
  | false => rw [hb] at h; exact Sub.spec hs.2 t v h
theorem Fr.sub (h : Fr a N L D) (hs : Sub L L') : Fr a N L' D := ⟨h.dfr, h.size, fun t v hv => h.get t v (hs.spec t v hv)⟩
def enum : Nat → List Value → List (Nat × Value)
 | _, [] => []
 | i, v :: l => (i, v) :: enum (i + 1) l
theorem enum_spec : ∀ (l : List Value) (i t : Nat) (v : Value), lk (enum i l) t = some v → i ≤ t ∧ l[t - i]? = some v
 | [], _, _, _, h => by cases h
 | u :: l, i, t, v, h => by
  unfold enum lk at h
  cases hb : Nat.beq i t with
  | true =>
   rw [hb] at h; simp only [cond_true] at h
   have e : i = t := Nat.eq_of_beq_eq_true hb
   subst e
   exact ⟨Nat.le_refl _, by rw [Nat.sub_self]; exact h⟩
  | false =>
   rw [hb] at h; simp only [cond_false] at h
   obtain ⟨h1, h2⟩ := enum_spec l (i + 1) t v h
   exact ⟨by omega, by rw [show t - i = (t - (i + 1)) + 1 by omega]; exact h2⟩
theorem Fr.enter (l : List Value) (n : Nat) (hN : l.length + n = N) : Fr { tmps := l.toArray ++ Array.replicate n undef, defers := [] } N (enum 0 l) := by
 refine ⟨rfl, by simp [hN], fun t v h => ?_⟩
 obtain ⟨_, h2⟩ := enum_spec l 0 t v h
 rw [Nat.sub_zero] at h2
 have hlt : t < l.length := (List.getElem?_eq_some_iff.1 h2).1
 simp only [Array.getD_eq_getD_getElem?]
 rw [Array.getElem?_append_left (by simpa using hlt)]
 simp [h2]
end
section
variable {P : Program} {a : Act} {N : Nat} {L : List (Nat × Value)} {w : World}
theorem enter {f : FuncId} {fn : Func} {c : Code} {l : List Value} {R : Ending → World → Prop} (hf : P.funcs[f]? = some fn) (hb : fn.body = some c) (hn : fn.ntmps = N) (hl : l.length ≤ N)
  (h : ∀ a, Fr a N (enum 0 l) → c.wp P (bodyPost P fn R) a w) : Calls P f l.toArray w R := by
 refine calls_of_wp hf hb ?_
 refine h _ ?_
 rw [show l.toArray.size = l.length by simp, hn]
 exact Fr.enter l (N - l.length) (by omega)
theorem out0 {fn : Func} {R : Ending → World → Prop} (F : Fr a N L) (hr : fn.results = #[]) (h : R (.returned (.tuple #[])) w) : bodyPost P fn R .ret a w :=
 ⟨F.dfr, _, results_none hr _ P w, h⟩
theorem out0n {fn : Func} {R : Ending → World → Prop} (F : Fr a N L) (hr : fn.results = #[]) (h : R (.returned (.tuple #[])) w) : bodyPost P fn R .normal a w :=
 ⟨F.dfr, _, results_none hr _ P w, h⟩
theorem out1 {fn : Func} {t : Tmp} {v : Value} {R : Ending → World → Prop} (F : Fr a N L) (hr : fn.results = #[.tmp t]) (hv : lk L t = some v) (h : R (.returned v) w) : bodyPost P fn R .ret a w :=
 ⟨F.dfr, v, by rw [results_tmp hr]; rw [F.get t v hv], h⟩
theorem out2 {fn : Func} {t1 t2 : Tmp} {v1 v2 : Value} {R : Ending → World → Prop} (F : Fr a N L) (hr : fn.results = #[.tmp t1, .tmp t2]) (h1 : lk L t1 = some v1) (h2 : lk L t2 = some v2) (h : R (.returned (.tuple #[v1, v2])) w) : bodyPost P fn R .ret a w :=
 ⟨F.dfr, .tuple #[v1, v2], by rw [results_tmp2 hr]; rw [F.get t1 v1 h1, F.get t2 v2 h2], h⟩
end
def upto (P : Program) (o : Oper) (a : Act) (K : Act → World → Prop) : Result Next → Prop
 | .ok (.value v) w' => K (a.put o.dst v) w'
 | .ok .skip w' => K (a.put o.dst undef) w'
 | .ok (.enter f args) w' => Calls P f args w' fun e w'' => ∃ v, e = .returned v ∧ K (a.put o.dst v) w''
 | .ok (.round l f tmps assign body) w' => RoundIn Fence.wide 0 P l f tmps assign body w' fun e w'' => ∃ v, e = .returned v ∧ K (a.put o.dst v) w''
 | _ => False
def OW (P : Program) (o : Oper) (a : Act) (w : World) (K : Act → World → Prop) : Prop := (∀ c, o.op ≠ .defer c) ∧ upto P o a K ((execOp a.eval o).run P w)
theorem OW.mono {P : Program} {o : Oper} {a : Act} {w : World} {K K' : Act → World → Prop} (hK : ∀ a w, K a w → K' a w) (h : OW P o a w K) : OW P o a w K' := by
 refine ⟨h.1, ?_⟩
 have h := h.2
 generalize (execOp a.eval o).run P w = r at *
 cases r with
 | ok n w' =>
  cases n <;> simp only [upto] at h ⊢ <;> first
   | exact hK _ _ h
   | exact Calls.mono h (fun e w'' ⟨v, he, hk⟩ => ⟨v, he, hK _ _ hk⟩)
   | exact RoundIn.mono h (fun e w'' ⟨v, he, hk⟩ => ⟨v, he, hK _ _ hk⟩)
 | halt x w' => simp only [upto] at h
def Fw (ro : Option Nat) : Fence := { Fence.wide with round := ro }
theorem callsIn_Fw {P : Program} {ro : Option Nat} {n : Nat} {f : FuncId} {args : Array Value} {w : World} {R : Ending → World → Prop} (h : Calls P f args w R) : CallsIn (Fw ro) n P f args w R := by
 have h2 : CallsIn Fence.wide n P f args w R := callsIn_wide.2 h
 cases ro with
 | none => exact h2
 | some l => exact h2.inRound l
theorem RoundIn_Fw {P : Program} {ro : Option Nat} {l : Nat} {f : FuncId} {tmps : Array Value} {assign body : Code} {w : World} {R : Ending → World → Prop} (h : RoundIn Fence.wide 0 P l f tmps assign body w R) : RoundIn (Fw ro) 0 P l f tmps assign body w R := by
 refine ⟨trivial, fun c cs hr => ?_⟩
 have := h.2 c cs (room_wide _)
 exact this
theorem OW.wpIn {P : Program} {o : Oper} {a : Act} {w : World} {K : Act → World → Prop} {Q : Exit → Act → World → Prop} {ro : Option Nat} (h : OW P o a w K) : o.wpIn (Fw ro) 0 P a w K Q := by
 obtain ⟨hd, h⟩ := h
 refine ⟨fun _ _ => trivial, ?_⟩
 have e : o.semAt (Fw ro).round a.eval = execOp a.eval o := Oper.semAt_eq _ _ _ hd
 rw [e]
 generalize (execOp a.eval o).run P w = r at *
 cases r with
 | ok n w' =>
  cases n <;> simp only [upto] at h <;> simp only [Oper.uponIn] <;> first
   | exact h
   | exact ⟨fun q => by cases ro <;> simp [Fw, Fence.wide] at q, (callsIn_Fw h).mono (fun e w'' ⟨v, he, hk⟩ => by subst he; exact hk)⟩
   | exact ⟨fun q => by cases ro <;> simp [Fw, Fence.wide] at q, (RoundIn_Fw h).mono (fun e w'' ⟨v, he, hk⟩ => by subst he; exact hk)⟩
 | halt x w' => simp only [upto] at h
def wL (P : Program) (ops : Array Oper) (K : Act → World → Prop) : List Oper → Act → World → Prop
 | [], a, w => K a w
 | o :: rest, a, w => if Region.wanted o (yielded ops a.tmps) then OW P o a w (wL P ops K rest) else wL P ops K rest (a.put o.dst undef) w
theorem wL_in {P : Program} {ops : Array Oper} {Q : Exit → Act → World → Prop} {ro : Option Nat} : ∀ (l : List Oper) (a : Act) (w : World), wL P ops (Q .normal) l a w → wpListIn (Fw ro) 0 P ops Q l a w
 | [], a, w, h => h
 | o :: rest, a, w, h => by
  unfold wL at h
  unfold wpListIn
  split
  ·rename_i hw; rw [if_pos hw] at h
   exact (h.mono (fun a w hk => wL_in rest a w hk)).wpIn
  ·rename_i hw; rw [if_neg hw] at h
   exact ⟨fun _ _ => trivial, wL_in rest _ _ h⟩
section
variable {P : Program} {ops : Array Oper} {Q : Exit → Act → World → Prop} {K : Act → World → Prop} {a : Act} {N : Nat} {L : List (Nat × Value)} {D : List Deferred} {w w' : World} {v : Value} {rest : List Oper} {o : Oper} {d : Nat} {ro : Option Nat}
theorem regR {id : Nat} {l : List Oper} (h : wL P l.toArray (Q .normal) l a w) : (Code.region id l.toArray false).wpIn (Fw ro) 0 P Q a w :=
 wpIn_region_lit (wL_in l a w h)
theorem reg {id : Nat} {l : List Oper} (h : wL P l.toArray (Q .normal) l a w) : (Code.region id l.toArray false).wp P Q a w := wpIn_wide.1 (regR (ro := none) h)
theorem nil (h : K a w) : wL P ops K [] a w := h
theorem wL_plain (hg : o.guard = none) (h : OW P o a w (wL P ops K rest)) : wL P ops K (o :: rest) a w := by
 unfold wL; rw [if_pos (by simp [Region.wanted, hg])]; exact h
theorem no_defer {o : Oper} {r : Result Next} (hr : (execOp a.eval o).run P w = r) (hn : ∀ d w', r ≠ .ok (.defer d) w') (hh : ∀ x w', r ≠ .halt x w') : ∀ c, o.op ≠ .defer c := by
 intro c hc
 subst hr
 simp only [execOp, hc, Sem.run_bind] at hn hh
 cases h : (resolve a.eval c o.type).run P w with
 | ok d w1 => rw [h] at hn; exact hn d w1 rfl
 | halt x w1 => rw [h] at hh; exact hh x w1 rfl
theorem ow_value (hr : (execOp a.eval o).run P w = .ok (.value v) w') (h : K (a.put o.dst v) w') : OW P o a w K := ⟨no_defer hr (by simp) (by simp), by rw [hr]; exact h⟩
theorem ow_skip (hr : (execOp a.eval o).run P w = .ok .skip w') (h : K (a.put o.dst undef) w') : OW P o a w K := ⟨no_defer hr (by simp) (by simp), by rw [hr]; exact h⟩
theorem ow_enter {f : FuncId} {args : Array Value} (hr : (execOp a.eval o).run P w = .ok (.enter f args) w') (h : Calls P f args w' fun e w'' => ∃ v, e = .returned v ∧ K (a.put o.dst v) w'') : OW P o a w K := ⟨no_defer hr (by simp) (by simp), by rw [hr]; exact h⟩
theorem ow_yield {l : Nat} {args : Array Value} {R : Ending → World → Prop} (hr : (execOp a.eval o).run P w = (Instr.yield l args).run P w) (hy : YieldAt Fence.wide 0 P l args w R) (h : ∀ e w'', R e w'' → ∃ v, e = .returned v ∧ K (a.put o.dst v) w'') : OW P o a w K := by
 obtain ⟨fn, tmps, as_, body, hr2, hR⟩ := hy
 rw [hr2] at hr
 exact ⟨no_defer hr (by simp) (by simp), by rw [hr]; exact hR.mono h⟩
theorem q_val (F : Fr a N L D) (hg : o.guard = none) (hd : o.dst = some d) (hN : d < N) (hr : (execOp a.eval o).run P w = .ok (.value v) w')
  (k : ∀ a', Fr a' N ((d, v) :: L) D → wL P ops K rest a' w') : wL P ops K (o :: rest) a w :=
 wL_plain hg (ow_value hr (by rw [hd]; exact k _ (F.put v hN)))
theorem q_skip (F : Fr a N L D) (hg : o.guard = none) (hd : o.dst = none) (hr : (execOp a.eval o).run P w = .ok .skip w')
  (k : ∀ a', Fr a' N L D → wL P ops K rest a' w') : wL P ops K (o :: rest) a w :=
 wL_plain hg (ow_skip hr (by rw [hd]; exact k _ F))
theorem q_call (F : Fr a N L D) (hg : o.guard = none) (hd : o.dst = some d) (hN : d < N) {f : FuncId} {args : Array Value} {R : Ending → World → Prop} (hr : (execOp a.eval o).run P w = .ok (.enter f args) w) (hc : Calls P f args w R)
  (k : ∀ e w', R e w' → ∃ v, e = .returned v ∧ ∀ a', Fr a' N ((d, v) :: L) D → wL P ops K rest a' w') : wL P ops K (o :: rest) a w :=
 wL_plain hg (ow_enter hr (hc.mono fun e w' hR => by
  obtain ⟨v, he, hk⟩ := k e w' hR
  exact ⟨v, he, by rw [hd]; exact hk _ (F.put v hN)⟩))
theorem yielded_of (F : Fr a N L D) {j dj : Nat} {b : Bool} (hj : (ops[j]?).bind (·.dst) = some dj) (hN : dj < N) (hv : lk L dj = some (.bool b)) : yielded ops a.tmps j = some b := by
 unfold yielded
 have h := F.get dj _ hv
 have hs := F.size
 simp only [Array.getD_eq_getD_getElem?] at h
 rw [hj]
 simp only [Option.bind_some]
 rw [show a.tmps[dj]? = some (a.tmps[dj]'(by omega)) from Array.getElem?_eq_getElem (by omega)] at h ⊢
 simp only [Option.getD_some] at h
 rw [h]
theorem q_yes (F : Fr a N L D) {op : Op} {dst : Option Tmp} {ty : TypeId} {pos : String} {af : Array Edge} {j dj : Nat} {b c : Bool} (hj : (ops[j]?).bind (·.dst) = some dj) (hN : dj < N) (hv : lk L dj = some (.bool b)) (hb : b = c)
  (h : wL P ops K ({ dst := dst, op := op, type := ty, pos := pos, after := af, guard := none } :: rest) a w) : wL P ops K ({ dst := dst, op := op, type := ty, pos := pos, after := af, guard := some (j, c) } :: rest) a w := by
 unfold wL at h ⊢
 have hw : Region.wanted { dst := dst, op := op, type := ty, pos := pos, after := af, guard := some (j, c) } (yielded ops a.tmps) = true := by
  simp [Region.wanted, yielded_of F hj hN hv, hb]
 rw [if_pos hw]
 rw [if_pos (by simp [Region.wanted])] at h
 exact h
theorem q_no (F : Fr a N L D) {op : Op} {d : Nat} {ty : TypeId} {pos : String} {af : Array Edge} {j dj : Nat} {b c : Bool} (hj : (ops[j]?).bind (·.dst) = some dj) (hN : dj < N) (hv : lk L dj = some (.bool b)) (hb : b = !c) (hd : d < N)
  (k : ∀ a', Fr a' N ((d, undef) :: L) D → wL P ops K rest a' w) : wL P ops K ({ dst := some d, op := op, type := ty, pos := pos, after := af, guard := some (j, c) } :: rest) a w := by
 unfold wL
 have hw : Region.wanted { dst := some d, op := op, type := ty, pos := pos, after := af, guard := some (j, c) } (yielded ops a.tmps) = false := by
  subst hb; cases c <;> simp [Region.wanted, yielded_of F hj hN hv]
 rw [if_neg (by rw [hw]; simp)]
 exact k _ (F.put undef hd)
variable {S : World → Prop} {fin : Nat}
def wO (P : Program) (ops : Array Oper) (i : Nat) (K : Act → World → Prop) (a : Act) (w : World) : Prop :=
 match ops[i]? with
 | none => K a w
 | some o => if Region.wanted o (yielded ops a.tmps) then OW P o a w K else K (a.put o.dst undef) w
theorem wO_mono {i : Nat} {K K' : Act → World → Prop} (h : ∀ a w, K a w → K' a w) (hh : wO P ops i K a w) : wO P ops i K' a w := by
 unfold wO at *
 split
 ·exact h _ _ (by simpa [*] using hh)
 ·rename_i o ho
  simp only [ho] at hh
  split
  ·rename_i hw; simp only [hw, if_true] at hh; exact hh.mono h
  ·rename_i hw; simp only [hw] at hh; exact h _ _ hh
theorem wO_in {i : Nat} {K : Act → World → Prop} (hh : wO P ops i K a w) : wpOpIn (Fw ro) 0 P ops Q i K a w := by
 unfold wO at hh
 unfold wpOpIn
 split
 ·rename_i ho; simpa [ho] using hh
 ·rename_i o ho
  simp only [ho] at hh
  split
  ·rename_i hw; simp only [hw, if_true] at hh; exact hh.wpIn
  ·rename_i hw; simp only [hw] at hh; exact ⟨fun _ _ => trivial, hh⟩
def wpD (P : Program) (ops : Array Oper) (K : Act → World → Prop) (S : World → Prop) (fin : Nat) : Nat → Array Bool → Act → World → Prop
 | 0, listed, a, w => Region.ready .any ops listed = [] ∧ K a w
 | fuel + 1, listed, a, w =>
  (Region.ready .any ops listed = [] → K a w) ∧
  ∀ i ∈ Region.ready .any ops listed, wO P ops i (fun a' w' => (i ≠ fin → S w') ∧ wpD P ops K S fin fuel (listed.setIfInBounds i true) a' w') a w
theorem wpAny_of_D : ∀ (fuel : Nat) (listed : Array Bool) (a : Act) (w : World), wpD P ops (Q .normal) S fin fuel listed a w → wpAnyIn (Fw ro) 0 P .any ops Q fuel listed a w
 | 0, _, _, _, h => h
 | fuel + 1, _, _, _, h => ⟨h.1, fun i hi => wpOpIn_mono (fun a' w' h' => wpAny_of_D fuel _ a' w' h'.2) (wO_in (h.2 i hi))⟩
theorem wO_of_yields {i : Nat} {v : Value} {K : Act → World → Prop} (hi : ops[i]? = some o) (hy : YieldsIf P ops S o v a) (hS : S w) (h : K (a.put o.dst v) w) : wO P ops i K a w := by
 unfold wO
 simp only [hi]
 rcases hy with ⟨hw, hv⟩ | ⟨hw, rfl⟩
 ·simp only [hw, if_true]; exact ow_value (hv w hS) h
 ·simp only [hw, Bool.false_eq_true, if_false]; exact h
theorem wO_putIf {j : Nat} {oi oj : Oper} {v : Value} (hj : ops[j]? = some oj) (hap : oi.apart ops oj = true)
  (hsi : ∀ cs b, oi.op ≠ .select cs b) (hsj : ∀ cs b, oj.op ≠ .select cs b) {K : Act → World → Prop}
  (hy : YieldsIf P ops S oi v a) (h : wO P ops j K (a.put oi.dst v) w) :
  wO P ops j (fun a' w' => YieldsIf P ops S oi v a' ∧ K (a'.put oi.dst v) w') a w := by
 obtain ⟨h1, h2, h3⟩ := Oper.apart_spec hap
 have keep : ∀ (a : Act), YieldsIf P ops S oi v a → ∀ u, YieldsIf P ops S oi v (a.put oj.dst u) := fun a hy u =>
  hy.of_same (execOp_put oi hsi a oj.dst u h3) (wanted_put oi a oj.dst u h3)
 unfold wO at *
 simp only [hj] at *
 rw [wanted_put oj a oi.dst v h1] at h
 split
 ·rename_i hw
  simp only [hw, if_true] at h
  refine ⟨h.1, ?_⟩
  have h := h.2
  rw [execOp_put oj hsj a oi.dst v h1] at h
  generalize (execOp a.eval oj).run P w = r at *
  cases r with
  | ok n w' =>
   cases n <;> simp only [upto] at h ⊢
   case value u => exact ⟨keep a hy u, by rw [← Act.put_comm a v u h2]; exact h⟩
   case skip => exact ⟨keep a hy _, by rw [← Act.put_comm a v undef h2]; exact h⟩
   case enter f args => exact Calls.mono h fun e w'' ⟨u, he, hk⟩ => ⟨u, he, keep a hy u, by rw [← Act.put_comm a v u h2]; exact hk⟩
   case round l f tmps as_ body => exact RoundIn.mono h fun e w'' ⟨u, he, hk⟩ => ⟨u, he, keep a hy u, by rw [← Act.put_comm a v u h2]; exact hk⟩
  | halt x w' => simp only [upto] at h
 ·rename_i hw
  simp only [hw] at h
  exact ⟨keep a hy _, by rw [← Act.put_comm a v undef h2]; exact h⟩
theorem wpD_first {i : Nat} {oi : Oper} {v : Value} (hi : ops[i]? = some oi) (hsel : ∀ (j : Nat) (o : Oper) cs b, ops[j]? = some o → o.op ≠ .select cs b)
  (hfin : ∀ o, ops[fin]? = some o → fin ≠ i → ∃ e ∈ o.after, Region.binds .any e = true ∧ e.on = i) :
  ∀ (fuel : Nat) (listed : Array Bool) (a : Act) (w : World),
   (∀ j oj, ops[j]? = some oj → j ≠ i → listed.getD j true = false → (∀ e ∈ oj.after, Region.binds .any e = true → e.on ≠ i) → oi.apart ops oj = true) →
   i ∈ Region.ready .any ops listed → YieldsIf P ops S oi v a → S w →
   wpD P ops K S fin fuel (listed.setIfInBounds i true) (a.put oi.dst v) w → wpD P ops K S fin (fuel + 1) listed a w := by
 intro fuel
 induction fuel with
 | zero =>
  intro listed a w _ hr hy hS H
  refine ⟨fun h => (by rw [h] at hr; cases hr), fun j hj => ?_⟩
  by_cases hji : j = i
  ·subst hji; exact wO_of_yields hi hy hS ⟨fun _ => hS, H⟩
  ·have := ready_mono hj hji
   rw [H.1] at this
   cases this
 | succ fuel ih =>
  intro listed a w hfree hr hy hS H
  refine ⟨fun h => (by rw [h] at hr; cases hr), fun j hj => ?_⟩
  by_cases hji : j = i
  ·subst hji; exact wO_of_yields hi hy hS ⟨fun _ => hS, H⟩
  ·have h1 := H.2 j (ready_mono hj hji)
   obtain ⟨hjun, oj, hoj, hall⟩ := mem_ready.1 hj
   have hnot : ∀ e ∈ oj.after, Region.binds .any e = true → e.on ≠ i := fun e he hb heq => by
    have h1 := hall e he hb
    have h0 := (mem_ready.1 hr).1
    rw [heq] at h1
    rcases Nat.lt_or_ge i listed.size with h' | h'
    ·simp [h'] at h0 h1; rw [h0] at h1; cases h1
    ·simp [Array.getElem?_eq_none h'] at h1
   have hjf : j ≠ fin := fun e => by
    subst e
    obtain ⟨e, he, hb, he2⟩ := hfin oj hoj hji
    exact hnot e he hb he2
   have h2 := wO_putIf hoj (hfree j oj hoj hji hjun hnot) (fun cs b => hsel i oi cs b hi) (fun cs b => hsel j oj cs b hoj) hy h1
   have hfree' : ∀ k ok, ops[k]? = some ok → k ≠ i → (listed.setIfInBounds j true).getD k true = false →
     (∀ e ∈ ok.after, Region.binds .any e = true → e.on ≠ i) → oi.apart ops ok = true := fun k ok hk hki hun hno => by
    refine hfree k ok hk hki ?_ hno
    by_cases hjk : j = k
    ·subst hjk; exact hjun
    ·rw [getD_set_ne true hjk] at hun; exact hun
   refine wO_mono (fun a' w' h3 => ⟨h3.2.1, ih (listed.setIfInBounds j true) a' w' hfree' (ready_mono hr (Ne.symm hji)) h3.1 (h3.2.1 hjf) ?_⟩) h2
   rw [Array.setIfInBounds_comm _ _ hji]
   exact h3.2.2
inductive Sch where
 | nil
 | q (i : Nat) (s : Sch)
 | e (i : Nat) (s : Sch)
 | f (i : Nat) (s : Sch) (j : Nat) (t : Sch)
 | g (i : Nat) (s : Sch) (j : Nat) (t : Sch) (k : Nat) (u : Sch)
def finOk (ops : Array Oper) (fin i : Nat) : Bool := fin == i || match ops[fin]? with
 | none => true
 | some o => o.after.any fun e => Region.binds .any e && e.on == i
def cert (ops : Array Oper) (fin : Nat) : Sch → Array Bool → Bool
 | .nil, l => (Region.ready .any ops l) == []
 | .q i s, l => (Region.ready .any ops l).contains i && Region.free .any ops l i && finOk ops fin i && cert ops fin s (l.setIfInBounds i true)
 | .e i s, l => (Region.ready .any ops l) == [i] && cert ops fin s (l.setIfInBounds i true)
 | .f i s j t, l => (Region.ready .any ops l) == [i, j] && cert ops fin s (l.setIfInBounds i true) && cert ops fin t (l.setIfInBounds j true)
 | .g i s j t k u, l => (Region.ready .any ops l) == [i, j, k] && cert ops fin s (l.setIfInBounds i true) && cert ops fin t (l.setIfInBounds j true) && cert ops fin u (l.setIfInBounds k true)
def Sch.len : Sch → Nat
 | .nil => 0
 | .q _ s => s.len + 1
 | .e _ s => s.len + 1
 | .f _ s _ t => max s.len t.len + 1
 | .g _ s _ t _ u => max (max s.len t.len) u.len + 1
def wpS (P : Program) (ops : Array Oper) (K : Act → World → Prop) (S : World → Prop) (fin : Nat) : Sch → Act → World → Prop
 | .nil, a, w => K a w
 | .q i s, a, w => ∃ o v, ops[i]? = some o ∧ YieldsIf P ops S o v a ∧ S w ∧ wpS P ops K S fin s (a.put o.dst v) w
 | .e i s, a, w => wO P ops i (fun a' w' => (i ≠ fin → S w') ∧ wpS P ops K S fin s a' w') a w
 | .f i s j t, a, w => wO P ops i (fun a' w' => (i ≠ fin → S w') ∧ wpS P ops K S fin s a' w') a w ∧ wO P ops j (fun a' w' => (j ≠ fin → S w') ∧ wpS P ops K S fin t a' w') a w
 | .g i s j t k u, a, w => wO P ops i (fun a' w' => (i ≠ fin → S w') ∧ wpS P ops K S fin s a' w') a w ∧ wO P ops j (fun a' w' => (j ≠ fin → S w') ∧ wpS P ops K S fin t a' w') a w ∧ wO P ops k (fun a' w' => (k ≠ fin → S w') ∧ wpS P ops K S fin u a' w') a w
theorem finOk_spec {i : Nat} (h : finOk ops fin i = true) : ∀ o, ops[fin]? = some o → fin ≠ i → ∃ e ∈ o.after, Region.binds .any e = true ∧ e.on = i := by
 intro o ho hne
 simp only [finOk, ho, Bool.or_eq_true, beq_iff_eq, hne, false_or] at h
 obtain ⟨e, he, hb⟩ := Array.any_eq_true'.1 h
 simp only [Bool.and_eq_true, beq_iff_eq] at hb
 exact ⟨e, he, hb.1, hb.2⟩
theorem wpD_done {listed : Array Bool} {a : Act} {w : World} (hr : Region.ready .any ops listed = []) (h : K a w) : ∀ fuel, wpD P ops K S fin fuel listed a w
 | 0 => ⟨hr, h⟩
 | _ + 1 => ⟨fun _ => h, by rw [hr]; simp⟩
theorem wpD_of_S (hsel : Region.noSelect ops = true) : ∀ (s : Sch) (fuel : Nat) (listed : Array Bool) (a : Act) (w : World), s.len ≤ fuel → cert ops fin s listed = true → wpS P ops K S fin s a w → wpD P ops K S fin fuel listed a w
 | .nil, fuel, listed, a, w, hf, hc, h => wpD_done (by simpa [cert] using hc) h fuel
 | .q i s, 0, _, _, _, hf, _, _ => by simp [Sch.len] at hf
 | .q i s, fuel + 1, listed, a, w, hf, hc, h => by
  simp only [cert, Bool.and_eq_true] at hc
  obtain ⟨⟨⟨h1, h2⟩, h3⟩, h4⟩ := hc
  obtain ⟨o, v, ho, hy, hS, hk⟩ := h
  exact wpD_first ho (Region.noSelect_spec hsel) (finOk_spec h3) fuel listed a w (Region.free_spec ho h2) (by simpa using h1) hy hS (wpD_of_S hsel s fuel _ _ _ (by simp [Sch.len] at hf; omega) h4 hk)
 | .e i s, 0, _, _, _, hf, _, _ => by simp [Sch.len] at hf
 | .e i s, fuel + 1, listed, a, w, hf, hc, h => by
  simp only [cert, Bool.and_eq_true, beq_iff_eq] at hc
  simp only [Sch.len] at hf
  refine ⟨fun h0 => absurd (hc.1 ▸ h0) (by simp), fun j hj => ?_⟩
  rw [hc.1] at hj
  simp only [List.mem_singleton] at hj
  subst hj
  exact wO_mono (fun a' w' h' => ⟨h'.1, wpD_of_S hsel s fuel _ _ _ (by omega) hc.2 h'.2⟩) h
 | .f i s j t, 0, _, _, _, hf, _, _ => by simp [Sch.len] at hf
 | .f i s j t, fuel + 1, listed, a, w, hf, hc, h => by
  simp only [cert, Bool.and_eq_true, beq_iff_eq] at hc
  obtain ⟨⟨h1, h2⟩, h3⟩ := hc
  simp only [Sch.len] at hf
  refine ⟨fun h0 => absurd (h1 ▸ h0) (by simp), fun x hx => ?_⟩
  rw [h1] at hx
  simp only [List.mem_cons, List.not_mem_nil, or_false] at hx
  rcases hx with rfl | rfl
  ·exact wO_mono (fun a' w' h' => ⟨h'.1, wpD_of_S hsel s fuel _ _ _ (by omega) h2 h'.2⟩) h.1
  ·exact wO_mono (fun a' w' h' => ⟨h'.1, wpD_of_S hsel t fuel _ _ _ (by omega) h3 h'.2⟩) h.2
 | .g i s j t k u, 0, _, _, _, hf, _, _ => by simp [Sch.len] at hf
 | .g i s j t k u, fuel + 1, listed, a, w, hf, hc, h => by
  simp only [cert, Bool.and_eq_true, beq_iff_eq] at hc
  obtain ⟨⟨⟨h1, h2⟩, h3⟩, h4⟩ := hc
  simp only [Sch.len] at hf
  refine ⟨fun h0 => absurd (h1 ▸ h0) (by simp), fun x hx => ?_⟩
  rw [h1] at hx
  simp only [List.mem_cons, List.not_mem_nil, or_false] at hx
  rcases hx with rfl | rfl | rfl
  ·exact wO_mono (fun a' w' h' => ⟨h'.1, wpD_of_S hsel s fuel _ _ _ (by omega) h2 h'.2⟩) h.1
  ·exact wO_mono (fun a' w' h' => ⟨h'.1, wpD_of_S hsel t fuel _ _ _ (by omega) h3 h'.2⟩) h.2.1
  ·exact wO_mono (fun a' w' h' => ⟨h'.1, wpD_of_S hsel u fuel _ _ _ (by omega) h4 h'.2⟩) h.2.2
theorem regDR {id : Nat} {a : Act} {w : World} (S : World → Prop) (fin : Nat) (s : Sch) (hm : P.follows .mixedOrders = true) (hc : (Region.noSelect ops && cert ops fin s (Array.replicate ops.size false) && Nat.ble s.len ops.size) = true)
  (h : ∀ w1 : World, w1.heap = w.heap → w1.os = w.os → w1.tape = w.tape → w1.output = w.output → wpS P ops (Q .normal) S fin s a w1) : (Code.region id ops true).wpIn (Fw ro) 0 P Q a w := by
 simp only [Bool.and_eq_true] at hc
 obtain ⟨⟨h1, h2⟩, h3⟩ := hc
 exact wpIn_region_any hm (wpAny_of_D (S := S) (fin := fin) _ _ _ _ (wpD_of_S h1 s _ _ _ _ (Nat.le_of_ble_eq_true h3) h2 (h _ rfl rfl rfl rfl)))
theorem regD {id : Nat} {a : Act} {w : World} (S : World → Prop) (fin : Nat) (s : Sch) (hm : P.follows .mixedOrders = true) (hc : (Region.noSelect ops && cert ops fin s (Array.replicate ops.size false) && Nat.ble s.len ops.size) = true)
  (h : ∀ w1 : World, w1.heap = w.heap → w1.os = w.os → w1.tape = w.tape → w1.output = w.output → wpS P ops (Q .normal) S fin s a w1) : (Code.region id ops true).wp P Q a w := wpIn_wide.1 (regDR (ro := none) S fin s hm hc h)
theorem d_nil (h : K a w) : wpS P ops K S fin .nil a w := h
theorem d_q {i : Nat} {s : Sch} (F : Fr a N L D) (ho : ops[i]? = some o) (hg : o.guard = none) (hd : o.dst = some d) (hN : d < N) (hr : ∀ w, S w → (execOp a.eval o).run P w = .ok (.value v) w) (hS : S w)
  (k : ∀ a', Fr a' N ((d, v) :: L) D → wpS P ops K S fin s a' w) : wpS P ops K S fin (.q i s) a w :=
 ⟨o, v, ho, .inl ⟨by simp [Region.wanted, hg], hr⟩, hS, by rw [hd]; exact k _ (F.put v hN)⟩
theorem wanted_yes (F : Fr a N L D) {j dj : Nat} {b c : Bool} (hg : o.guard = some (j, c)) (hj : (ops[j]?).bind (·.dst) = some dj) (hN : dj < N) (hv : lk L dj = some (.bool b)) (hb : b = c) : Region.wanted o (yielded ops a.tmps) = true := by
 simp [Region.wanted, hg, yielded_of F hj hN hv, hb]
theorem wanted_no (F : Fr a N L D) {j dj : Nat} {b c : Bool} (hg : o.guard = some (j, c)) (hj : (ops[j]?).bind (·.dst) = some dj) (hN : dj < N) (hv : lk L dj = some (.bool b)) (hb : b = !c) : Region.wanted o (yielded ops a.tmps) = false := by
 subst hb; cases c <;> simp [Region.wanted, hg, yielded_of F hj hN hv]
theorem d_qy {i : Nat} {s : Sch} (F : Fr a N L D) {j dj : Nat} {b c : Bool} (ho : ops[i]? = some o) (hg : o.guard = some (j, c)) (hj : (ops[j]?).bind (·.dst) = some dj) (hjN : dj < N) (hv : lk L dj = some (.bool b)) (hb : b = c) (hd : o.dst = some d) (hN : d < N) (hr : ∀ w, S w → (execOp a.eval o).run P w = .ok (.value v) w) (hS : S w)
  (k : ∀ a', Fr a' N ((d, v) :: L) D → wpS P ops K S fin s a' w) : wpS P ops K S fin (.q i s) a w :=
 ⟨o, v, ho, .inl ⟨wanted_yes F hg hj hjN hv hb, hr⟩, hS, by rw [hd]; exact k _ (F.put v hN)⟩
theorem d_qn {i : Nat} {s : Sch} (F : Fr a N L D) {j dj : Nat} {b c : Bool} (ho : ops[i]? = some o) (hg : o.guard = some (j, c)) (hj : (ops[j]?).bind (·.dst) = some dj) (hjN : dj < N) (hv : lk L dj = some (.bool b)) (hb : b = !c) (hd : o.dst = some d) (hN : d < N) (hS : S w)
  (k : ∀ a', Fr a' N ((d, undef) :: L) D → wpS P ops K S fin s a' w) : wpS P ops K S fin (.q i s) a w :=
 ⟨o, undef, ho, .inr ⟨wanted_no F hg hj hjN hv hb, rfl⟩, hS, by rw [hd]; exact k _ (F.put undef hN)⟩
theorem o_val {i : Nat} {K : Act → World → Prop} (F : Fr a N L D) (ho : ops[i]? = some o) (hg : o.guard = none) (hd : o.dst = some d) (hN : d < N) (hr : (execOp a.eval o).run P w = .ok (.value v) w') (k : ∀ a', Fr a' N ((d, v) :: L) D → K a' w') : wO P ops i K a w := by
 unfold wO; simp only [ho]
 rw [if_pos (by simp [Region.wanted, hg])]
 exact ow_value hr (by rw [hd]; exact k _ (F.put v hN))
theorem o_skip {i : Nat} {K : Act → World → Prop} (F : Fr a N L D) (ho : ops[i]? = some o) (hg : o.guard = none) (hd : o.dst = none) (hr : (execOp a.eval o).run P w = .ok .skip w') (k : ∀ a', Fr a' N L D → K a' w') : wO P ops i K a w := by
 unfold wO; simp only [ho]
 rw [if_pos (by simp [Region.wanted, hg])]
 exact ow_skip hr (by rw [hd]; exact k _ F)
theorem o_call {i : Nat} {K : Act → World → Prop} (F : Fr a N L D) (ho : ops[i]? = some o) (hg : Region.wanted o (yielded ops a.tmps) = true) (hd : o.dst = some d) (hN : d < N) {f : FuncId} {args : Array Value} {R : Ending → World → Prop} (hr : (execOp a.eval o).run P w = .ok (.enter f args) w) (hc : Calls P f args w R)
  (k : ∀ e w', R e w' → ∃ v, e = .returned v ∧ ∀ a', Fr a' N ((d, v) :: L) D → K a' w') : wO P ops i K a w := by
 unfold wO; simp only [ho]
 rw [if_pos hg]
 exact ow_enter hr (hc.mono fun e w' hR => by
  obtain ⟨v, he, hk⟩ := k e w' hR
  exact ⟨v, he, by rw [hd]; exact hk _ (F.put v hN)⟩)
theorem o_yield {i : Nat} {K : Act → World → Prop} (F : Fr a N L D) (ho : ops[i]? = some o) (hg : Region.wanted o (yielded ops a.tmps) = true) (hd : o.dst = some d) (hN : d < N) {l : Nat} {args : Array Value} {R : Ending → World → Prop} (hr : (execOp a.eval o).run P w = (Instr.yield l args).run P w) (hy : YieldAt Fence.wide 0 P l args w R)
  (k : ∀ e w', R e w' → ∃ v, e = .returned v ∧ ∀ a', Fr a' N ((d, v) :: L) D → K a' w') : wO P ops i K a w := by
 unfold wO; simp only [ho]
 rw [if_pos hg]
 exact ow_yield hr hy (fun e w' hR => by
  obtain ⟨v, he, hk⟩ := k e w' hR
  exact ⟨v, he, by rw [hd]; exact hk _ (F.put v hN)⟩)
theorem wanted_none {ops : Array Oper} {tm : Array Value} (hg : o.guard = none) : Region.wanted o (yielded ops tm) = true := by simp [Region.wanted, hg]
theorem loop_fuel {c : Code} (I : Nat → Act → World → Prop) {k : Nat} (h0 : I k a w)
  (hs : ∀ k (X : Act → World → Prop), (∀ j a w, j < k → I j a w → X a w) → ∀ a w, I k a w → c.wp P (Exit.then X Q) a w) : (Code.loop c).wp P Q a w := by
 intro b todo cs
 have key : ∀ k a w, I k a w → ∃ e a' w', Q e a' w' ∧ Arrives P (lone (b.at a (.code c :: .inLoop c :: todo)) cs w) b todo cs e a' w' := by
  intro k
  induction k using Nat.strongRecOn with
  | _ k ih =>
   intro a w hI
   obtain ⟨e, a₁, w₁, hq, harr⟩ := hs k (fun a w => ∃ j, j < k ∧ I j a w) (fun j a w hj h => ⟨j, hj, h⟩) a w hI b (.inLoop c :: todo) cs
   cases e with
   | normal =>
    obtain ⟨j, hj, hI₁⟩ := hq
    obtain ⟨e₂, a₂, w₂, hq₂, harr₂⟩ := ih j hj a₁ w₁ hI₁
    exact ⟨e₂, a₂, w₂, hq₂, .of_steps (Steps.trans harr (.one step_inLoop)) harr₂⟩
   | exit id => exact ⟨_, a₁, w₁, hq, .pass (x := .inLoop c) rfl (fun _ _ => .inl (by simp)) harr⟩
   | goto l => exact ⟨_, a₁, w₁, hq, .pass (x := .inLoop c) rfl (fun _ _ => .inl (by simp)) harr⟩
   | ret => exact ⟨_, a₁, w₁, hq, .pass (x := .inLoop c) rfl (fun _ _ => .inl (by simp)) harr⟩
   | panic ch => exact ⟨_, a₁, w₁, hq, .pass (x := .inLoop c) rfl (fun _ _ => .inl (by simp)) harr⟩
   | outgrown => exact ⟨_, a₁, w₁, hq, .pass (x := .inLoop c) rfl (fun _ _ => .inl (by simp)) harr⟩
 obtain ⟨e, a', w', hq, harr⟩ := key k a w h0
 exact ⟨e, a', w', hq, .of_steps (.one step_loop) harr⟩
end
end Go.Proofs.Ytoaldfpngihhcaa.G
namespace Go.Proofs.Ytoaldfpngihhcaa.G
open Go Go.RowKit
set_option linter.unusedVariables false
set_option linter.unusedSimpArgs false
structure Ev (M : Nat → Prop) (c : Nat → Nat) (w : World) (c' : Nat → Nat) (w' : World) : Prop where
 os : w'.os = w.os
 tape : w'.tape = w.tape
 out : w'.output = w.output
 size : w.heap.size ≤ w'.heap.size
 col : ∀ k, k < w.heap.size → ¬ M (c k) → c' k = c k
 blk : ∀ k, k < w.heap.size → ¬ M (c k) → w'.heap[k]? = w.heap[k]?
def No : Nat → Prop := fun _ => False
def CB (m : Nat) (c : Nat → Nat) (w : World) : Prop := ∀ k, k < w.heap.size → c k < m
section
variable {M M' : Nat → Prop} {c c' c1 : Nat → Nat} {w w' w1 : World} {m j : Nat}
theorem Ev.refl : Ev M c w c w := ⟨rfl, rfl, rfl, Nat.le_refl _, fun _ _ _ => rfl, fun _ _ _ => rfl⟩
theorem Ev.trans (h : Ev M c w c1 w1) (h2 : Ev M' c1 w1 c' w') (hM : ∀ k, M' k → M k) : Ev M c w c' w' :=
  ⟨h2.os.trans h.os, h2.tape.trans h.tape, h2.out.trans h.out, Nat.le_trans h.size h2.size, fun k hk hm => (h2.col k (Nat.lt_of_lt_of_le hk h.size) (by rw [h.col k hk hm]; exact fun q => hm (hM _ q))).trans (h.col k hk hm),
   fun k hk hm => (h2.blk k (Nat.lt_of_lt_of_le hk h.size) (by rw [h.col k hk hm]; exact fun q => hm (hM _ q))).trans (h.blk k hk hm)⟩
theorem Ev.mono (h : Ev M c w c' w') (hM : ∀ k, M k → M' k) : Ev M' c w c' w' := ⟨h.os, h.tape, h.out, h.size, fun k hk hm => h.col k hk (fun q => hm (hM _ q)), fun k hk hm => h.blk k hk (fun q => hm (hM _ q))⟩
theorem Ev.same (h1 : w1.heap = w.heap) (h2 : w1.os = w.os) (h3 : w1.tape = w.tape) (h4 : w1.output = w.output) : Ev M c w c w1 :=
 ⟨h2, h3, h4, by rw [h1]; exact Nat.le_refl _, fun _ _ _ => rfl, fun _ _ _ => by rw [h1]⟩
theorem CB.mono (h : CB m c w) {n : Nat} (hn : m ≤ n) : CB n c w := fun k hk => Nat.lt_of_lt_of_le (h k hk) hn
theorem CB.same (h : CB m c w) (h1 : w1.heap = w.heap) : CB m c w1 := fun k hk => h k (by rw [← h1]; exact hk)
theorem Ev.leave (h : Ev (fun k => M k ∨ m ≤ k) c w c1 w1) (hB : CB m c w) (r : Nat → Nat) (hr : ∀ x, x < m → r x = x) : Ev M c w (fun k => r (c1 k)) w1 :=
 ⟨h.os, h.tape, h.out, h.size, fun k hk hm => by show r (c1 k) = c k; rw [h.col k hk (fun q => q.elim hm (fun q => absurd (hB k hk) (by omega)))]; exact hr _ (hB k hk), fun k hk hm => h.blk k hk (fun q => q.elim hm (fun q => absurd (hB k hk) (by omega)))⟩
theorem Ev.freeze {x : Nat} (h : Ev (fun k => M k ∨ m ≤ k) c w c1 w1) (hB : CB m c w) (hx : m ≤ x) : Ev (fun k => M k ∨ m ≤ k) c w (fun k => if c1 k = x then 0 else c1 k) w1 := by
 refine ⟨h.os, h.tape, h.out, h.size, fun k hk hm => ?_, h.blk⟩
 have e := h.col k hk hm
 have := hB k hk
 show (if c1 k = x then 0 else c1 k) = c k
 rw [e, if_neg (by omega)]
theorem CB.freeze {x n : Nat} (h : CB n c w) (hx : 0 < n) : CB n (fun k => if c k = x then 0 else c k) w := fun k hk => by
 show (if c k = x then 0 else c k) < n
 have := h k hk
 split <;> omega
theorem Ev.below (h : Ev No c w c' w') : Below w.heap.size w w' := ⟨h.os, h.tape, h.out, h.size, fun k hk => h.blk k hk (fun q => q)⟩
end
theorem ne_mm {m a b : Nat} (h : a ≠ b) : ¬ (m + a = m + b) := by omega
theorem ne_z {x : Nat} (h : 0 < x) : ¬ (0 = x) := by omega
theorem ne_zm {m b : Nat} : ¬ (0 = m + (b + 1)) := by omega
theorem nq {p : Prop} (q : False) : p := q.elim
theorem mm {m a b : Nat} (h : a ≠ b := by decide) : ¬ (m + a = m + b) := ne_mm h
theorem ne_pm {m b j : Nat} (h : j < m) : ¬ (j = m + b) := by omega
theorem ne_mp {m b j : Nat} (h : j < m) : ¬ (m + b = j) := by omega
theorem nor {p q : Prop} (h : ¬ p) (h' : ¬ q) : ¬ (p ∨ q) := fun x => x.elim h h'
theorem le_col {x m k : Nat} (q : x = m + k) : m ≤ x := by omega
theorem len_ok {n B : Nat} (h : n * (B + 1) ≤ 140737488355328) : n ≤ maxLen := by
 have : n * 1 ≤ n * (B + 1) := Nat.mul_le_mul_left _ (by omega)
 unfold maxLen; omega
theorem len_ok0 {α : Type} {n B : Nat} (h : n * (B + 1) ≤ 140737488355328) : ([] : List α).length + n ≤ maxLen := by
 rw [List.length_nil, Nat.zero_add]; exact len_ok h
theorem ap0 {α : Type} {n B C : Nat} (h : n * B ≤ C) : (([] : List α).length + n) * B ≤ C := by rw [List.length_nil, Nat.zero_add]; exact h
theorem n_ok {n : Nat} (h : n < 140737488355328) : n < maxLen := by unfold maxLen; omega
def AT (own : Bool) (j : Nat) (c : Nat → Nat) (w : World) (p : Addr) (cs : List Value) : Prop :=
 ∃ b off cur ty fz, p = ⟨b, off, none⟩ ∧ w.heap[b]? = some (.cells cur ty fz) ∧ c b = j ∧ (∀ k, k < cs.length → cur[off + k]? = cs[k]?) ∧ (own = true → ∀ k, k < cs.length → ¬ (fz.1 ≤ off + k ∧ off + k < fz.2))
section
variable {M : Nat → Prop} {c c' : Nat → Nat} {w w' : World} {j j' : Nat} {own : Bool} {p : Addr} {cs : List Value}
theorem lt_of_get {b : Nat} {o : Obj} (h : w.heap[b]? = some o) : b < w.heap.size := (Array.getElem?_eq_some_iff.1 h).1
theorem AT.ev (h : AT own j c w p cs) (E : Ev M c w c' w') (hj : ¬ M j := by first | exact nq | exact ne_zm | exact mm) : AT own j c' w' p cs := by
 obtain ⟨b, off, cur, ty, fz, e, hb, hc, h1, h2⟩ := h
 exact ⟨b, off, cur, ty, fz, e, (E.blk b (lt_of_get hb) (by rw [hc]; exact hj)).trans hb, (E.col b (lt_of_get hb) (by rw [hc]; exact hj)).trans hc, h1, h2⟩
theorem AT.rc (h : AT own j c w p cs) (hr : ∀ k, c k = j → c' k = j') : AT own j' c' w p cs := by
 obtain ⟨b, off, cur, ty, fz, e, hb, hc, h1, h2⟩ := h
 exact ⟨b, off, cur, ty, fz, e, hb, hr b hc, h1, h2⟩
theorem AT.r (h : AT own j c w p cs) : AT false j c w p cs := by
 obtain ⟨b, off, cur, ty, fz, e, hb, hc, h1, h2⟩ := h
 exact ⟨b, off, cur, ty, fz, e, hb, hc, h1, fun q => by cases q⟩
theorem add_eq (b off n : Nat) : (⟨b, off, none⟩ : Addr).add n = ⟨b, off + n, none⟩ := by
 unfold Addr.add; split
 ·subst_vars; rfl
 ·rfl
theorem AT.cell (h : AT own j c w p cs) {n : Nat} {v : Value} (hv : cs[n]? = some v) : w.cell? (p.add n) = some v := by
 obtain ⟨b, off, cur, ty, fz, rfl, hb, hc, h1, h2⟩ := h
 rw [add_eq]
 simp only [World.cell?, hb]
 rw [if_neg (by simp), h1 n (List.getElem?_eq_some_iff.1 hv).1, hv]
theorem AT.cell0 (h : AT own j c w p cs) {v : Value} (hv : cs[0]? = some v) : w.cell? p = some v := by
 have := h.cell hv
 obtain ⟨b, off, cur, ty, fz, rfl, hb, hc, h1, h2⟩ := h
 rwa [add_eq, Nat.add_zero] at this
theorem AT.free (h : AT true j c w p cs) {n : Nat} (hn : n < cs.length) : w.frozen? (p.add n) = false := by
 obtain ⟨b, off, cur, ty, fz, rfl, hb, hc, h1, h2⟩ := h
 rw [add_eq]
 simp only [World.frozen?, hb]
 have := h2 rfl n hn
 obtain ⟨lo, hi⟩ := fz
 simp only [Bool.and_eq_false_iff, decide_eq_false_iff_not]
 simp only at this
 omega
theorem AT.sub (h : AT own j c w p cs) (n m : Nat) (hn : n + m ≤ cs.length) : AT own j c w (p.add n) ((cs.drop n).take m) := by
 obtain ⟨b, off, cur, ty, fz, rfl, hb, hc, h1, h2⟩ := h
 refine ⟨b, off + n, cur, ty, fz, add_eq b off n, hb, hc, fun k hk => ?_, fun q k hk => ?_⟩
 ·simp only [List.length_take, List.length_drop] at hk
  rw [Nat.add_assoc, h1 (n + k) (by omega), List.getElem?_take_of_lt (by omega), List.getElem?_drop]
 ·simp only [List.length_take, List.length_drop] at hk
  have := h2 q (n + k) (by omega)
  rw [Nat.add_assoc]; exact this
theorem AT.set (h : AT true j c w p cs) {n : Nat} (hn : n < cs.length) (u : Value) : Ev (fun k => k = j) c w c (w.setCell (p.add n) u) ∧ AT true j c (w.setCell (p.add n) u) p (cs.set n u) ∧ (w.setCell (p.add n) u).heap.size = w.heap.size := by
 obtain ⟨b, off, cur, ty, fz, rfl, hb, hc, h1, h2⟩ := h
 rw [add_eq]
 have hz : (w.setCell ⟨b, off + n, none⟩ u).heap.size = w.heap.size := World.size_setCell ..
 refine ⟨⟨rfl, rfl, rfl, by rw [hz]; exact Nat.le_refl _, fun _ _ _ => rfl, fun k hk hm => ?_⟩, ⟨b, off, cur.setIfInBounds (off + n) u, ty, fz, rfl, ?_, hc, fun k hk => ?_, fun q k hk => h2 q k (by simpa using hk)⟩, hz⟩
 ·have hne : k ≠ b := fun e => hm (by rw [e]; exact hc)
  simp only [World.setCell]
  rw [Array.getElem?_modify, if_neg (Ne.symm hne)]
 ·simp only [World.setCell]
  rw [Array.getElem?_modify, if_pos rfl, hb]
  simp
 ·rw [List.length_set] at hk
  rw [Array.getElem?_setIfInBounds, List.getElem?_set]
  have hsz := h1 n hn
  by_cases q : n = k
  ·subst q
   rw [if_pos rfl, if_pos rfl, if_pos hn]
   have : off + n < cur.size := by
    rcases Nat.lt_or_ge (off + n) cur.size with g | g
    ·exact g
    ·rw [Array.getElem?_eq_none g, List.getElem?_eq_getElem hn] at hsz; cases hsz
   rw [if_pos this]
  ·rw [if_neg (by omega), if_neg q]; exact h1 k hk
theorem CB.size {m : Nat} (h : CB m c w) (hs : w'.heap.size = w.heap.size) : CB m c w' := fun k hk => h k (by omega)
def cset (c : Nat → Nat) (b x : Nat) : Nat → Nat := fun k => if k = b then x else c k
theorem alloc_new (c : Nat → Nat) (w : World) (cells : Array Value) (ty : TypeId) (fz : Nat × Nat) (x : Nat) (own : Bool) (hf : own = true → ∀ k, k < cells.size → ¬ (fz.1 ≤ k ∧ k < fz.2)) :
  Ev M c w (cset c w.heap.size x) (w.alloc (.cells cells ty fz)) ∧ AT own x (cset c w.heap.size x) (w.alloc (.cells cells ty fz)) ⟨w.heap.size, 0, none⟩ cells.toList ∧ (∀ m, CB m c w → x < m → CB m (cset c w.heap.size x) (w.alloc (.cells cells ty fz))) := by
 have hz : (w.alloc (.cells cells ty fz)).heap.size = w.heap.size + 1 := World.size_alloc ..
 have hk := MapKept.heap_alloc w (.cells cells ty fz)
 refine ⟨⟨rfl, rfl, rfl, by omega, fun k hk _ => by unfold cset; rw [if_neg (by omega)], fun k hlt _ => hk.2 k hlt⟩, ⟨w.heap.size, 0, cells, ty, fz, rfl, hk.1, by unfold cset; rw [if_pos rfl], fun k hk => by rw [Nat.zero_add]; exact Array.getElem?_toList.symm, fun q k hk => ?_⟩, fun m hm hx k hk => ?_⟩
 ·rw [Nat.zero_add]; exact hf q k (by simpa using hk)
 ·unfold cset
  split
  ·exact hx
  ·exact hm k (by omega)
end
structure K (α : Type) where
 sz : Nat
 pos : 0 < sz
 rep : Nat → (Nat → Nat) → World → List Value → α → Prop
 ev : ∀ {M : Nat → Prop} {i c w c' w' cs x}, rep i c w cs x → Ev M c w c' w' → ¬ M i → rep i c' w' cs x
 rc : ∀ {i i' c c' w cs x}, rep i c w cs x → (∀ k, c k = i → c' k = i') → rep i' c' w cs x
 len : ∀ {i c w cs x}, rep i c w cs x → cs.length = sz
 one : ∀ {i c w cs x}, rep i c w cs x → ∀ v ∈ cs, v.oneCell' = true
def Kint (k : IntKind) : K Int where
 sz := 1
 pos := by decide
 rep := fun _ _ _ cs x => cs = [.int k x]
 ev := fun h _ _ => h
 rc := fun h _ => h
 len := fun h => by rw [h]; rfl
 one := fun h v hv => by rw [h] at hv; simp at hv; subst hv; rfl
section
variable {α : Type} {M : Nat → Prop} {c c' : Nat → Nat} {w w' : World} {j j' i i' : Nat} {own : Bool} {e : K α} {v : Value} {xs : List α}
def Row (own : Bool) (j : Nat) (c : Nat → Nat) (w : World) (A : Option Addr) (cs : List Value) : Prop := cs = [] ∨ ∃ a, A = some a ∧ AT own j c w a cs
def SL (own : Bool) (e : K α) (j i : Nat) (c : Nat → Nat) (w : World) (A : Option Addr) (cap : Nat) (xs : List α) : Prop :=
 ∃ cs, xs.length ≤ cap ∧ cap ≤ maxLen ∧ cs.length = cap * e.sz ∧ Row own j c w A cs ∧ ∀ n (h : n < xs.length), e.rep i c w ((cs.drop (n * e.sz)).take e.sz) xs[n]
variable {A : Option Addr} {cap : Nat}
theorem Row.ev {A : Option Addr} {cs : List Value} (h : Row own j c w A cs) (E : Ev M c w c' w') (hj : ¬ M j) : Row own j c' w' A cs := h.imp id (fun ⟨a, e, h⟩ => ⟨a, e, h.ev E hj⟩)
theorem SL.ev (h : SL own e j i c w A cap xs) (E : Ev M c w c' w') (hj : ¬ M j := by first | exact nq | exact ne_zm | exact mm) (hi : ¬ M i := by first | exact nq | exact ne_zm | exact mm) : SL own e j i c' w' A cap xs := by
 obtain ⟨cs, h2, h3, h4, h5, h6⟩ := h
 exact ⟨cs, h2, h3, h4, h5.ev E hj, fun n hn => e.ev (h6 n hn) E hi⟩
theorem SL.rc (h : SL own e j i c w A cap xs) (hj : ∀ k, c k = j → c' k = j') (hi : ∀ k, c k = i → c' k = i') : SL own e j' i' c' w A cap xs := by
 obtain ⟨cs, h2, h3, h4, h5, h6⟩ := h
 exact ⟨cs, h2, h3, h4, h5.imp id (fun ⟨a, e, h⟩ => ⟨a, e, h.rc hj⟩), fun n hn => e.rc (h6 n hn) hi⟩
theorem SL.r (h : SL own e j i c w A cap xs) : SL false e j i c w A cap xs := by
 obtain ⟨cs, h2, h3, h4, h5, h6⟩ := h
 exact ⟨cs, h2, h3, h4, h5.imp id (fun ⟨a, e, h⟩ => ⟨a, e, h.r⟩), h6⟩
theorem SL.nil : SL own e j i c w none 0 [] := ⟨[], Nat.le_refl _, Nat.zero_le _, by simp, .inl rfl, fun n hn => absurd hn (by simp)⟩
theorem SL.lenB (h : SL own e j i c w A cap xs) : xs.length ≤ maxLen := by
 obtain ⟨cs, h2, h3, h4, h5, h6⟩ := h; omega
theorem SL.at [Inhabited α] (h : SL own e j i c w A cap xs) (k : Int) (h0 : 0 ≤ k) (h1 : k < xs.length) :
  ∃ a cs, A = some a ∧ AT own j c w (a.add (k.toNat * e.sz)) cs ∧ e.rep i c w cs (rd xs k) := by
 obtain ⟨cs, h2, h3, h4, h5, h6⟩ := h
 have hk : k.toNat < xs.length := by omega
 have hle : (k.toNat + 1) * e.sz ≤ cap * e.sz := Nat.mul_le_mul_right _ (by omega)
 have hle2 : k.toNat * e.sz + e.sz ≤ cs.length := by rw [h4, ← Nat.succ_mul]; exact hle
 have hp := e.pos
 rcases h5 with h5 | ⟨a, rfl, h5⟩
 ·subst h5; simp at hle2; omega
 ·refine ⟨a, (cs.drop (k.toNat * e.sz)).take e.sz, rfl, h5.sub _ _ hle2, ?_⟩
  have := h6 k.toNat hk
  unfold rd
  rw [List.getD_eq_getElem?_getD, List.getElem?_eq_getElem hk]
  exact this
theorem SL.cut (h : SL own e j i c w A cap xs) (l r m : Nat) (hl : l ≤ r) (hr : r ≤ xs.length) (hm : m ≤ cap) (hrm : r ≤ m) :
  SL own e j i c w (if m = l then A else A.map fun a => a.add (l * e.sz)) (m - l) ((xs.take r).drop l) := by
 obtain ⟨cs, h2, h3, h4, h5, h6⟩ := h
 have hp := e.pos
 have hsz : m * e.sz ≤ cap * e.sz := Nat.mul_le_mul_right _ hm
 have hml : l * e.sz + (m - l) * e.sz = m * e.sz := by rw [← Nat.add_mul]; congr 1; omega
 refine ⟨(cs.drop (l * e.sz)).take ((m - l) * e.sz), by simp; omega, by omega, by simp; omega, ?_, fun n hn => ?_⟩
 ·by_cases q : m = l
  ·subst q; left; simp
  ·rw [if_neg q]
   rcases h5 with h5 | ⟨a, rfl, h5⟩
   ·left; subst h5; simp
   ·right; exact ⟨_, rfl, h5.sub _ _ (by omega)⟩
 ·simp only [List.length_drop, List.length_take] at hn
  have h7 := h6 (l + n) (by omega)
  have hle : (l + n) * e.sz + e.sz ≤ m * e.sz := by rw [← Nat.succ_mul]; exact Nat.mul_le_mul_right _ (by omega)
  rw [Nat.add_mul] at hle
  have he : (((cs.drop (l * e.sz)).take ((m - l) * e.sz)).drop (n * e.sz)).take e.sz = (cs.drop ((l + n) * e.sz)).take e.sz := by
   rw [List.drop_take, List.take_take, List.drop_drop, Nat.add_mul]
   congr 1
   omega
  rw [he]
  have hx : ((xs.take r).drop l)[n]'(by simp; omega) = xs[l + n]'(by omega) := by simp
  rw [hx]; exact h7
end
def Kslice {α : Type} (e : K α) : K (List α) where
 sz := 1
 pos := by decide
 rep := fun i c w cs x => ∃ A cap, cs = [.slice A x.length cap] ∧ SL false e i i c w A cap x
 ev := fun ⟨A, cap, h, h2⟩ E hi => ⟨A, cap, h, h2.ev E hi hi⟩
 rc := fun ⟨A, cap, h, h2⟩ hr => ⟨A, cap, h, h2.rc hr hr⟩
 len := fun ⟨A, cap, h, _⟩ => by rw [h]; rfl
 one := fun ⟨A, cap, h, h2⟩ u hu => by rw [h] at hu; simp at hu; subst hu; rfl
section
variable {P : Program} {a : Act} {N : Nat} {L : List (Nat × Value)} {D : List Deferred} {w w' : World} {v u : Value} {x y : Operand} {d : Option Tmp} {t ty : TypeId} {pos : String} {af : Array Edge} {gd : Option (Nat × Bool)}
theorem r_move (F : Fr a N L D) (hx : ev L x = some v) : (execOp a.eval { dst := d, op := .move x, type := ty, pos := pos, after := af, guard := gd }).run P w = .ok (.value v) w := by
 simp [execOp, F.ev hx]
theorem r_assign (F : Fr a N L D) (hx : ev L x = some v) : (execOp a.eval { dst := d, op := .assign x, type := ty, pos := pos, after := af, guard := gd }).run P w = .ok (.value v) w := by
 simp [execOp, F.ev hx]
theorem r_pick_t (F : Fr a N L D) {z : Operand} {b : Bool} (hc : ev L z = some (.bool b)) (hb : b = true) (hx : ev L x = some v) : (execOp a.eval { dst := d, op := .pick z x y, type := ty, pos := pos, after := af, guard := gd }).run P w = .ok (.value v) w := by
 subst hb; simp [execOp, F.ev hx, F.ev hc, asBool]
theorem r_pick_f (F : Fr a N L D) {z : Operand} {b : Bool} (hc : ev L z = some (.bool b)) (hb : b = false) (hy : ev L y = some v) : (execOp a.eval { dst := d, op := .pick z x y, type := ty, pos := pos, after := af, guard := gd }).run P w = .ok (.value v) w := by
 subst hb; simp [execOp, F.ev hy, F.ev hc, asBool]
theorem r_nil (F : Fr a N L D) {p : Addr} (hx : ev L x = some (.pointer (some p))) : (execOp a.eval { dst := d, op := .nilCheck x, type := ty, pos := pos, after := af, guard := gd }).run P w = .ok (.value (.pointer (some p))) w := by
 simp [execOp, F.ev hx]
theorem r_fieldAddr (F : Fr a N L D) {p : Addr} {f off : Nat} (hx : ev L x = some (.pointer (some p))) (hf : ∀ q w, (Instr.fieldAt t (.pointer (some q)) f).run P w = .ok (.pointer (some (q.add off))) w) :
  (execOp a.eval { dst := d, op := .fieldAddr t x f, type := ty, pos := pos, after := af, guard := gd }).run P w = .ok (.value (.pointer (some (p.add off)))) w := by
 simp [execOp, F.ev hx, hf]
theorem r_load (F : Fr a N L D) {p : Addr} (hx : ev L x = some (.pointer (some p))) (ha : ∀ w, (isAgg t).run P w = .ok false w) (hc : w.cell? p = some v) :
  (execOp a.eval { dst := d, op := .load t x, type := ty, pos := pos, after := af, guard := gd }).run P w = .ok (.value v) w := by
 simp [execOp, F.ev hx, Instr.loadAt, Instr.sureAddr, loadVar, ha, run_load, hc]
theorem r_loads (F : Fr a N L D) {p : Addr} {cs : List Value} {own : Bool} {j : Nat} {c : Nat → Nat} (hx : ev L x = some (.pointer (some p))) (ha : ∀ w, (isAgg t).run P w = .ok true w) (hs : ∀ w, (sizeOf t).run P w = .ok cs.length w) (hc : AT own j c w p cs) :
  (execOp a.eval { dst := d, op := .load t x, type := ty, pos := pos, after := af, guard := gd }).run P w = .ok (.value (.agg cs.toArray)) w := by
 have h := run_loadCells_list (P := P) w p cs (fun j v hj => hc.cell hj)
 simp [execOp, F.ev hx, Instr.loadAt, Instr.sureAddr, loadVar, ha, hs, h]
theorem r_add (F : Fr a N L D) {k : IntKind} {m n : Int} {yt : TypeId} (hx : ev L x = some (.int k m)) (hy : ev L y = some (.int k n)) : (execOp a.eval { dst := d, op := .binOp .add t x y yt, type := ty, pos := pos, after := af, guard := gd }).run P w = .ok (.value (.int k (k.wrap (m + n)))) w := by
 simp [execOp, F.ev hx, F.ev hy, binOp, Op.intArith, eqGuard]
theorem r_sub (F : Fr a N L D) {k : IntKind} {m n : Int} {yt : TypeId} (hx : ev L x = some (.int k m)) (hy : ev L y = some (.int k n)) : (execOp a.eval { dst := d, op := .binOp .sub t x y yt, type := ty, pos := pos, after := af, guard := gd }).run P w = .ok (.value (.int k (k.wrap (m - n)))) w := by
 simp [execOp, F.ev hx, F.ev hy, binOp, Op.intArith, eqGuard]
theorem r_mul (F : Fr a N L D) {k : IntKind} {m n : Int} {yt : TypeId} (hx : ev L x = some (.int k m)) (hy : ev L y = some (.int k n)) : (execOp a.eval { dst := d, op := .binOp .mul t x y yt, type := ty, pos := pos, after := af, guard := gd }).run P w = .ok (.value (.int k (k.wrap (m * n)))) w := by
 simp [execOp, F.ev hx, F.ev hy, binOp, Op.intArith, eqGuard]
theorem r_and (F : Fr a N L D) {k : IntKind} {m n : Int} {yt : TypeId} (hx : ev L x = some (.int k m)) (hy : ev L y = some (.int k n)) : (execOp a.eval { dst := d, op := .binOp .and t x y yt, type := ty, pos := pos, after := af, guard := gd }).run P w = .ok (.value (.int k (band k m n))) w := by
 simp [execOp, F.ev hx, F.ev hy, binOp, Op.intBits, eqGuard, band]
theorem r_or (F : Fr a N L D) {k : IntKind} {m n : Int} {yt : TypeId} (hx : ev L x = some (.int k m)) (hy : ev L y = some (.int k n)) : (execOp a.eval { dst := d, op := .binOp .or t x y yt, type := ty, pos := pos, after := af, guard := gd }).run P w = .ok (.value (.int k (bor k m n))) w := by
 simp [execOp, F.ev hx, F.ev hy, binOp, Op.intBits, eqGuard, bor]
theorem r_xor (F : Fr a N L D) {k : IntKind} {m n : Int} {yt : TypeId} (hx : ev L x = some (.int k m)) (hy : ev L y = some (.int k n)) : (execOp a.eval { dst := d, op := .binOp .xor t x y yt, type := ty, pos := pos, after := af, guard := gd }).run P w = .ok (.value (.int k (bxor k m n))) w := by
 simp [execOp, F.ev hx, F.ev hy, binOp, Op.intBits, eqGuard, bxor]
theorem r_shl (F : Fr a N L D) {k k' : IntKind} {m n : Int} {yt : TypeId} (hx : ev L x = some (.int k m)) (hy : ev L y = some (.int k' n)) (h0 : 0 ≤ n) : (execOp a.eval { dst := d, op := .binOp .shl t x y yt, type := ty, pos := pos, after := af, guard := gd }).run P w = .ok (.value (.int k (shl k m n))) w := by
 have : ¬ n < 0 := by omega
 simp [execOp, F.ev hx, F.ev hy, binOp, Op.shift, eqGuard, shl, this]
theorem r_shr (F : Fr a N L D) {k k' : IntKind} {m n : Int} {yt : TypeId} (hx : ev L x = some (.int k m)) (hy : ev L y = some (.int k' n)) (h0 : 0 ≤ n) : (execOp a.eval { dst := d, op := .binOp .shr t x y yt, type := ty, pos := pos, after := af, guard := gd }).run P w = .ok (.value (.int k (shr k m n))) w := by
 have : ¬ n < 0 := by omega
 simp [execOp, F.ev hx, F.ev hy, binOp, Op.shift, eqGuard, shr, this]
theorem r_lss (F : Fr a N L D) {k : IntKind} {m n : Int} {yt : TypeId} (hx : ev L x = some (.int k m)) (hy : ev L y = some (.int k n)) : (execOp a.eval { dst := d, op := .binOp .lss t x y yt, type := ty, pos := pos, after := af, guard := gd }).run P w = .ok (.value (.bool (decide (m < n)))) w := by
 simp [execOp, F.ev hx, F.ev hy, binOp, Op.intCmp, eqGuard]
theorem r_leq (F : Fr a N L D) {k : IntKind} {m n : Int} {yt : TypeId} (hx : ev L x = some (.int k m)) (hy : ev L y = some (.int k n)) : (execOp a.eval { dst := d, op := .binOp .leq t x y yt, type := ty, pos := pos, after := af, guard := gd }).run P w = .ok (.value (.bool (decide (m ≤ n)))) w := by
 simp [execOp, F.ev hx, F.ev hy, binOp, Op.intCmp, eqGuard]
theorem r_gtr (F : Fr a N L D) {k : IntKind} {m n : Int} {yt : TypeId} (hx : ev L x = some (.int k m)) (hy : ev L y = some (.int k n)) : (execOp a.eval { dst := d, op := .binOp .gtr t x y yt, type := ty, pos := pos, after := af, guard := gd }).run P w = .ok (.value (.bool (decide (n < m)))) w := by
 simp [execOp, F.ev hx, F.ev hy, binOp, Op.intCmp, eqGuard]
theorem r_geq (F : Fr a N L D) {k : IntKind} {m n : Int} {yt : TypeId} (hx : ev L x = some (.int k m)) (hy : ev L y = some (.int k n)) : (execOp a.eval { dst := d, op := .binOp .geq t x y yt, type := ty, pos := pos, after := af, guard := gd }).run P w = .ok (.value (.bool (decide (n ≤ m)))) w := by
 simp [execOp, F.ev hx, F.ev hy, binOp, Op.intCmp, eqGuard]
theorem r_eql (F : Fr a N L D) {k : IntKind} {m n : Int} {yt : TypeId} (hx : ev L x = some (.int k m)) (hy : ev L y = some (.int k n)) : (execOp a.eval { dst := d, op := .binOp .eql t x y yt, type := ty, pos := pos, after := af, guard := gd }).run P w = .ok (.value (.bool (decide (m = n)))) w := by
 simp [execOp, F.ev hx, F.ev hy, binOp, Op.intCmp, eqGuard]; rfl
theorem r_neq (F : Fr a N L D) {k : IntKind} {m n : Int} {yt : TypeId} (hx : ev L x = some (.int k m)) (hy : ev L y = some (.int k n)) : (execOp a.eval { dst := d, op := .binOp .neq t x y yt, type := ty, pos := pos, after := af, guard := gd }).run P w = .ok (.value (.bool (!decide (m = n)))) w := by
 simp [execOp, F.ev hx, F.ev hy, binOp, Op.intCmp, eqGuard, bne]; rfl
theorem r_beql (F : Fr a N L D) {m n : Bool} {yt : TypeId} (hu : P.underlying t = some .bool) (hx : ev L x = some (.bool m)) (hy : ev L y = some (.bool n)) : (execOp a.eval { dst := d, op := .binOp .eql t x y yt, type := ty, pos := pos, after := af, guard := gd }).run P w = .ok (.value (.bool (m == n))) w := by
 have h := run_equal_bool (P := P) (w := w) t m n hu
 simp [execOp, F.ev hx, F.ev hy, binOp, eqGuard, h]
theorem r_sneq (F : Fr a N L D) {m n : ByteArray} {yt : TypeId} (hx : ev L x = some (.string m)) (hy : ev L y = some (.string n)) : (execOp a.eval { dst := d, op := .binOp .neq t x y yt, type := ty, pos := pos, after := af, guard := gd }).run P w = .ok (.value (.bool (!(m.toList == n.toList)))) w := by
 simp [execOp, F.ev hx, F.ev hy, binOp, Op.stringOp, eqGuard]
theorem r_slss (F : Fr a N L D) {m n : ByteArray} {yt : TypeId} (hx : ev L x = some (.string m)) (hy : ev L y = some (.string n)) : (execOp a.eval { dst := d, op := .binOp .lss t x y yt, type := ty, pos := pos, after := af, guard := gd }).run P w = .ok (.value (.bool (Op.bytesLess m.toList n.toList))) w := by
 simp [execOp, F.ev hx, F.ev hy, binOp, Op.stringOp, eqGuard]
theorem r_sgtr (F : Fr a N L D) {m n : ByteArray} {yt : TypeId} (hx : ev L x = some (.string m)) (hy : ev L y = some (.string n)) : (execOp a.eval { dst := d, op := .binOp .gtr t x y yt, type := ty, pos := pos, after := af, guard := gd }).run P w = .ok (.value (.bool (!(Op.bytesLess m.toList n.toList || m.toList == n.toList)))) w := by
 simp [execOp, F.ev hx, F.ev hy, binOp, Op.stringOp, eqGuard]
theorem r_peql (F : Fr a N L D) {p : Option Addr} {yt : TypeId} (hu : P.underlying t = some (.pointer (P.pointee t))) (hx : ev L x = some (.pointer p)) (hy : ev L y = some (.pointer none)) : (execOp a.eval { dst := d, op := .binOp .eql t x y yt, type := ty, pos := pos, after := af, guard := gd }).run P w = .ok (.value (.bool p.isNone)) w := by
 have h := run_eql_pointer_nil (P := P) (w := w) t p hu
 simp [execOp, F.ev hx, F.ev hy, eqGuard, h]
theorem r_pneq (F : Fr a N L D) {p : Option Addr} {yt : TypeId} (hu : P.underlying t = some (.pointer (P.pointee t))) (hx : ev L x = some (.pointer p)) (hy : ev L y = some (.pointer none)) : (execOp a.eval { dst := d, op := .binOp .neq t x y yt, type := ty, pos := pos, after := af, guard := gd }).run P w = .ok (.value (.bool (!p.isNone))) w := by
 have h := run_neq_pointer_nil (P := P) (w := w) t p hu
 simp [execOp, F.ev hx, F.ev hy, eqGuard, h]
theorem r_not (F : Fr a N L D) {b : Bool} (hx : ev L x = some (.bool b)) : (execOp a.eval { dst := d, op := .unOp .not t x, type := ty, pos := pos, after := af, guard := gd }).run P w = .ok (.value (.bool (!b))) w := by
 simp [execOp, F.ev hx, Op.unary]
theorem r_extract (F : Fr a N L D) {vs : Array Value} {n : Nat} (hx : ev L x = some (.tuple vs)) (hv : vs[n]? = some v) : (execOp a.eval { dst := d, op := .extract x n, type := ty, pos := pos, after := af, guard := gd }).run P w = .ok (.value v) w := by
 simp [execOp, F.ev hx, Instr.extract, hv]
theorem r_convi (F : Fr a N L D) {k k' : IntKind} {n : Int} {s : TypeId} (hd : P.underlying t = some (.int k')) (hs : (P.underlying s).isSome = true) (hx : ev L x = some (.int k n)) : (execOp a.eval { dst := d, op := .convert s t x, type := ty, pos := pos, after := af, guard := gd }).run P w = .ok (.value (.int k' (k'.wrap n))) w := by
 obtain ⟨q, hq⟩ := Option.isSome_iff_exists.1 hs
 simp [execOp, F.ev hx, convert, run_underlying hq, run_underlying hd, Conv.intToInt]
theorem r_lensl (F : Fr a N L D) {A : Option Addr} {n cap : Nat} {e : TypeId} (hu : P.underlying t = some (.slice e)) (hx : ev L x = some (.slice A n cap)) : (execOp a.eval { dst := d, op := .call { callee := .builtin .len, args := #[x], argTypes := #[t] }, type := ty, pos := pos, after := af, guard := gd }).run P w = .ok (.value (.int .i64 n)) w := by
 simp [execOp, resolve, invoke, builtin, F.ev hx, Builtin.len_, run_underlying hu, goInt]
theorem r_lenstr (F : Fr a N L D) {s : ByteArray} (hu : P.underlying t = some .string) (hx : ev L x = some (.string s)) : (execOp a.eval { dst := d, op := .call { callee := .builtin .len, args := #[x], argTypes := #[t] }, type := ty, pos := pos, after := af, guard := gd }).run P w = .ok (.value (.int .i64 s.size)) w := by
 simp [execOp, resolve, invoke, builtin, F.ev hx, Builtin.len_, run_underlying hu, goInt]
theorem r_indexAddr (F : Fr a N L D) {A : Addr} {n cap sz : Nat} {k : IntKind} {i : Int} {e : TypeId} (hu : P.underlying t = some (.slice e)) (hs : ∀ w, (sizeOf e).run P w = .ok sz w) (hx : ev L x = some (.slice (some A) n cap)) (hy : ev L y = some (.int k i)) (h0 : 0 ≤ i) (h1 : i < n) :
  (execOp a.eval { dst := d, op := .indexAddr t x y, type := ty, pos := pos, after := af, guard := gd }).run P w = .ok (.value (.pointer (some (A.add (i.toNat * sz))))) w := by
 simp [execOp, F.ev hx, F.ev hy, Instr.indexAt, asIntOf, run_underlying hu, hs, h0, h1]
theorem oz_eval (F : Fr a N L D) {oz : Array Operand} {vs : List Value} (hv : oz.toList.map (ev L) = vs.map some) : oz.map a.eval = vs.toArray := by
 apply Array.toList_inj.1
 simp only [Array.toList_map]
 generalize oz.toList = l at hv ⊢
 induction l generalizing vs with
 | nil => cases vs with
  | nil => rfl
  | cons _ _ => simp at hv
 | cons t ts ih => cases vs with
  | nil => simp at hv
  | cons v vs =>
   simp only [List.map_cons, List.cons.injEq] at hv
   simp only [List.map_cons]
   rw [F.ev hv.1, ih hv.2]
theorem r_makeFunc (F : Fr a N L D) {f : FuncId} {oz : Array Operand} {vs : List Value} (hv : oz.toList.map (ev L) = vs.map some) :
  (execOp a.eval { dst := d, op := .makeFunc (.func f) #[] oz, type := ty, pos := pos, after := af, guard := gd }).run P w = .ok (.value (.func (.func f) #[] vs.toArray)) w := by
 have e := oz_eval F hv
 simp [execOp, e, Instr.makeFunc, Sem.run_bind, Sem.run_pure, Result.andThen]
theorem r_call (F : Fr a N L D) {f : FuncId} {fn : Func} {oz : Array Operand} {ats : Array TypeId} {vs : List Value} (hf : P.funcs[f]? = some fn) (hb : fn.body.isNone = false) (hn : (fn.name == "runtime.NumGoroutine") = false) (hv : oz.toList.map (ev L) = vs.map some) :
  (execOp a.eval { dst := d, op := .call { callee := .value (.func f), args := oz, argTypes := ats }, type := ty, pos := pos, after := af, guard := gd }).run P w = .ok (.enter f vs.toArray) w := by
 have e : oz.map a.eval = vs.toArray := by
  apply Array.toList_inj.1
  simp only [Array.toList_map]
  clear hf hb hn
  generalize oz.toList = l at hv ⊢
  induction l generalizing vs with
  | nil => cases vs with
   | nil => rfl
   | cons _ _ => simp at hv
  | cons t ts ih => cases vs with
   | nil => simp at hv
   | cons v vs =>
    simp only [List.map_cons, List.cons.injEq] at hv
    simp only [List.map_cons]
    rw [F.ev hv.1, ih hv.2]
 have ef : a.eval (.func f) = .func (.func f) #[] #[] := rfl
 have hn' : ¬ fn.name = "runtime.NumGoroutine" := by simpa using hn
 have hb' : ¬ fn.body = none := by intro q; rw [q] at hb; cases hb
 simp [execOp, resolve, Deferred.ofValue, ef, e, invoke, callFunc, hf, hb', hn']
end
section
variable {P : Program} {ops : Array Oper} {Q : Exit → Act → World → Prop} {K : Act → World → Prop} {a : Act} {N : Nat} {L : List (Nat × Value)} {D : List Deferred} {w w' : World} {rest : List Oper} {o : Oper} {d : Nat} {R : Value → World → Prop} {R0 : World → Prop}
theorem q_eff (F : Fr a N L D) (hg : o.guard = none) (hd : o.dst = some d) (hN : d < N) (h : ∃ v w', (execOp a.eval o).run P w = .ok (.value v) w' ∧ R v w')
  (k : ∀ v w' a', R v w' → Fr a' N ((d, v) :: L) D → wL P ops K rest a' w') : wL P ops K (o :: rest) a w := by
 obtain ⟨v, w', hr, hR⟩ := h
 exact q_val F hg hd hN hr fun a' F' => k v w' a' hR F'
theorem q_eff0 (F : Fr a N L D) (hg : o.guard = none) (hd : o.dst = none) (h : ∃ w', (execOp a.eval o).run P w = .ok .skip w' ∧ R0 w')
  (k : ∀ w' a', R0 w' → Fr a' N L D → wL P ops K rest a' w') : wL P ops K (o :: rest) a w := by
 obtain ⟨w', hr, hR⟩ := h
 exact q_skip F hg hd hr fun a' F' => k w' a' hR F'
theorem o_eff {i : Nat} {K : Act → World → Prop} (F : Fr a N L D) (ho : ops[i]? = some o) (hg : o.guard = none) (hd : o.dst = some d) (hN : d < N) (h : ∃ v w', (execOp a.eval o).run P w = .ok (.value v) w' ∧ R v w')
  (k : ∀ v w' a', R v w' → Fr a' N ((d, v) :: L) D → K a' w') : wO P ops i K a w := by
 obtain ⟨v, w', hr, hR⟩ := h
 exact o_val F ho hg hd hN hr fun a' F' => k v w' a' hR F'
theorem o_eff0 {i : Nat} {K : Act → World → Prop} (F : Fr a N L D) (ho : ops[i]? = some o) (hg : o.guard = none) (hd : o.dst = none) (h : ∃ w', (execOp a.eval o).run P w = .ok .skip w' ∧ R0 w')
  (k : ∀ w' a', R0 w' → Fr a' N L D → K a' w') : wO P ops i K a w := by
 obtain ⟨w', hr, hR⟩ := h
 exact o_skip F ho hg hd hr fun a' F' => k w' a' hR F'
end
section
variable {P : Program} {a : Act} {N : Nat} {L : List (Nat × Value)} {D : List Deferred} {w w' : World} {v u : Value} {x y : Operand} {d : Option Tmp} {t ty : TypeId} {pos : String} {af : Array Edge} {gd : Option (Nat × Bool)} {c : Nat → Nat} {j i : Nat}
def New (cs : List Value) (c : Nat → Nat) (w : World) (j : Nat) (v : Value) (w' : World) : Prop :=
 ∃ c' p, v = .pointer (some p) ∧ Ev No c w c' w' ∧ AT true j c' w' p cs ∧ ∀ m, CB m c w → j < m → CB m c' w'
theorem e_alloc (F : Fr a N L D) {e : TypeId} {z : Value} (hz : ∀ w, (zeroValue e).run P w = .ok z w) (c : Nat → Nat) (j : Nat) :
  ∃ v w', (execOp a.eval { dst := d, op := .alloc e, type := ty, pos := pos, after := af, guard := gd }).run P w = .ok (.value v) w' ∧ New z.cells.toList c w j v w' := by
 obtain ⟨h1, h2, h3⟩ := alloc_new (M := No) c w z.cells e (0, 0) j true (fun _ k _ => by simp)
 refine ⟨_, _, ?_, _, _, rfl, h1, h2, h3⟩
 simp [execOp, Instr.alloc, hz, newVar, newRow]
theorem e_box (F : Fr a N L D) {e : TypeId} (hx : ev L x = some v) (c : Nat → Nat) (j : Nat) :
  ∃ v' w', (execOp a.eval { dst := d, op := .box e x, type := ty, pos := pos, after := af, guard := gd }).run P w = .ok (.value v') w' ∧ New v.cells.toList c w j v' w' := by
 obtain ⟨h1, h2, h3⟩ := alloc_new (M := No) c w v.cells e (0, 0) j true (fun _ k _ => by simp)
 refine ⟨_, _, ?_, _, _, rfl, h1, h2, h3⟩
 simp [execOp, Instr.box, F.ev hx, newVar, newRow]
def evs (L : List (Nat × Value)) : List (Nat × Operand) → List (Nat × Value) → Prop
 | [], [] => True
 | (i, x) :: l, (k, v) :: m => i = k ∧ ev L x = some v ∧ evs L l m
 | _, _ => False
theorem evs_map (F : Fr a N L D) : ∀ {l : List (Nat × Operand)} {m : List (Nat × Value)}, evs L l m → l.map (fun p => (p.1, a.eval p.2)) = m
 | [], [], _ => rfl
 | (i, x) :: l, (k, v) :: m, ⟨h1, h2, h3⟩ => by
  simp only [List.map_cons, evs_map F h3, F.ev h2, h1]
 | [], _ :: _, h => h.elim
 | _ :: _, [], h => h.elim
theorem r_build (F : Fr a N L D) {ps : List (Nat × Operand)} (vs : List (Nat × Value)) (hv : evs L ps vs) (hb : ∀ w, (Instr.build t vs.toArray).run P w = .ok v w) :
  (execOp a.eval { dst := d, op := .build t ps.toArray, type := ty, pos := pos, after := af, guard := gd }).run P w = .ok (.value v) w := by
 have e : (ps.toArray.map fun (i, x) => (i, a.eval x)) = vs.toArray := by
  rw [← evs_map F hv]; simp
 simp only [execOp]
 rw [e]
 simp [hb]
def NewS {α : Type} (k : K α) (xs : List α) (c : Nat → Nat) (w : World) (j i : Nat) (v : Value) (w' : World) : Prop :=
 ∃ c' A cap, v = .slice A xs.length cap ∧ Ev No c w c' w' ∧ SL true k j i c' w' A cap xs ∧ ∀ m, CB m c w → j < m → CB m c' w'
def Els {α : Type} (k : K α) (i : Nat) (c : Nat → Nat) (w : World) : List Value → List α → Prop
 | _, [] => True
 | cs, x :: xs => k.rep i c w (cs.take k.sz) x ∧ Els k i c w (cs.drop k.sz) xs
theorem Els.spec {α : Type} {k : K α} : ∀ {xs : List α} {cs : List Value}, Els k i c w cs xs → ∀ n (h : n < xs.length), k.rep i c w ((cs.drop (n * k.sz)).take k.sz) xs[n]
 | [], _, _, n, h => absurd h (by simp)
 | x :: xs, cs, ⟨h1, h2⟩, 0, _ => by simpa using h1
 | x :: xs, cs, ⟨h1, h2⟩, n + 1, h => by
  have := Els.spec h2 n (by simpa using h)
  rw [List.drop_drop] at this
  rw [show (n + 1) * k.sz = k.sz + n * k.sz by rw [Nat.add_mul, Nat.one_mul, Nat.add_comm]]
  simpa using this
theorem e_buildSlice {α : Type} {k : K α} (F : Fr a N L D) {n : Nat} {e : TypeId} {ps : List (Nat × Operand)} (vs : List (Nat × Value)) (cs : List Value) (xs : List α) (hv : evs L ps vs)
  (hb : ∀ w, (Instr.buildSlice t n vs.toArray).run P w = .ok (.slice (some ⟨w.heap.size, 0, none⟩) n n) (w.alloc (.cells cs.toArray e (0, 0)))) (hn : n = xs.length) (hm : n ≤ maxLen) (hl : cs.length = n * k.sz) (hr : Els k i c w cs xs) (hi : ¬ No i) (j : Nat) :
  ∃ v' w', (execOp a.eval { dst := d, op := .buildSlice t n ps.toArray, type := ty, pos := pos, after := af, guard := gd }).run P w = .ok (.value v') w' ∧ NewS k xs c w j i v' w' := by
 subst hn
 obtain ⟨h1, h2, h3⟩ := alloc_new (M := No) c w cs.toArray e (0, 0) j true (fun _ k _ => by simp)
 have e : (ps.toArray.map fun (i, x) => (i, a.eval x)) = vs.toArray := by
  rw [← evs_map F hv]; simp
 refine ⟨_, _, ?_, _, _, _, rfl, h1, ⟨cs, Nat.le_refl _, hm, hl, .inr ⟨_, rfl, by simpa using h2⟩, fun n hn => k.ev (hr.spec n hn) h1 hi⟩, h3⟩
 simp only [execOp]
 rw [e]
 simp [hb]
theorem oneCell_cells {v : Value} (h : v.oneCell' = true) : v.cells = #[v] := by
 cases v <;> first | rfl | (simp [Value.oneCell'] at h)
theorem run_store1 {p : Addr} {cs : List Value} {n : Nat} (h : AT true j c w p cs) (hn : n < cs.length) (hu : u.oneCell' = true) : (store (p.add n) u).run P w = .ok () (w.setCell (p.add n) u) := by
 rw [run_store P w _ _ _ hu]
 have h1 := h.cell (List.getElem?_eq_getElem hn)
 rw [h1]
 simp [h.free hn]
theorem e_store (F : Fr a N L D) {p : Addr} {cs : List Value} {n : Nat} (hx : ev L x = some (.pointer (some (p.add n)))) (hy : ev L y = some u) (hs : ∀ w, (sizeOf t).run P w = .ok 1 w) (h : AT true j c w p cs) (hn : n < cs.length) (hu : u.oneCell' = true) :
  ∃ w', (execOp a.eval { dst := d, op := .store t x y, type := ty, pos := pos, after := af, guard := gd }).run P w = .ok .skip w' ∧ (Ev (fun k => k = j) c w c w' ∧ AT true j c w' p (cs.set n u) ∧ w'.heap.size = w.heap.size) := by
 refine ⟨_, ?_, h.set hn u⟩
 have h1 := run_store1 (P := P) h hn hu
 have h0 : ((p.add n).add 0) = p.add n := by simp [Addr.add]
 simp [execOp, F.ev hx, F.ev hy, Instr.storeAt, Instr.sureAddr, storeVar, hs, oneCell_cells hu, storeCells, h0, h1]
def lay (cs : List Value) (n : Nat) (us : List Value) : List Value := cs.take n ++ us ++ cs.drop (n + us.length)
theorem lay_length {cs us : List Value} {n : Nat} (h : n + us.length ≤ cs.length) : (lay cs n us).length = cs.length := by simp [lay]; omega
theorem lay_cons {cs us : List Value} {n : Nat} {u : Value} (h : n + (us.length + 1) ≤ cs.length) : lay (cs.set n u) (n + 1) us = lay cs n (u :: us) := by
 apply List.ext_getElem?
 intro k
 simp only [lay, List.getElem?_append, List.length_append, List.length_take, List.length_set, List.getElem?_take, List.getElem?_drop, List.getElem?_set, List.length_cons]
 by_cases h1 : k < n
 ·simp [h1, show k < n + 1 by omega, show k < cs.length by omega, show ¬ n = k by omega, show min n cs.length = n by omega, show min (n+1) cs.length = n+1 by omega, show k < n + (us.length + 1) by omega, show k < n + 1 + us.length by omega]
 ·by_cases h2 : k = n
  ·subst h2
   simp [show min k cs.length = k by omega, show min (k+1) cs.length = k+1 by omega, show k < cs.length by omega]
   intro q; omega
  ·by_cases h3 : k < n + (us.length + 1)
   ·obtain ⟨q, rfl⟩ : ∃ q, k = n + 1 + q := ⟨k - (n + 1), by omega⟩
    have e1 : n + 1 + q - n = q + 1 := by omega
    have e2 : n + 1 + q - (n + 1) = q := by omega
    have e3 : min n cs.length = n := by omega
    have e4 : min (n + 1) cs.length = n + 1 := by omega
    simp [e1, e2, e3, e4, show ¬ n + 1 + q < n by omega, show n + 1 + q < n + (us.length + 1) by omega, show n + 1 + q < n + 1 + us.length by omega, show ¬ (n + 1 + q < n + 1) by omega]
   ·have e1 : min n cs.length = n := by omega
    have e2 : min (n + 1) cs.length = n + 1 := by omega
    have e3 : ∀ z, ¬ n = n + 1 + us.length + z := by intro z; omega
    simp [e1, e2, h3, show ¬ k < n + 1 + us.length by omega, e3]
    congr 1; omega
theorem run_lay {p : Addr} : ∀ {us : List Value} {cs : List Value} {w : World} {n : Nat}, AT true j c w p cs → n + us.length ≤ cs.length → (∀ u ∈ us, u.oneCell' = true) → ∃ w', (storeCells (p.add n) us).run P w = .ok () w' ∧ Ev (fun k => k = j) c w c w' ∧ AT true j c w' p (lay cs n us) ∧ w'.heap.size = w.heap.size := by
 have key : ∀ (us : List Value) (cs : List Value) (w : World) (n q : Nat), AT true j c w p cs → n + q + us.length ≤ cs.length → (∀ u ∈ us, u.oneCell' = true) → ∃ w', (storeCells (p.add n) us q).run P w = .ok () w' ∧ Ev (fun k => k = j) c w c w' ∧ AT true j c w' p (lay cs (n + q) us) ∧ w'.heap.size = w.heap.size := by
  intro us
  induction us with
  | nil => intro cs w n q h hl _; exact ⟨w, rfl, Ev.refl, by simpa [lay] using h, rfl⟩
  | cons u us ih =>
   intro cs w n q h hl hu
   simp only [List.length_cons] at hl
   obtain ⟨E, h2, hz⟩ := h.set (n := n + q) (by omega) u
   have hs := run_store1 (P := P) (n := n + q) h (by omega) (hu u (by simp))
   obtain ⟨w', hr, E2, h3, hz2⟩ := ih (cs.set (n + q) u) (w.setCell (p.add (n + q)) u) n (q + 1) h2 (by simp; omega) (fun x hx => hu x (by simp [hx]))
   refine ⟨w', ?_, E.trans E2 (fun _ h => h), ?_, hz2.trans hz⟩
   ·have e : (p.add n).add q = p.add (n + q) := by
     obtain ⟨b, off, cur, ty, fz, rfl, _⟩ := h
     rw [add_eq, add_eq, add_eq, Nat.add_assoc]
    simp only [storeCells, Sem.run_bind, e, hs, Result.andThen_ok, hr]
   ·rw [← Nat.add_assoc, lay_cons (by omega)] at h3; exact h3
 intro us cs w n h hl hu
 exact key us cs w n 0 h (by omega) hu
theorem e_storeN (F : Fr a N L D) {p : Addr} {cs us : List Value} {n : Nat} (hx : ev L x = some (.pointer (some (p.add n)))) (hy : ev L y = some (.agg us.toArray)) (hs : ∀ w, (sizeOf t).run P w = .ok us.length w) (h : AT true j c w p cs) (hn : n + us.length ≤ cs.length) (hu : ∀ u ∈ us, u.oneCell' = true) :
  ∃ w', (execOp a.eval { dst := d, op := .store t x y, type := ty, pos := pos, after := af, guard := gd }).run P w = .ok .skip w' ∧ (Ev (fun k => k = j) c w c w' ∧ AT true j c w' p (lay cs n us) ∧ w'.heap.size = w.heap.size) := by
 obtain ⟨w', hr, h1⟩ := run_lay (P := P) h hn hu
 refine ⟨w', ?_, h1⟩
 simp [execOp, F.ev hx, F.ev hy, Instr.storeAt, Instr.sureAddr, storeVar, hs, Value.cells, hr]
end
structure ET (P : Program) (t e : TypeId) (sz bytes : Nat) (z : Value) : Prop where
 ht : P.underlying t = some (.slice e)
 hi : ∃ i, P.info? e = some i ∧ i.zero = some z ∧ i.size = sz ∧ i.bytes = bytes
 hz : z.cells.size = sz
theorem blk_old {cs r : List Value} {n sz q : Nat} (hq : q < n) (hn : n * sz ≤ cs.length) : ((cs.take (n * sz) ++ r).drop (q * sz)).take sz = (cs.drop (q * sz)).take sz := by
 have h1 : (q + 1) * sz ≤ n * sz := Nat.mul_le_mul_right _ (by omega)
 rw [Nat.add_mul, Nat.one_mul] at h1
 rw [List.drop_append_of_le_length (by simp; omega), List.take_append_of_le_length (by simp; omega), List.drop_take, List.take_take]
 congr 1; omega
theorem blk_new {os ds r : List Value} {n m sz q : Nat} (ho : os.length = n * sz) (hq : q < m) (hm : m * sz ≤ ds.length) : ((os ++ (ds.take (m * sz) ++ r)).drop ((n + q) * sz)).take sz = (ds.drop (q * sz)).take sz := by
 rw [Nat.add_mul, ← ho, ← List.drop_drop, List.drop_left]
 exact blk_old hq hm
section
variable {P : Program} {w w' : World} {c : Nat → Nat} {j j2 i : Nat} {own own2 : Bool} {A B : Option Addr} {cap cap2 : Nat} {t e ty : TypeId} {bytes : Nat} {z : Value} {α : Type} {k : K α} {xs ys : List α}
theorem run_first {sz n len : Nat} {cs : List Value} (h : Row own j c w A cs) (hl : cs.length = cap * sz) (hn : n ≤ cap) (w1 : World) (hw : w1.heap = w.heap) :
  (Builtin.firstCells sz n (.slice A len cap)).run P w1 = .ok (cs.take (n * sz)).toArray w1 := by
 have hle : n * sz ≤ cap * sz := Nat.mul_le_mul_right _ hn
 rcases h with h | ⟨a, rfl, h⟩
 ·subst h
  simp at hl
  have h0 : n * sz = 0 := by omega
  cases A with
  | none => rw [run_firstCells_none]; simp
  | some a => exact run_firstCells_some w1 sz n a len cap _ (by simp [h0]) (fun j v hj => by simp at hj)
 ·refine run_firstCells_some w1 sz n a len cap _ (by simp; omega) (fun q v hq => ?_)
  have hlt : q < n * sz := by have := (List.getElem?_eq_some_iff.1 hq).1; simp at this; omega
  rw [List.getElem?_take_of_lt hlt] at hq
  have := h.cell hq
  simp only [World.cell?, hw] at this ⊢
  exact this
theorem run_append (T : ET P t e k.sz bytes z) (h1 : SL true k j i c w A cap xs) (h2 : SL own2 k j2 i c w B cap2 ys) (hb : (xs.length + ys.length) * bytes ≤ 140737488355328) (hm : xs.length + ys.length ≤ maxLen) (hij : i ≠ j) :
  ∃ A' cap' w', (Builtin.append_ #[t, t] ty #[.slice A xs.length cap, .slice B ys.length cap2]).run P w = .ok (.slice A' (xs ++ ys).length cap') w' ∧
   ∃ c', Ev (fun x => x = j) c w c' w' ∧ SL true k j i c' w' A' cap' (xs ++ ys) ∧ ∀ m, CB m c w → j < m → CB m c' w' := by
 obtain ⟨cs, a1, a2, a3, a4, a5⟩ := h1
 obtain ⟨ds, b1, b2, b3, b4, b5⟩ := h2
 obtain ⟨inf, hi, hz, hs, hby⟩ := T.hi
 subst hby
 have hp := k.pos
 have xl : xs.length * k.sz ≤ cs.length := by rw [a3]; exact Nat.mul_le_mul_right _ a1
 have yl : ys.length * k.sz ≤ ds.length := by rw [b3]; exact Nat.mul_le_mul_right _ b1
 have hlen : (xs ++ ys).length = xs.length + ys.length := by simp
 have reps : ∀ (c' : Nat → Nat) (w' : World) (r : List Value), Ev (fun x => x = j) c w c' w' → ∀ n (h : n < (xs ++ ys).length), k.rep i c' w' (((cs.take (xs.length * k.sz) ++ (ds.take (ys.length * k.sz) ++ r)).drop (n * k.sz)).take k.sz) (xs ++ ys)[n] := by
  intro c' w' r E n hn
  by_cases q : n < xs.length
  ·rw [blk_old q xl, List.getElem_append_left q]; exact k.ev (a5 n q) E hij
  ·obtain ⟨q', rfl⟩ : ∃ q', n = xs.length + q' := ⟨n - xs.length, by omega⟩
   have hq' : q' < ys.length := by simp at hn; omega
   rw [blk_new (by simp; omega) hq' yl, List.getElem_append_right (by omega)]
   simp only [Nat.add_sub_cancel_left]
   exact k.ev (b5 q' hq') E hij
 have f2 := fun w1 hw => run_first (P := P) (len := ys.length) (n := ys.length) b4 b3 b1 w1 hw
 by_cases room : xs.length + ys.length ≤ cap
 ·rcases a4 with a4 | ⟨a, rfl, a4⟩
  ·have hc0 : cap = 0 := by
    subst a4
    have h : cap * k.sz = 0 := a3.symm
    rcases Nat.mul_eq_zero.1 h with h | h
    ·exact h
    ·omega
   have x0 : xs = [] := List.eq_nil_of_length_eq_zero (by omega)
   have y0 : ys = [] := List.eq_nil_of_length_eq_zero (by omega)
   subst x0 y0 hc0
   refine ⟨A, 0, w, ?_, c, Ev.refl, ⟨cs, by simp, by simp, a3, .inl a4, fun n hn => by simp at hn⟩, fun m hm _ => hm⟩
   have f3 := f2 w rfl
   simp at f3
   cases A <;> simp [Builtin.append_, run_underlying T.ht, sizeOf, typeInfo, hi, hs, Builtin.lenOf, f3, storeCells]
  ·obtain ⟨w1, hr, E, hat, hsz⟩ := run_lay (P := P) (n := xs.length * k.sz) (us := ds.take (ys.length * k.sz)) a4 (by
     have : (xs.length + ys.length) * k.sz ≤ cap * k.sz := Nat.mul_le_mul_right _ room
     rw [Nat.add_mul] at this
     simp; omega) (fun u hu => by
     obtain ⟨q, hq, rfl⟩ := List.getElem_of_mem hu
     simp at hq
     have hlt : q / k.sz < ys.length := Nat.div_lt_of_lt_mul (by rw [Nat.mul_comm]; omega)
     have hone := k.one (b5 (q / k.sz) hlt)
     apply hone
     rw [List.getElem_take]
     have e1 : ((ds.drop (q / k.sz * k.sz)).take k.sz)[q % k.sz]? = some ds[q] := by
      rw [List.getElem?_take_of_lt (Nat.mod_lt _ hp), List.getElem?_drop, Nat.div_add_mod' q k.sz, List.getElem?_eq_getElem]
     exact List.mem_of_getElem? e1)
   refine ⟨some a, cap, w1, ?_, c, E, ⟨lay cs (xs.length * k.sz) (ds.take (ys.length * k.sz)), by rw [hlen]; exact room, a2, ?_, .inr ⟨a, rfl, hat⟩, fun n hn => ?_⟩, fun m hm _ => hm.size hsz⟩
   ·have f3 := f2 w rfl
    simp only [Builtin.append_, Sem.run_bind]
    simp [run_underlying T.ht, sizeOf, typeInfo, hi, hs, Builtin.lenOf, room, f3, hr]
   ·rw [lay_length]
    ·exact a3
    ·have : (xs.length + ys.length) * k.sz ≤ cap * k.sz := Nat.mul_le_mul_right _ room
     rw [Nat.add_mul] at this
     simp; omega
   ·have := reps c w1 (cs.drop (xs.length * k.sz + (ds.take (ys.length * k.sz)).length)) E n hn
    unfold lay
    rw [List.append_assoc]; exact this
 ·have f1 := fun w1 hw => run_first (P := P) (len := xs.length) (n := xs.length) a4 a3 a1 w1 hw
  have hg : cap < xs.length + ys.length := by omega
  have h63' : ¬ (9223372036854775807 < ((xs.length : Int) + (ys.length : Int))) := by simp only [maxLen] at hm; omega
  have h48' : ¬ (281474976710656 < Builtin.nextslicecap (xs.length + ys.length) cap * inf.bytes) := by have := growslice_fits hg hb; omega
  have g1 := grownCap_ge w (xs.length + ys.length) cap e
  have g2 := grownCap_le_maxLen w (xs.length + ys.length) cap e hm
  have e1 := f1 w.drew rfl
  have e2 := f2 w.drew rfl
  obtain ⟨n1, n2, n3⟩ := alloc_new (M := fun x => x = j) c w.drew ((cs.take (xs.length * k.sz)).toArray ++ (ds.take (ys.length * k.sz)).toArray ++ Builtin.zeroCells z.cells (grownCap w (xs.length + ys.length) cap e - (xs.length + ys.length))) e (0, 0) j true (fun _ k _ => by simp)
  refine ⟨some ⟨w.heap.size, 0, none⟩, grownCap w (xs.length + ys.length) cap e, _, ?_, _, ⟨n1.os, n1.tape, n1.out, n1.size, n1.col, n1.blk⟩, ⟨_, by rw [hlen]; exact g1, g2, ?_, .inr ⟨_, rfl, n2⟩, fun n hn => ?_⟩, fun m hm hj => n3 m (fun k hk => hm k hk) hj⟩
  ·rw [hlen]
   simp [Builtin.append_, run_underlying T.ht, sizeOf, typeInfo, zeroValue, hi, hz, hs, Builtin.lenOf, room, h63', h48', Question.forced, e1, e2, newRow, grownCap]
   congr 2
   apply Array.ext'
   simp [List.append_assoc]
  ·have hzz : (Builtin.zeroCells z.cells (grownCap w (xs.length + ys.length) cap e - (xs.length + ys.length))).size = (grownCap w (xs.length + ys.length) cap e - (xs.length + ys.length)) * k.sz := by rw [← T.hz]; simp [Builtin.zeroCells]
   simp [hzz]
   rw [Nat.min_eq_left xl, Nat.min_eq_left yl, ← Nat.add_mul, ← Nat.add_mul]
   congr 1; omega
  ·have := reps _ _ (Builtin.zeroCells z.cells (grownCap w (xs.length + ys.length) cap e - (xs.length + ys.length))).toList (⟨n1.os, n1.tape, n1.out, n1.size, n1.col, n1.blk⟩ : Ev (fun x => x = j) c w _ _) n hn
   simpa [List.append_assoc] using this
end
section
variable {P : Program} {a : Act} {N : Nat} {L : List (Nat × Value)} {D : List Deferred} {w w' : World} {v u : Value} {x y : Operand} {d : Option Tmp} {t e ty : TypeId} {pos : String} {af : Array Edge} {gd : Option (Nat × Bool)} {c : Nat → Nat} {j j2 i : Nat} {own own2 : Bool} {A B : Option Addr} {cap cap2 : Nat} {bytes : Nat} {z : Value} {α : Type} {k : K α} {xs ys : List α}
def NewA {α : Type} (k : K α) (xs : List α) (c : Nat → Nat) (w : World) (j i : Nat) (v : Value) (w' : World) : Prop :=
 ∃ c' A cap, v = .slice A xs.length cap ∧ Ev (fun x => x = j) c w c' w' ∧ SL true k j i c' w' A cap xs ∧ ∀ m, CB m c w → j < m → CB m c' w'
theorem e_append (F : Fr a N L D) (T : ET P t e k.sz bytes z) (hx : ev L x = some (.slice A xs.length cap)) (hy : ev L y = some (.slice B ys.length cap2)) (h1 : SL true k j i c w A cap xs) (h2 : SL own2 k j2 i c w B cap2 ys) (hb : (xs.length + ys.length) * bytes ≤ 140737488355328) (hm : xs.length + ys.length ≤ maxLen) (hij : i ≠ j) :
  ∃ v w', (execOp a.eval { dst := d, op := .call { callee := .builtin .append, args := #[x, y], argTypes := #[t, t] }, type := ty, pos := pos, after := af, guard := gd }).run P w = .ok (.value v) w' ∧ NewA k (xs ++ ys) c w j i v w' := by
 obtain ⟨A', cap', w1, hr, c', h⟩ := run_append (ty := ty) T h1 h2 hb hm hij
 refine ⟨_, w1, ?_, c', A', cap', rfl, h⟩
 simp [execOp, resolve, invoke, builtin, F.ev hx, F.ev hy, hr]
theorem r_slice (F : Fr a N L D) {lo hi mx : Option Operand} {vl vh vm : Option Value} (hx : ev L x = some (.slice A xs.length cap)) (h1 : lo.map (ev L) = vl.map some) (h2 : hi.map (ev L) = vh.map some) (h3 : mx.map (ev L) = vm.map some)
  (hr : ∀ w, (Instr.sliceAt t (.slice A xs.length cap) vl vh vm).run P w = .ok v w) :
  (execOp a.eval { dst := d, op := .slice t x lo hi mx, type := ty, pos := pos, after := af, guard := gd }).run P w = .ok (.value v) w := by
 have e1 : lo.map a.eval = vl := by
  cases lo <;> cases vl <;> simp at h1 ⊢; rw [F.ev h1]
 have e2 : hi.map a.eval = vh := by
  cases hi <;> cases vh <;> simp at h2 ⊢; rw [F.ev h2]
 have e3 : mx.map a.eval = vm := by
  cases mx <;> cases vm <;> simp at h3 ⊢; rw [F.ev h3]
 simp [execOp, F.ev hx, e1, e2, e3, hr]
theorem run_cut {n l r m : Nat} {e : TypeId} {sz : Nat} (hu : P.underlying t = some (.slice e)) (hs : ∀ w, (sizeOf e).run P w = .ok sz w) (vl vh vm : Option Value)
  (hb : ∀ w, (Instr.sliceBounds true n cap vl vh vm).run P w = .ok (l, r, m) w) : ∀ w, (Instr.sliceAt t (.slice A n cap) vl vh vm).run P w = .ok (.slice (if m = l then A else A.map fun a => a.add (l * sz)) (r - l) (m - l)) w := by
 intro w
 simp [Instr.sliceAt, run_underlying hu, Instr.slice, hb, hs]
theorem sb_h {n : Nat} {kh : IntKind} {h : Int} (h1 : 0 ≤ h) (h2 : h ≤ cap) : ∀ w, (Instr.sliceBounds true n cap none (some (.int kh h)) none).run P w = .ok (0, h.toNat, cap) w := by
 intro w
 simp [Instr.sliceBounds, Instr.sliceBound, asIntOf, h1, h2]
theorem sb_l {n : Nat} {kl : IntKind} {l : Int} (h0 : 0 ≤ l) (h1 : l ≤ n) : ∀ w, (Instr.sliceBounds true n cap (some (.int kl l)) none none).run P w = .ok (l.toNat, n, cap) w := by
 intro w
 simp [Instr.sliceBounds, Instr.sliceBound, asIntOf, h0, h1]
theorem r_bytesStr (F : Fr a N L D) {s e : TypeId} {l : List Int} (hs : P.underlying s = some (.slice e)) (he : P.underlying e = some (.int .u8)) (hd : P.underlying t = some .string) (hx : ev L x = some (.slice A l.length cap)) (h : SL own (Kint .u8) j i c w A cap l) :
  (execOp a.eval { dst := d, op := .convert s t x, type := ty, pos := pos, after := af, guard := gd }).run P w = .ok (.value (.string (bs l))) w := by
 obtain ⟨cs, a1, a2, a3, a4, a5⟩ := h
 have a3' : cs.length = cap := by rw [a3]; show cap * 1 = cap; omega
 rcases a4 with a4 | ⟨p, rfl, b, off, cur, tt, fz, rfl, hb, hc, h1, h2⟩
 ·subst a4
  have h0 : cap = 0 := by simpa using a3'.symm
  have l0 : l = [] := List.eq_nil_of_length_eq_zero (by omega)
  subst l0
  cases A with
  | none => simp [execOp, F.ev hx, run_convert_bytes_string w s t e none _ _ hs he hd, Conv.bytesToString, bs, strOfNums]; rfl
  | some q =>
   have hl := run_loadCells_list (P := P) w q [] (fun j v hj => by simp at hj)
   have hr := run_bytesToString (P := P) w q 0 cap [] (by simpa using hl)
   simp [execOp, F.ev hx, run_convert_bytes_string w s t e (some q) _ _ hs he hd, hr, bs, strOfNums]; rfl
 ·have hr := run_convert_bytes_arg (P := P) (w := w) s e hs he b off l.length cap l rfl (fun q hq => by
   have h5 := (a5 q hq)
   have h5 : (cs.drop (q * (Kint .u8).sz)).take (Kint .u8).sz = [.int .u8 l[q]] := h5
   have h6 := h1 q (by omega)
   have e1 : (Kint .u8).sz = 1 := rfl
   rw [e1, Nat.mul_one] at h5
   have h7 : cs[q]? = some (.int .u8 l[q]) := by
    have := congrArg (fun z => z[0]?) h5
    simpa [List.getElem?_take, List.getElem?_drop] using this
   simp only [World.cell?, hb]
   rw [if_neg (by simp), h6, h7]
   simp [hq]) t hd
  simp [execOp, F.ev hx, hr, bs, strOfNums]
theorem sb_length (s : ByteArray) : (sb s).length = s.size := by simp [sb]
theorem e_strBytes (F : Fr a N L D) {s e : TypeId} {l : ByteArray} (hs : P.underlying s = some .string) (hd : P.underlying t = some (.slice e)) (he : P.underlying e = some (.int .u8)) (hx : ev L x = some (.string l)) (hm : l.size ≤ maxLen) (c : Nat → Nat) (j i : Nat) :
  ∃ v w', (execOp a.eval { dst := d, op := .convert s t x, type := ty, pos := pos, after := af, guard := gd }).run P w = .ok (.value v) w' ∧ NewS (Kint .u8) (sb l) c w j i v w' := by
 have hr := run_bytes_of_string (P := P) w s t e l hs hd he
 have g1 := grownCap_ge w l.size 0 e
 have g2 := grownCap_le_maxLen w l.size 0 e hm
 obtain ⟨n1, n2, n3⟩ := alloc_new (M := No) c w.drew (bytesRow l (grownCap w l.size 0 e)) e ((bytesRow l (grownCap w l.size 0 e)).size, (bytesRow l (grownCap w l.size 0 e)).size + 1) j true (fun _ k hk => by simp; omega)
 have hsz : (bytesRow l (grownCap w l.size 0 e)).size = grownCap w l.size 0 e := by simp [bytesRow]; omega
 refine ⟨.slice (some ⟨w.heap.size, 0, none⟩) l.size (grownCap w l.size 0 e), _, by simp [execOp, F.ev hx, hr], _, _, _, by rw [sb_length]; rfl, ⟨n1.os, n1.tape, n1.out, n1.size, n1.col, n1.blk⟩, ⟨_, by rw [sb_length]; exact g1, g2, by simp [hsz]; show _ = _ * 1; omega, .inr ⟨_, rfl, n2⟩, fun n hn => ?_⟩, fun m hm hj => n3 m (fun k hk => hm k hk) hj⟩
 rw [sb_length] at hn
 have e1 : ((bytesRow l (grownCap w l.size 0 e)).toList.drop (n * 1)).take 1 = [.int .u8 ((sb l)[n]'(by rw [sb_length]; exact hn))] := by
  rw [Nat.mul_one]
  apply List.ext_getElem?
  intro q
  cases q with
  | zero =>
   rw [List.getElem?_take_of_lt (by omega), List.getElem?_drop, Nat.add_zero]
   have hn2 : n < l.data.size := hn
   have hn3 : n < (List.map (fun b : UInt8 => Value.int IntKind.u8 (b.toNat : Int)) l.data.toList).length := by simpa using hn2
   simp only [bytesRow, Array.toList_append, Array.toList_map, Array.toList_replicate]
   rw [List.getElem?_append_left hn3]
   simp [sb, hn2]
   exact ⟨_, Array.getElem?_eq_getElem hn2, rfl⟩
  | succ q => simp; omega
 exact e1
end
section
variable {P : Program} {ops : Array Oper} {Q : Exit → Act → World → Prop} {K : Act → World → Prop} {a : Act} {N : Nat} {L : List (Nat × Value)} {D : List Deferred} {w w' : World} {v u : Value} {x y : Operand} {d : Option Tmp} {t ty : TypeId} {pos : String} {af : Array Edge} {gd : Option (Nat × Bool)} {c : Nat → Nat} {j i : Nat} {own : Bool} {id id' : Nat}
theorem thenE (h : Q (.exit id) a w) : Exit.then K Q (.exit id) a w := h
theorem thenR (h : Q .ret a w) : Exit.then K Q .ret a w := h
theorem inbR (h : Q .ret a w) : Exit.inBlock id Q .ret a w := h
theorem inbE (h : Q .normal a w) : Exit.inBlock id Q (.exit id) a w := by simp only [Exit.inBlock, if_true]; exact h
theorem inbNe (hn : id' ≠ id) (h : Q (.exit id') a w) : Exit.inBlock id Q (.exit id') a w := by simp only [Exit.inBlock, if_neg hn]; exact h
theorem d_e {S : World → Prop} {fin i : Nat} {s : Sch} (h : wO P ops i (fun a' w' => (i ≠ fin → S w') ∧ wpS P ops K S fin s a' w') a w) : wpS P ops K S fin (.e i s) a w := h
theorem d_f {S : World → Prop} {fin i k : Nat} {s s' : Sch} (h : wO P ops i (fun a' w' => (i ≠ fin → S w') ∧ wpS P ops K S fin s a' w') a w) (h' : wO P ops k (fun a' w' => (k ≠ fin → S w') ∧ wpS P ops K S fin s' a' w') a w) : wpS P ops K S fin (.f i s k s') a w := ⟨h, h'⟩
theorem d_g {S : World → Prop} {fin i k l : Nat} {s s' s'' : Sch} (h : wO P ops i (fun a' w' => (i ≠ fin → S w') ∧ wpS P ops K S fin s a' w') a w) (h' : wO P ops k (fun a' w' => (k ≠ fin → S w') ∧ wpS P ops K S fin s' a' w') a w) (h'' : wO P ops l (fun a' w' => (l ≠ fin → S w') ∧ wpS P ops K S fin s'' a' w') a w) : wpS P ops K S fin (.g i s k s' l s'') a w := ⟨h, h', h''⟩
theorem o_no {i : Nat} {o : Oper} {d : Nat} (F : Fr a N L D) {j dj : Nat} {b c : Bool} (ho : ops[i]? = some o) (hg : o.guard = some (j, c)) (hj : (ops[j]?).bind (·.dst) = some dj) (hjN : dj < N) (hv : lk L dj = some (.bool b)) (hb : b = !c) (hd : o.dst = some d) (hN : d < N)
  (k : ∀ a', Fr a' N ((d, undef) :: L) D → K a' w) : wO P ops i K a w := by
 unfold wO; simp only [ho]
 rw [if_neg (by rw [wanted_no F hg hj hjN hv hb]; simp)]
 rw [hd]; exact k _ (F.put undef hN)
theorem yielded_nu (F : Fr a N L D) {j dj : Nat} (hj : (ops[j]?).bind (·.dst) = some dj) (hN : dj < N) (hv : lk L dj = some undef) : yielded ops a.tmps j = none := by
 unfold yielded
 have h := F.get dj _ hv
 have hs := F.size
 simp only [Array.getD_eq_getD_getElem?] at h
 rw [hj]
 simp only [Option.bind_some]
 rw [show a.tmps[dj]? = some (a.tmps[dj]'(by omega)) from Array.getElem?_eq_getElem (by omega)] at h ⊢
 simp only [Option.getD_some] at h
 rw [h]; rfl
theorem wanted_nu {o : Oper} (F : Fr a N L D) {j dj : Nat} {c : Bool} (hg : o.guard = some (j, c)) (hj : (ops[j]?).bind (·.dst) = some dj) (hN : dj < N) (hv : lk L dj = some undef) : Region.wanted o (yielded ops a.tmps) = false := by
 cases c <;> simp [Region.wanted, hg, yielded_nu F hj hN hv]
theorem q_nu {rest : List Oper} (F : Fr a N L D) {op : Op} {d : Nat} {ty : TypeId} {pos : String} {af : Array Edge} {j dj : Nat} {c : Bool} (hj : (ops[j]?).bind (·.dst) = some dj) (hN : dj < N) (hv : lk L dj = some undef) (hd : d < N)
  (k : ∀ a', Fr a' N ((d, undef) :: L) D → wL P ops K rest a' w) : wL P ops K ({ dst := some d, op := op, type := ty, pos := pos, after := af, guard := some (j, c) } :: rest) a w := by
 unfold wL
 rw [if_neg (by rw [wanted_nu F rfl hj hN hv]; simp)]
 exact k _ (F.put undef hd)
theorem d_qnu {i fin : Nat} {S : World → Prop} {s : Sch} {o : Oper} {d : Nat} (F : Fr a N L D) {j dj : Nat} {c : Bool} (ho : ops[i]? = some o) (hg : o.guard = some (j, c)) (hj : (ops[j]?).bind (·.dst) = some dj) (hjN : dj < N) (hv : lk L dj = some undef) (hd : o.dst = some d) (hN : d < N) (hS : S w)
  (k : ∀ a', Fr a' N ((d, undef) :: L) D → wpS P ops K S fin s a' w) : wpS P ops K S fin (.q i s) a w :=
 ⟨o, undef, ho, .inr ⟨wanted_nu F hg hj hjN hv, rfl⟩, hS, by rw [hd]; exact k _ (F.put undef hN)⟩
theorem o_nu {i : Nat} {o : Oper} {d : Nat} (F : Fr a N L D) {j dj : Nat} {c : Bool} (ho : ops[i]? = some o) (hg : o.guard = some (j, c)) (hj : (ops[j]?).bind (·.dst) = some dj) (hjN : dj < N) (hv : lk L dj = some undef) (hd : o.dst = some d) (hN : d < N)
  (k : ∀ a', Fr a' N ((d, undef) :: L) D → K a' w) : wO P ops i K a w := by
 unfold wO; simp only [ho]
 rw [if_neg (by rw [wanted_nu F hg hj hjN hv]; simp)]
 rw [hd]; exact k _ (F.put undef hN)
def SB (M : Nat → Prop) (c : Nat → Nat) (w w' : World) : Prop := Ev M c w c w'
variable {M : Nat → Prop} {p : Addr} {cs : List Value}
theorem Ev.sb {c' : Nat → Nat} (E : Ev M c w c' w') : SB M c w w' := ⟨E.os, E.tape, E.out, E.size, fun _ _ _ => rfl, E.blk⟩
theorem AT.sb (h : AT own j c w p cs) (hS : SB M c w w') (hj : ¬ M j) : AT own j c w' p cs := h.ev hS hj
theorem one_all {us : List Value} (h : us.all (·.oneCell') = true) : ∀ u ∈ us, u.oneCell' = true := fun u hu => List.all_eq_true.1 h u hu
theorem r_peqlA (F : Fr a N L D) {q : Option Addr} {yt : TypeId} {b : Bool} (hu : P.underlying t = some (.pointer (P.pointee t))) (hx : ev L x = some (.pointer q)) (hy : ev L y = some (.pointer none)) (hb : q.isNone = b) : (execOp a.eval { dst := d, op := .binOp .eql t x y yt, type := ty, pos := pos, after := af, guard := gd }).run P w = .ok (.value (.bool b)) w := by
 rw [r_peql F hu hx hy, hb]
theorem r_pneqA (F : Fr a N L D) {q : Option Addr} {yt : TypeId} {b : Bool} (hu : P.underlying t = some (.pointer (P.pointee t))) (hx : ev L x = some (.pointer q)) (hy : ev L y = some (.pointer none)) (hb : q.isNone = b) : (execOp a.eval { dst := d, op := .binOp .neq t x y yt, type := ty, pos := pos, after := af, guard := gd }).run P w = .ok (.value (.bool (!b))) w := by
 rw [r_pneq F hu hx hy, hb]
theorem e_store0 (F : Fr a N L D) (hx : ev L x = some (.pointer (some p))) (hy : ev L y = some u) (hs : ∀ w, (sizeOf t).run P w = .ok 1 w) (h : AT true j c w p cs) (hn : 0 < cs.length) (hu : u.oneCell' = true) :
  ∃ w', (execOp a.eval { dst := d, op := .store t x y, type := ty, pos := pos, after := af, guard := gd }).run P w = .ok .skip w' ∧ (Ev (fun k => k = j) c w c w' ∧ AT true j c w' p (cs.set 0 u) ∧ w'.heap.size = w.heap.size) := by
 have e : p.add 0 = p := by simp [Addr.add]
 exact e_store F (by rw [e]; exact hx) hy hs h hn hu
theorem e_storeN0 (F : Fr a N L D) {us : List Value} (hx : ev L x = some (.pointer (some p))) (hy : ev L y = some (.agg us.toArray)) (hs : ∀ w, (sizeOf t).run P w = .ok us.length w) (h : AT true j c w p cs) (hn : 0 + us.length ≤ cs.length) (hu : ∀ u ∈ us, u.oneCell' = true) :
  ∃ w', (execOp a.eval { dst := d, op := .store t x y, type := ty, pos := pos, after := af, guard := gd }).run P w = .ok .skip w' ∧ (Ev (fun k => k = j) c w c w' ∧ AT true j c w' p (lay cs 0 us) ∧ w'.heap.size = w.heap.size) := by
 have e : p.add 0 = p := by simp [Addr.add]
 exact e_storeN F (by rw [e]; exact hx) hy hs h hn hu
theorem r_indexAddr' (F : Fr a N L D) {A : Option Addr} {A' q : Addr} {n cap sz : Nat} {k : IntKind} {i : Int} {e : TypeId} (hu : P.underlying t = some (.slice e)) (hs : ∀ w, (sizeOf e).run P w = .ok sz w) (hx : ev L x = some (.slice A n cap)) (hy : ev L y = some (.int k i)) (h0 : 0 ≤ i) (h1 : i < n) (hA : A = some A') (hq : q = A'.add (i.toNat * sz)) :
  (execOp a.eval { dst := d, op := .indexAddr t x y, type := ty, pos := pos, after := af, guard := gd }).run P w = .ok (.value (.pointer (some q))) w := by
 subst hA; subst hq; exact r_indexAddr F hu hs hx hy h0 h1
theorem r_max (F : Fr a N L D) {k : IntKind} {m n : Int} {at1 at2 : TypeId} (hx : ev L x = some (.int k m)) (hy : ev L y = some (.int k n)) : (execOp a.eval { dst := d, op := .call { callee := .builtin .max, args := #[x, y], argTypes := #[at1, at2] }, type := ty, pos := pos, after := af, guard := gd }).run P w = .ok (.value (.int k (max m n))) w := by
 simp [execOp, resolve, invoke, builtin, F.ev hx, F.ev hy, Builtin.max_, Builtin.max2]
 rw [Int.max_def]; split <;> split <;> omega
theorem r_min (F : Fr a N L D) {k : IntKind} {m n : Int} {at1 at2 : TypeId} (hx : ev L x = some (.int k m)) (hy : ev L y = some (.int k n)) : (execOp a.eval { dst := d, op := .call { callee := .builtin .min, args := #[x, y], argTypes := #[at1, at2] }, type := ty, pos := pos, after := af, guard := gd }).run P w = .ok (.value (.int k (min m n))) w := by
 simp [execOp, resolve, invoke, builtin, F.ev hx, F.ev hy, Builtin.min_, Builtin.min2]
 rw [Int.min_def]; split <;> split <;> omega
theorem info_parts' {e : TypeId} {z : Value} {sz by_ : Nat} (h : (P.info? e).map (fun i => (i.zero, i.size, i.bytes)) = some (some z, sz, by_)) : ∃ i, P.info? e = some i ∧ i.zero = some z ∧ i.size = sz ∧ i.bytes = by_ := by
 cases hi : P.info? e with
 | none => rw [hi] at h; cases h
 | some i => rw [hi] at h; simp at h; exact ⟨i, rfl, h.1, h.2.1, h.2.2⟩
def RV (P : Program) (L : List (Nat × Value)) (w : World) : ResultVar → Value → Prop
 | .tmp t, v => lk L t = some v
 | .cell q t, v => ∃ p, lk L q = some (.pointer (some p)) ∧ (loadVar t p).run P w = .ok v w
theorem lv_one (ha : ∀ w, (isAgg t).run P w = .ok false w) (hc : w.cell? p = some v) : (loadVar t p).run P w = .ok v w := by
 simp [loadVar, ha, run_load, hc]
theorem lv_agg (ha : ∀ w, (isAgg t).run P w = .ok true w) (hs : ∀ w, (sizeOf t).run P w = .ok cs.length w) (hc : AT own j c w p cs) : (loadVar t p).run P w = .ok (.agg cs.toArray) w := by
 have h := run_loadCells_list (P := P) w p cs (fun j v hj => hc.cell hj)
 simp [loadVar, ha, hs, h]
def rvS (tmps : Array Value) : ResultVar → Sem Value
 | .tmp t => pure (tmps.getD t undef)
 | .cell a t => do loadVar t (← asAddr (tmps.getD a undef))
theorem RV.run (F : Fr a N L D) {r : ResultVar} (h : RV P L w r v) : (rvS a.tmps r).run P w = .ok v w := by
 cases r with
 | tmp t => simp only [rvS, Sem.run_pure]; rw [F.get t v h]
 | cell q t =>
  obtain ⟨p, h1, h2⟩ := h
  simp only [rvS, Sem.run_bind]; rw [F.get q _ h1]
  simp [asAddr, h2]
theorem outR1 {fn : Func} {r1 : ResultVar} {v1 : Value} {R : Ending → World → Prop} (F : Fr a N L) (hr : fn.results = #[r1]) (h1 : RV P L w r1 v1) (h : R (.returned v1) w) : bodyPost P fn R .ret a w := by
 refine ⟨F.dfr, v1, ?_, h⟩
 have e1 := h1.run F
 show Sem.run P (results fn a.tmps) w = _
 unfold results; rw [hr]
 change Sem.run P ((do let vs ← #[r1].mapM (rvS a.tmps); pure (if h : vs.size = 1 then vs[0] else .tuple vs)) : Sem Value) w = _
 simp [e1]
theorem outR2 {fn : Func} {r1 r2 : ResultVar} {v1 v2 : Value} {R : Ending → World → Prop} (F : Fr a N L) (hr : fn.results = #[r1, r2]) (h1 : RV P L w r1 v1) (h2 : RV P L w r2 v2) (h : R (.returned (.tuple #[v1, v2])) w) : bodyPost P fn R .ret a w := by
 refine ⟨F.dfr, .tuple #[v1, v2], ?_, h⟩
 have e1 := h1.run F
 have e2 := h2.run F
 show Sem.run P (results fn a.tmps) w = _
 unfold results; rw [hr]
 change Sem.run P ((do let vs ← #[r1, r2].mapM (rvS a.tmps); pure (if h : vs.size = 1 then vs[0] else .tuple vs)) : Sem Value) w = _
 simp [e1, e2]
theorem outR3 {fn : Func} {r1 r2 r3 : ResultVar} {v1 v2 v3 : Value} {R : Ending → World → Prop} (F : Fr a N L) (hr : fn.results = #[r1, r2, r3]) (h1 : RV P L w r1 v1) (h2 : RV P L w r2 v2) (h3 : RV P L w r3 v3) (h : R (.returned (.tuple #[v1, v2, v3])) w) : bodyPost P fn R .ret a w := by
 refine ⟨F.dfr, .tuple #[v1, v2, v3], ?_, h⟩
 have e1 := h1.run F
 have e2 := h2.run F
 have e3 := h3.run F
 show Sem.run P (results fn a.tmps) w = _
 unfold results; rw [hr]
 change Sem.run P ((do let vs ← #[r1, r2, r3].mapM (rvS a.tmps); pure (if h : vs.size = 1 then vs[0] else .tuple vs)) : Sem Value) w = _
 simp [e1, e2, e3]
end
section
variable {P : Program} {α : Type} {k : K α} {own : Bool} {j i : Nat} {c c' : Nat → Nat} {w w' : World} {A : Option Addr} {cap : Nat} {xs : List α} {M : Nat → Prop} {t e : TypeId}
theorem SL.sb (h : SL own k j i c w A cap xs) (hS : SB M c w w') (hj : ¬ M j) (hi : ¬ M i) : SL own k j i c w' A cap xs := h.ev hS hj hi
theorem SL.fl {i' : Nat} (h : SL own k j i c w A cap xs) (hf : ∀ {cs x}, k.rep i c w cs x → k.rep i' c w cs x) : SL own k j i' c w A cap xs := by
 obtain ⟨cs, h2, h3, h4, h5, h6⟩ := h
 exact ⟨cs, h2, h3, h4, h5, fun n hn => hf (h6 n hn)⟩
theorem cut_h {kh : IntKind} {h : Int} (hu : P.underlying t = some (.slice e)) (hs : ∀ w, (sizeOf e).run P w = .ok k.sz w) (hx : SL own k j i c w A cap xs) (g : 0 ≤ h ∧ h ≤ (xs.length : Int)) :
  ∃ A' cap', (∀ w, (Instr.sliceAt t (.slice A xs.length cap) none (some (.int kh h)) none).run P w = .ok (.slice A' (xs.take h.toNat).length cap') w) ∧ SL own k j i c w A' cap' (xs.take h.toNat) := by
 have hc : xs.length ≤ cap := by obtain ⟨cs, h2, _⟩ := hx; exact h2
 have hcut := hx.cut 0 h.toNat cap (by omega) (by omega) (Nat.le_refl _) (by omega)
 rw [List.drop_zero] at hcut
 refine ⟨_, _, fun w => ?_, hcut⟩
 rw [run_cut hu hs _ _ _ (sb_h (n := xs.length) g.1 (by omega)) w]
 congr 2
 simp; omega
theorem cut_l {kl : IntKind} {l : Int} (hu : P.underlying t = some (.slice e)) (hs : ∀ w, (sizeOf e).run P w = .ok k.sz w) (hx : SL own k j i c w A cap xs) (g : 0 ≤ l ∧ l ≤ (xs.length : Int)) :
  ∃ A' cap', (∀ w, (Instr.sliceAt t (.slice A xs.length cap) (some (.int kl l)) none none).run P w = .ok (.slice A' (xs.drop l.toNat).length cap') w) ∧ SL own k j i c w A' cap' (xs.drop l.toNat) := by
 have hc : xs.length ≤ cap := by obtain ⟨cs, h2, _⟩ := hx; exact h2
 have hcut := hx.cut l.toNat xs.length cap (by omega) (by omega) (Nat.le_refl _) (by omega)
 rw [List.take_length] at hcut
 refine ⟨_, _, fun w => ?_, hcut⟩
 rw [run_cut hu hs _ _ _ (sb_l (n := xs.length) g.1 (by omega)) w]
 congr 2
 simp
end
def OBJ (y : Nat) (c : Nat → Nat) (w : World) (b : Nat) (o : Obj) : Prop := w.heap[b]? = some o ∧ c b = y
section
variable {P : Program} {M : Nat → Prop} {c c' : Nat → Nat} {w w' : World} {y b : Nat} {o o' : Obj}
theorem OBJ.ev (h : OBJ y c w b o) (E : Ev M c w c' w') (hy : ¬ M y) : OBJ y c' w' b o :=
 ⟨(E.blk b (lt_of_get h.1) (by rw [h.2]; exact hy)).trans h.1, (E.col b (lt_of_get h.1) (by rw [h.2]; exact hy)).trans h.2⟩
theorem OBJ.put (h : OBJ y c w b o) (o' : Obj) : Ev (fun x => x = y) c w c (w.putObj b o') ∧ OBJ y c (w.putObj b o') b o' ∧ (w.putObj b o').heap.size = w.heap.size := by
 have hlt := lt_of_get h.1
 have hz : (w.putObj b o').heap.size = w.heap.size := by simp [World.putObj]
 refine ⟨⟨rfl, rfl, rfl, by rw [hz]; exact Nat.le_refl _, fun _ _ _ => rfl, fun k hk hm => World.putObj_heap_other (fun e => hm (by rw [e]; exact h.2))⟩, ⟨World.putObj_heap_same hlt, h.2⟩, hz⟩
theorem OBJ.new (c : Nat → Nat) (w : World) (o : Obj) (y : Nat) : Ev M c w (cset c w.heap.size y) (w.alloc o) ∧ OBJ y (cset c w.heap.size y) (w.alloc o) w.heap.size o ∧ (∀ m, CB m c w → y < m → CB m (cset c w.heap.size y) (w.alloc o)) := by
 have hz : (w.alloc o).heap.size = w.heap.size + 1 := World.size_alloc ..
 have hk := MapKept.heap_alloc w o
 refine ⟨⟨rfl, rfl, rfl, by omega, fun k hk _ => by unfold cset; rw [if_neg (by omega)], fun k hlt _ => hk.2 k hlt⟩, ⟨hk.1, by unfold cset; rw [if_pos rfl]⟩, fun m hm hx k hk => ?_⟩
 unfold cset
 split
 ·exact hx
 ·exact hm k (by omega)
end
def lrec (fn : FuncId) (tmps : Array Value) (ps : Array Tmp) (assign body : Code) (D : Nat) : Loop :=
 { state := .ready, pending := none, fn := fn, tmps := tmps, params := ps, assign := assign, body := body, defers := D }
def lbusy (r : Loop) : Loop := { r with state := .busy }
def ldone (r : Loop) (j : Code) : Loop := { r with state := .done, pending := some j }
def lleft (r : Loop) : Option Code → Loop
 | none => r
 | some j => ldone r j
theorem lleft_pend {r : Loop} (h : r.pending = none) : ∀ j, (lleft r j).pending = j
 | none => h
 | some _ => rfl
theorem lleft_busy {r : Loop} (h : r.state = .ready) : ∀ j, (lleft r j).state ≠ .busy
 | none => by simp [lleft, h]
 | some _ => by simp [lleft, ldone]
section
variable {P : Program} {a : Act} {N : Nat} {L : List (Nat × Value)} {D : List Deferred} {w : World} {c : Nat → Nat} {y : Nat}
def RE (y : Nat) (l : Nat) (rec_ : Loop) (G : (Nat → Nat) → World → Prop) (X : Code → (Nat → Nat) → World → Prop) : Exit → Act → World → Prop
 | .normal, _, W => ∃ c, OBJ y c W l (.loop (lbusy rec_)) ∧ G c W
 | .ret, _, W => ∃ c, OBJ y c W l (.loop (lbusy rec_)) ∧ X .ret c W
 | .exit id, _, W => ∃ c, OBJ y c W l (.loop (lbusy rec_)) ∧ X (.exit id) c W
 | _, _, _ => False
def RR (y : Nat) (l : Nat) (rec_ : Loop) (G : (Nat → Nat) → World → Prop) (X : Code → (Nat → Nat) → World → Prop) (e : Ending) (W : World) : Prop :=
 (e = .returned (.bool true) ∧ ∃ c V, G c V ∧ Ev (fun x => x = y) c V c W ∧ OBJ y c W l (.loop rec_) ∧ W.heap.size = V.heap.size) ∨
 (e = .returned (.bool false) ∧ ∃ j c V, X j c V ∧ Ev (fun x => x = y) c V c W ∧ OBJ y c W l (.loop (ldone rec_ j)) ∧ W.heap.size = V.heap.size)
theorem round2 {a0 : Act} {fn : FuncId} {p1 p2 : Tmp} {assign body : Code} {D0 l : Nat} {v1 v2 : Value} {G : (Nat → Nat) → World → Prop} {X : Code → (Nat → Nat) → World → Prop} (F : Fr a0 N L D) (h1 : p1 < N) (h2 : p2 < N)
  (hl : OBJ y c w l (.loop (lrec fn a0.tmps #[p1, p2] assign body D0)))
  (h : ∀ a, Fr a N ((p2, v2) :: (p1, v1) :: L) → assign.wpIn (Fw (some l)) 0 P (Exit.then (fun a1 W1 => ∃ c1, OBJ y c1 W1 l (.loop (lrec fn a0.tmps #[p1, p2] assign body D0)) ∧
   ∀ W2, Ev (fun x => x = y) c1 W1 c1 W2 → OBJ y c1 W2 l (.loop (lbusy (lrec fn a0.tmps #[p1, p2] assign body D0))) → W2.heap.size = W1.heap.size →
    body.wpIn (Fw (some l)) 0 P (RE y l (lrec fn a0.tmps #[p1, p2] assign body D0) G X) a1 W2) (fun _ _ _ => False)) a w) :
  YieldAt Fence.wide 0 P l #[v1, v2] w (RR y l (lrec fn a0.tmps #[p1, p2] assign body D0) G X) := by
 refine ⟨fn, _, assign, body, run_yield hl.1 rfl, roundIn_of_wpIn trivial ?_⟩
 have F1 : Fr { tmps := (#[p1, p2].zip #[v1, v2]).foldl (fun t (x : Tmp × Value) => t.setIfInBounds x.1 x.2) a0.tmps, defers := [] } N ((p2, v2) :: (p1, v1) :: L) := by
  have F0 : Fr { tmps := a0.tmps, defers := [] } N L := ⟨rfl, F.size, F.get⟩
  have F2 := (F0.put v1 h1).put v2 h2
  have e : (#[p1, p2].zip #[v1, v2]).foldl (fun t (x : Tmp × Value) => t.setIfInBounds x.1 x.2) a0.tmps = (a0.tmps.setIfInBounds p1 v1).setIfInBounds p2 v2 := by simp
  rw [e]; exact F2
 refine wpIn_mono (h _ F1) ?_
 rintro e a1 W1 hq
 cases e with
 | normal =>
  obtain ⟨c1, hl1, hk⟩ := hq
  refine ⟨_, run_beginRound hl1.1 rfl, ?_⟩
  obtain ⟨E, hb, hz⟩ := hl1.put (.loop (lbusy (lrec fn a0.tmps #[p1, p2] assign body D0)))
  refine wpIn_mono (hk _ E hb hz) ?_
  rintro e a2 W3 hp
  cases e with
  | normal =>
   obtain ⟨c3, hl3, hG⟩ := hp
   obtain ⟨E3, hb3, hz3⟩ := hl3.put (.loop (lrec fn a0.tmps #[p1, p2] assign body D0))
   exact ⟨_, _, run_endRound none hl3.1, .inl ⟨rfl, c3, W3, hG, E3, hb3, hz3⟩⟩
  | ret =>
   obtain ⟨c3, hl3, hG⟩ := hp
   obtain ⟨E3, hb3, hz3⟩ := hl3.put (.loop (ldone (lrec fn a0.tmps #[p1, p2] assign body D0) .ret))
   exact ⟨_, _, run_endRound (some .ret) hl3.1, .inr ⟨rfl, .ret, c3, W3, hG, E3, hb3, hz3⟩⟩
  | exit id =>
   obtain ⟨c3, hl3, hG⟩ := hp
   obtain ⟨E3, hb3, hz3⟩ := hl3.put (.loop (ldone (lrec fn a0.tmps #[p1, p2] assign body D0) (.exit id)))
   exact ⟨_, _, run_endRound (some (.exit id)) hl3.1, .inr ⟨rfl, .exit id, c3, W3, hG, E3, hb3, hz3⟩⟩
  | goto t => exact hp.elim
  | panic ch => exact hp.elim
  | outgrown => exact hp.elim
 | ret => exact hq.elim
 | exit id => exact hq.elim
 | goto t => exact hq.elim
 | panic ch => exact hq.elim
 | outgrown => exact hq.elim
theorem range_wp {g : Operand} {ps : Array Tmp} {assign body : Code} {Q : Exit → Act → World → Prop} (F : Fr a N L D) {gf : FuncId} {lb : Array Value} (hg : ev L g = some (.func (.func gf) #[] lb))
  (eg : ∀ args w, (callFunc gf args).run P w = .ok (.enter gf args) w) (c : Nat → Nat) (y z : Nat)
  (hcall : ∀ fn bd l c1 w1, Ev No c w c1 w1 → OBJ z c1 w1 bd (.deferred (some [])) → OBJ y c1 w1 l (.loop (lrec fn a.tmps ps assign body bd)) → (∀ m, CB m c w → y < m → z < m → CB m c1 w1) → bd ≠ l →
   Calls P gf (#[.func (.yield l) #[] #[]] ++ lb) w1 fun e W => (∃ v, e = .returned v) ∧ ∃ c2 j,
    (OBJ y c2 W l (.loop (lleft (lrec fn a.tmps ps assign body bd) j)) ∧
     ∀ W', Ev (fun x => x = y) c2 W c2 W' → W'.heap.size = W.heap.size → (∀ k, k ≠ l → W'.heap[k]? = W.heap[k]?) → ∀ a', Fr a' N L ({ target := .collected bd, args := #[] } :: D) → match j with
      | none => Q .normal a' W'
      | some j => j.wp P Q a' W')) :
  (Code.rangeFunc g ps assign body).wp P Q a w := by
 refine (wpIn_wide (n := 1)).1 (wpIn_rangeFunc fun fn hfn => ?_)
 obtain ⟨e1, o1, b1⟩ := OBJ.new (M := No) c w (.deferred (some [])) z
 obtain ⟨e2, o2, b2⟩ := OBJ.new (M := No) (cset c w.heap.size z) (w.alloc (.deferred (some []))) (.loop (lrec fn a.tmps ps assign body w.heap.size)) y
 have hz : (w.alloc (.deferred (some []))).heap.size = w.heap.size + 1 := World.size_alloc ..
 rw [hz] at o2 e2 b2
 have hc := hcall fn w.heap.size (w.heap.size + 1) _ _ (e1.trans e2 (fun _ q => q)) (o1.ev e2 (fun q => q)) o2 (fun m hm hy hz => b2 m (b1 m hm hz) hy) (by omega)
 have hR : (Instr.enterLoop fn a.tmps ps assign body Fence.wide.round).run P w = .ok (w.heap.size + 1, [{ target := .collected w.heap.size, args := #[] }]) ((w.alloc (.deferred (some []))).alloc (.loop (lrec fn a.tmps ps assign body w.heap.size))) :=
  run_enterLoop_outer fn a.tmps ps assign body
 generalize hW : (w.alloc (.deferred (some []))).alloc (.loop (lrec fn a.tmps ps assign body w.heap.size)) = W2 at hR hc o2
 have hS : (resolve a.eval (rangeCall g (w.heap.size + 1)) 0).run P W2 = .ok { target := .fn (.func gf) lb, args := #[.func (.yield (w.heap.size + 1)) #[] #[]] } W2 := by
  have := F.ev hg
  unfold rangeCall
  simp only [resolve, this]; simp [Deferred.ofValue, Act.eval]
 have hI : (invoke (.fn (.func gf) lb) #[.func (.yield (w.heap.size + 1)) #[] #[]]).run P W2 = .ok (.enter gf (#[.func (.yield (w.heap.size + 1)) #[] #[]] ++ lb)) W2 := by
  unfold invoke
  exact eg _ _
 refine ⟨w.heap.size + 1, [{ target := .collected w.heap.size, args := #[] }], W2, { target := .fn (.func gf) lb, args := #[.func (.yield (w.heap.size + 1)) #[] #[]] }, W2, gf, #[.func (.yield (w.heap.size + 1)) #[] #[]] ++ lb, W2,
  hR, hS, ?_, hI, ?_, ?_⟩
 ·intro f _; trivial
 ·intro _; exact Nat.le_refl 1
 have hc' := callsIn_wide (n := 0) |>.2 hc
 refine hc'.mono ?_
 rintro e W ⟨⟨v, rfl⟩, c2, j, hl, hk⟩
 obtain ⟨E, hb2, hz2⟩ := hl.put (.loop { lleft (lrec fn a.tmps ps assign body w.heap.size) j with state := .exhausted })
 have hk2 := hk _ E hz2 (fun k hk => World.putObj_heap_other hk) { a with defers := { target := .collected w.heap.size, args := #[] } :: a.defers } ⟨by rw [F.dfr], F.size, F.get⟩
 refine ⟨j, _, (run_endLoop hl.1 (lleft_busy rfl j)).trans (by rw [lleft_pend rfl j]), ?_⟩
 cases j with
 | none => exact hk2
 | some j => exact wpIn_wide.2 hk2
end
theorem enterM {P : Program} {w : World} {f : FuncId} {N : Nat} {fn : Func} {c : Code} {l : List Value} {R : Ending → World → Prop} (hf : P.funcs[f]? = some fn) (hb : fn.body = some c) (hn : fn.ntmps = N) (hl : l.length ≤ N)
  (h : ∀ a, Fr a N (enum 0 l) → c.wp P (bodyPostM Fence.wide 0 P fn R) a w) : Calls P f l.toArray w R := by
 refine callsIn_wide.1 (callsIn_of_wp_marks hf hb trivial (wpIn_wide.2 (h _ ?_)) rfl)
 rw [show l.toArray.size = l.length by simp, hn]
 exact Fr.enter l (N - l.length) (by omega)
section
variable {P : Program} {a : Act} {N : Nat} {L : List (Nat × Value)} {D : List Deferred} {w : World} {c : Nat → Nat} {y bd : Nat} {fn : Func} {R : Ending → World → Prop}
def EndM (P : Program) (fn : Func) (R : Ending → World → Prop) (a : Act) (w : World) : Prop := LeavesInM Fence.wide 0 P fn a.tmps R a.defers .returning w
theorem outM (h : EndM P fn R a w) : bodyPostM Fence.wide 0 P fn R .ret a w := h
theorem endM (F : Fr a N L ({ target := .collected bd, args := #[] } :: D)) (hb : OBJ y c w bd (.deferred (some [])))
  (h : ∀ w', Ev (fun x => x = y) c w c w' → w'.heap.size = w.heap.size → ∀ a', Fr a' N L D → EndM P fn R a' w') : EndM P fn R a w := by
 unfold EndM
 rw [F.dfr]
 obtain ⟨E, _, hz⟩ := hb.put (.deferred none)
 refine ⟨by simp, .inl ⟨bd, _, rfl, run_takeDeferred hb.1, ?_⟩⟩
 exact h _ E hz { tmps := a.tmps, defers := D } ⟨rfl, F.size, F.get⟩
theorem endM0 (F : Fr a N L) (h : bodyPost P fn R .ret a w) : EndM P fn R a w := by
 unfold EndM
 rw [F.dfr]
 exact h.2
end
def yv (l : Nat) : Value := .func (.yield l) #[] #[]
theorem r_yield {P : Program} {a : Act} {N : Nat} {L : List (Nat × Value)} {D : List Deferred} {w : World} {d : Option Tmp} {ty : TypeId} {pos : String} {af : Array Edge} {gd : Option (Nat × Bool)} {x : Operand} {l : Nat} {oz : Array Operand} {ats : Array TypeId} {vs : List Value} (F : Fr a N L D) (hx : ev L x = some (yv l)) (hv : oz.toList.map (ev L) = vs.map some) :
  (execOp a.eval { dst := d, op := .call { callee := .value x, args := oz, argTypes := ats }, type := ty, pos := pos, after := af, guard := gd }).run P w = (Instr.yield l vs.toArray).run P w := by
 have e : oz.map a.eval = vs.toArray := by
  apply Array.toList_inj.1
  simp only [Array.toList_map]
  generalize oz.toList = l at hv ⊢
  induction l generalizing vs with
  | nil => cases vs with
   | nil => rfl
   | cons _ _ => simp at hv
  | cons t ts ih => cases vs with
   | nil => simp at hv
   | cons v vs =>
    simp only [List.map_cons, List.cons.injEq] at hv
    simp only [List.map_cons]
    rw [F.ev hv.1, ih hv.2]
 have ef : a.eval x = .func (.yield l) #[] #[] := F.ev hx
 simp [execOp, resolve, Deferred.ofValue, ef, e, invoke]
theorem callFunc_go {P : Program} {f : FuncId} {fn : Func} (hf : P.funcs[f]? = some fn) (hb : fn.body.isNone = false) (hn : (fn.name == "runtime.NumGoroutine") = false) (args : Array Value) (w : World) : (callFunc f args).run P w = .ok (.enter f args) w := by
 have hn' : ¬ fn.name = "runtime.NumGoroutine" := by simpa using hn
 have hb' : ¬ fn.body = none := by intro q; rw [q] at hb; cases hb
 simp [callFunc, hf, hb', hn']
def IP {S X : Type} (J : S → (Nat → Nat) → World → Prop) (JX : X → (Nat → Nat) → World → Prop) (r : Ctl S X) (e : Ending) (W : World) : Prop :=
 r.el (fun s => e = .returned (.bool true) ∧ ∃ c, J s c W) (fun x => e = .returned (.bool false) ∧ ∃ c, JX x c W)
def IT {S X : Type} (J : S → (Nat → Nat) → World → Prop) (JX : X → (Nat → Nat) → World → Prop) (r : Ctl S X) (e : Ending) (W : World) : Prop :=
 (∃ v, e = .returned v) ∧ r.el (fun s => ∃ c, J s c W) (fun x => ∃ c, JX x c W)
def JS (m : Nat) (J : (Nat → Nat) → World → Prop) (c : Nat → Nat) (w : World) : Prop := CB m c w ∧ ∃ c1 w1, J c1 w1 ∧ Ev No c1 w1 c w
theorem JS.mk {m : Nat} {J : (Nat → Nat) → World → Prop} {c : Nat → Nat} {w : World} (B : CB m c w) (h : J c w) : JS m J c w := ⟨B, c, w, h, Ev.refl⟩
theorem JS.step {m : Nat} {J : (Nat → Nat) → World → Prop} {c c' : Nat → Nat} {w w' : World} (h : JS m J c w) (E : Ev No c w c' w') (B : CB m c' w') : JS m J c' w' := by
 obtain ⟨_, c1, w1, hj, E1⟩ := h
 exact ⟨B, c1, w1, hj, E1.trans E (fun _ q => q)⟩
theorem JS.ev {m : Nat} {J : (Nat → Nat) → World → Prop} {M : Nat → Prop} {c c0 : Nat → Nat} {w w0 : World} (h : JS m J c w) (hE : ∀ c w, J c w → Ev M c0 w0 c w) : Ev M c0 w0 c w := by
 obtain ⟨_, c1, w1, hj, E1⟩ := h
 exact (hE _ _ hj).trans E1 (fun _ q => q.elim)
theorem thenN {K : Act → World → Prop} {Q : Exit → Act → World → Prop} {a : Act} {w : World} (h : K a w) : Exit.then K Q .normal a w := h
theorem inbN {id : Nat} {Q : Exit → Act → World → Prop} {a : Act} {w : World} (h : Q .normal a w) : Exit.inBlock id Q .normal a w := h
theorem REn {y l : Nat} {rec_ : Loop} {G : (Nat → Nat) → World → Prop} {X : Code → (Nat → Nat) → World → Prop} {a : Act} {w : World} (c : Nat → Nat) (hl : OBJ y c w l (.loop (lbusy rec_))) (h : G c w) : RE y l rec_ G X .normal a w := ⟨c, hl, h⟩
theorem REr {y l : Nat} {rec_ : Loop} {G : (Nat → Nat) → World → Prop} {X : Code → (Nat → Nat) → World → Prop} {a : Act} {w : World} (c : Nat → Nat) (hl : OBJ y c w l (.loop (lbusy rec_))) (h : X .ret c w) : RE y l rec_ G X .ret a w := ⟨c, hl, h⟩
theorem made_blk {z : Array Value} {sz n m : Nat} (hz : z.size = sz) (hp : 0 < sz) (hn : n < m) : ((madeCells z (m * sz)).toList.drop (n * sz)).take sz = z.toList := by
 have h1 : (n + 1) * sz ≤ m * sz := Nat.mul_le_mul_right _ (by omega)
 rw [Nat.add_mul, Nat.one_mul] at h1
 apply List.ext_getElem
 ·simp [size_madeCells, hz]; omega
 ·intro q h2 h3
  have hq : q < sz := by simpa [hz] using h3
  simp [madeCells, hz, Nat.mul_add_mod', Nat.mod_eq_of_lt hq, hq]
theorem zero_made (z : Array Value) (n : Nat) : Builtin.zeroCells z n = madeCells z (n * z.size) := rfl
section
variable {P : Program} {a : Act} {N : Nat} {L : List (Nat × Value)} {D : List Deferred} {w w' : World} {v u : Value} {x y lo hi : Operand} {d : Option Tmp} {t tn e ty : TypeId} {pos : String} {af : Array Edge} {gd : Option (Nat × Bool)} {c : Nat → Nat} {own own2 : Bool} {A B : Option Addr} {cap cap2 : Nat} {bytes : Nat} {z : Value} {α : Type} {k : K α} {xs ys : List α} {x0 : α} {j2 i : Nat}
theorem e_make (F : Fr a N L D) (T : ET P t e k.sz bytes z) {l m : Int} {kl kc : IntKind} (hl : ev L lo = some (.int kl l)) (hc : ev L hi = some (.int kc m)) (hr : ∀ i c w, k.rep i c w z.cells.toList x0) (hb0 : 0 < bytes) (g : 0 ≤ l ∧ l ≤ m ∧ m * bytes ≤ 140737488355328) (c : Nat → Nat) (j i : Nat) :
  ∃ v' w', (execOp a.eval { dst := d, op := .makeSlice t lo hi, type := ty, pos := pos, after := af, guard := gd }).run P w = .ok (.value v') w' ∧ NewS k (List.replicate l.toNat x0) c w j i v' w' := by
 obtain ⟨g0, g1, g2⟩ := g
 obtain ⟨inf, hi', hz, hs, hby⟩ := T.hi
 have hm : m * 1 ≤ m * (bytes : Int) := Int.mul_le_mul_of_nonneg_left (by omega) (by omega)
 have hr' := run_make (P := P) w t e inf z T.ht hi' hz kl kc l m g0 g1 (by rw [hby, Int.mul_comm]; omega) (by omega)
 obtain ⟨h1, h2, h3⟩ := alloc_new (M := No) c w (madeCells z.cells (m.toNat * inf.size)) e (0, 0) j true (fun _ k _ => by simp)
 refine ⟨_, _, ?_, _, some ⟨w.heap.size, 0, none⟩, m.toNat, rfl, h1, ⟨_, ?_, ?_, ?_, .inr ⟨_, rfl, h2⟩, fun n hn => ?_⟩, h3⟩
 ·simp [execOp, F.ev hl, F.ev hc, hr']
 ·simp; omega
 ·unfold maxLen; omega
 ·simp [size_madeCells, hs]
 ·rw [hs, made_blk T.hz k.pos (by simp at hn; omega)]
  simp only [List.getElem_replicate]
  exact hr _ _ _
theorem r_capsl (F : Fr a N L D) {n : Nat} (hu : P.underlying t = some (.slice e)) (hx : ev L x = some (.slice A n cap)) :
  (execOp a.eval { dst := d, op := .call { callee := .builtin .cap, args := #[x], argTypes := #[t] }, type := ty, pos := pos, after := af, guard := gd }).run P w = .ok (.value (.int .i64 cap)) w := by
 simp [execOp, resolve, invoke, builtin, F.ev hx, Builtin.cap_, run_underlying hu, goInt]
theorem e_growz (F : Fr a N L D) (T : ET P t e k.sz bytes z) {kn kq : IntKind} {n : Nat} (htn : P.underlying tn = some (.int kn)) (hx : ev L x = some (.slice none 0 0)) (hy : ev L y = some (.int kq n)) (hr : ∀ i c w, k.rep i c w z.cells.toList x0) (h0 : 0 < n) (hb : n * bytes ≤ 140737488355328) (hm : n ≤ maxLen) (c : Nat → Nat) (j i : Nat) :
  ∃ v' w', (execOp a.eval { dst := d, op := .call { callee := .builtin .append, args := #[x, y], argTypes := #[t, tn] }, type := ty, pos := pos, after := af, guard := gd }).run P w = .ok (.value v') w' ∧ NewS k (List.replicate n x0) c w j i v' w' := by
 obtain ⟨inf, hi', hz, hs, hby⟩ := T.hi
 subst hby
 have hg : 0 < 0 + n := by omega
 have hr' := Lib.run_append_grow_zeros (P := P) w t tn ty e inf z kq kn T.ht htn hi' hz none 0 0 [] (by rw [run_firstCells_none]) n h0 (by rw [hs]; exact k.pos) hg (by unfold maxLen at hm; omega) (by omega) (growslice_fits hg (by simpa using hb))
 simp only [Nat.zero_add] at hr'
 have g1 := grownCap_ge w n 0 e
 have g2 := grownCap_le_maxLen w n 0 e hm
 obtain ⟨h1, h2, h3⟩ := alloc_new (M := No) c w.drew (#[].toList.toArray ++ Builtin.zeroCells z.cells n ++ Builtin.zeroCells z.cells (grownCap w n 0 e - n)) e (0, 0) j true (fun _ k _ => by simp)
 have hzz : ∀ q, (Builtin.zeroCells z.cells q).size = q * k.sz := by intro q; rw [← T.hz]; simp [Builtin.zeroCells]
 refine ⟨.slice (some ⟨w.heap.size, 0, none⟩) n (grownCap w n 0 e), _, ?_, _, some ⟨w.heap.size, 0, none⟩, grownCap w n 0 e, by simp, ⟨h1.os, h1.tape, h1.out, h1.size, h1.col, h1.blk⟩, ⟨_, by simpa using g1, g2, ?_, .inr ⟨_, rfl, h2⟩, fun q hq => ?_⟩, fun m hB hj => h3 m (fun k hk => hB k hk) hj⟩
 ·simp [execOp, resolve, invoke, builtin, F.ev hx, F.ev hy, hr']
 ·simp [hzz]; rw [← Nat.add_mul]; congr 1; omega
 ·simp only [List.length_replicate] at hq
  have hle : (q + 1) * k.sz ≤ n * k.sz := Nat.mul_le_mul_right _ (by omega)
  rw [Nat.add_mul, Nat.one_mul] at hle
  have : ((((#[].toList.toArray ++ Builtin.zeroCells z.cells n ++ Builtin.zeroCells z.cells (grownCap w n 0 e - n)).toList).drop (q * k.sz)).take k.sz) = (((Builtin.zeroCells z.cells n).toList.drop (q * k.sz)).take k.sz) := by
   simp only [Array.toList_append, List.nil_append]
   rw [List.drop_append_of_le_length (by simp [hzz]; omega), List.take_append_of_le_length (by simp [hzz]; omega)]
  rw [this, zero_made, T.hz, made_blk T.hz k.pos hq]
  simp only [List.getElem_replicate]
  exact hr _ _ _
theorem e_copy (F : Fr a N L D) {j : Nat} (T : ET P t e k.sz bytes z) (hx : ev L x = some (.slice A xs.length cap)) (hy : ev L y = some (.slice B ys.length cap2)) (h1 : SL true k j i c w A cap xs) (h2 : SL own2 k j2 i c w B cap2 ys) (hij : i ≠ j) :
  ∃ v w', (execOp a.eval { dst := d, op := .call { callee := .builtin .copy, args := #[x, y], argTypes := #[t, t] }, type := ty, pos := pos, after := af, guard := gd }).run P w = .ok (.value v) w' ∧ v = .int .i64 (min ys.length xs.length : Nat) ∧ Ev (fun x => x = j) c w c w' ∧ SL true k j i c w' A cap (ys.take xs.length ++ xs.drop ys.length) ∧ w'.heap.size = w.heap.size := by
 obtain ⟨cs, a1, a2, a3, a4, a5⟩ := h1
 obtain ⟨ds, b1, b2, b3, b4, b5⟩ := h2
 obtain ⟨inf, hi, hz, hs, hby⟩ := T.hi
 have hp := k.pos
 have yl : ys.length * k.sz ≤ ds.length := by rw [b3]; exact Nat.mul_le_mul_right _ b1
 have hmin : min ys.length xs.length ≤ ys.length := Nat.min_le_left ..
 have f2 := run_first (P := P) (len := ys.length) (n := min ys.length xs.length) b4 b3 (by omega) w rfl
 have hml : min ys.length xs.length * k.sz ≤ ys.length * k.sz := Nat.mul_le_mul_right _ hmin
 have hmx : min ys.length xs.length * k.sz ≤ cap * k.sz := Nat.mul_le_mul_right _ (by omega)
 have hlen : (ys.take xs.length ++ xs.drop ys.length).length = xs.length := by simp; omega
 have hone : ∀ u ∈ ds.take (min ys.length xs.length * k.sz), u.oneCell' = true := by
  intro u hu
  obtain ⟨q, hq, rfl⟩ := List.getElem_of_mem hu
  simp at hq
  have hlt : q / k.sz < ys.length := Nat.div_lt_of_lt_mul (by rw [Nat.mul_comm]; omega)
  have hone := k.one (b5 (q / k.sz) hlt)
  apply hone
  rw [List.getElem_take]
  have e1 : ((ds.drop (q / k.sz * k.sz)).take k.sz)[q % k.sz]? = some ds[q] := by
   rw [List.getElem?_take_of_lt (Nat.mod_lt _ hp), List.getElem?_drop, Nat.div_add_mod' q k.sz, List.getElem?_eq_getElem]
  exact List.mem_of_getElem? e1
 rcases a4 with a4 | ⟨p, rfl, a4⟩
 ·have hc0 : cap = 0 := by
   subst a4
   have h : cap * k.sz = 0 := a3.symm
   rcases Nat.mul_eq_zero.1 h with h | h
   ·exact h
   ·omega
  have x0 : xs = [] := List.eq_nil_of_length_eq_zero (by omega)
  subst x0
  refine ⟨_, w, ?_, rfl, Ev.refl, ⟨cs, by simp, a2, a3, .inl a4, fun n hn => by simp at hn⟩, rfl⟩
  simp at f2
  cases A <;> simp [execOp, resolve, invoke, builtin, F.ev hx, F.ev hy, Builtin.copy_, run_underlying T.ht, sizeOf, typeInfo, hi, hs, Builtin.lenOf, f2, storeCells, goInt]
 ·obtain ⟨w1, hr, E, hat, hsz⟩ := run_lay (P := P) (n := 0) (us := ds.take (min ys.length xs.length * k.sz)) a4 (by simp; omega) hone
  rw [show p.add 0 = p by simp [Addr.add]] at hr
  have hdl : (ds.take (min ys.length xs.length * k.sz)).length = min ys.length xs.length * k.sz := by simp; omega
  refine ⟨_, w1, ?_, rfl, E, ⟨lay cs 0 (ds.take (min ys.length xs.length * k.sz)), by rw [hlen]; exact a1, a2, ?_, .inr ⟨p, rfl, hat⟩, fun n hn => ?_⟩, hsz⟩
  ·simp [execOp, resolve, invoke, builtin, F.ev hx, F.ev hy, Builtin.copy_, run_underlying T.ht, sizeOf, typeInfo, hi, hs, Builtin.lenOf, f2, hr, goInt]
  ·rw [lay_length (by simp; omega)]; exact a3
  ·rw [hlen] at hn
   unfold lay
   rw [List.take_zero, List.nil_append, Nat.zero_add, hdl]
   by_cases q : n < ys.length
   ·have hn2 : n < min ys.length xs.length := by omega
    have e0 : ((ds.take (min ys.length xs.length * k.sz) ++ cs.drop (min ys.length xs.length * k.sz)).drop (n * k.sz)).take k.sz = (ds.drop (n * k.sz)).take k.sz := blk_old hn2 (by omega)
    rw [e0]
    ·rw [List.getElem_append_left (by simp; omega)]
     simp only [List.getElem_take]
     exact k.ev (b5 n q) E hij
   ·have hys : min ys.length xs.length = ys.length := by omega
    rw [hys] at hdl ⊢
    obtain ⟨q', rfl⟩ : ∃ q', n = ys.length + q' := ⟨n - ys.length, by omega⟩
    have e1 : ((ds.take (ys.length * k.sz) ++ cs.drop (ys.length * k.sz)).drop ((ys.length + q') * k.sz)).take k.sz = (cs.drop ((ys.length + q') * k.sz)).take k.sz := by
     have e2 : (ds.take (ys.length * k.sz) ++ cs.drop (ys.length * k.sz)).drop (ys.length * k.sz) = cs.drop (ys.length * k.sz) := by
      conv => lhs; lhs; rw [← hdl]
      rw [List.drop_left]
     rw [Nat.add_mul, ← List.drop_drop, e2, List.drop_drop]
    rw [e1, List.getElem_append_right (by simp; omega)]
    simp only [List.getElem_drop, List.length_take]
    have := k.ev (a5 (ys.length + q') hn) E hij
    have ei : ys.length + (ys.length + q' - min xs.length ys.length) = ys.length + q' := by omega
    simp only [ei]
    exact this
end
theorem lay_get {cs us : List Value} {p : Nat} (h : p + us.length ≤ cs.length) (q : Nat) : (lay cs p us)[q]? = if q < p then cs[q]? else if q < p + us.length then us[q - p]? else cs[q]? := by
 have e1 : min p cs.length = p := by omega
 unfold lay
 by_cases h1 : q < p
 ·rw [if_pos h1, List.append_assoc, List.getElem?_append_left (by simp; omega), List.getElem?_take_of_lt h1]
 ·rw [if_neg h1]
  by_cases h2 : q < p + us.length
  ·rw [if_pos h2, List.append_assoc, List.getElem?_append_right (by simp; omega), List.getElem?_append_left (by simp; omega)]
   simp [e1]
  ·rw [if_neg h2, List.getElem?_append_right (by simp; omega), List.getElem?_drop]
   simp [e1]
   congr 1; omega
theorem sub_get {cs : List Value} {a sz q : Nat} (hq : q < sz) : ((cs.drop a).take sz)[q]? = cs[a + q]? := by
 rw [List.getElem?_take_of_lt hq, List.getElem?_drop]
theorem lay_other {cs us : List Value} {n m sz off : Nat} (h : n * sz + off + us.length ≤ cs.length) (ho : off + us.length ≤ sz) (hm : m ≠ n) : ((lay cs (n * sz + off) us).drop (m * sz)).take sz = (cs.drop (m * sz)).take sz := by
 apply List.ext_getElem?
 intro q
 by_cases hq : q < sz
 ·rw [sub_get hq, sub_get hq, lay_get h]
  rcases Nat.lt_or_gt_of_ne hm with hlt | hlt
  ·have h1 : (m + 1) * sz ≤ n * sz := Nat.mul_le_mul_right _ hlt
   rw [Nat.add_mul, Nat.one_mul] at h1
   rw [if_pos (by omega)]
  ·have h1 : (n + 1) * sz ≤ m * sz := Nat.mul_le_mul_right _ hlt
   rw [Nat.add_mul, Nat.one_mul] at h1
   rw [if_neg (by omega), if_neg (by omega)]
 ·rw [List.getElem?_take, List.getElem?_take, if_neg hq, if_neg hq]
theorem lay_same {cs us : List Value} {n sz off : Nat} (h : (n + 1) * sz ≤ cs.length) (ho : off + us.length ≤ sz) : ((lay cs (n * sz + off) us).drop (n * sz)).take sz = lay ((cs.drop (n * sz)).take sz) off us := by
 rw [Nat.add_mul, Nat.one_mul] at h
 apply List.ext_getElem?
 intro q
 have hl : ((cs.drop (n * sz)).take sz).length = sz := by simp; omega
 rw [lay_get (by rw [hl]; exact ho)]
 by_cases hq : q < sz
 ·rw [sub_get hq, lay_get (by omega), sub_get hq]
  by_cases h1 : q < off
  ·rw [if_pos (by omega), if_pos h1]
  ·rw [if_neg (by omega), if_neg h1]
   by_cases h2 : q < off + us.length
   ·rw [if_pos (by omega), if_pos h2]; congr 1; omega
   ·rw [if_neg (by omega), if_neg h2]
 ·rw [List.getElem?_take, if_neg hq, if_neg (by omega), if_neg (by omega), List.getElem?_take, if_neg hq]
section
variable {P : Program} {a : Act} {N : Nat} {L : List (Nat × Value)} {D : List Deferred} {w w' : World} {v u : Value} {x y : Operand} {d : Option Tmp} {t ty : TypeId} {pos : String} {af : Array Edge} {gd : Option (Nat × Bool)} {c : Nat → Nat} {A : Option Addr} {cap : Nat} {α : Type} {k : K α} {xs : List α} {j i : Nat}
theorem SL.lay (h : SL true k j i c w A cap xs) {n : Nat} (h1 : n < xs.length) {a0 : Addr} (hA : A = some a0) {off : Nat} {us cs : List Value} (hat : AT true j c w (a0.add (n * k.sz)) cs) (hcl : cs.length = k.sz) (ho : off + us.length ≤ cs.length) (hu : ∀ u ∈ us, u.oneCell' = true) (x' : α) (hr : k.rep i c w (G.lay cs off us) x') (hij : i ≠ j) :
  ∃ w', (storeCells ((a0.add (n * k.sz)).add off) us).run P w = .ok () w' ∧ Ev (fun x => x = j) c w c w' ∧ SL true k j i c w' A cap (xs.set n x') ∧ w'.heap.size = w.heap.size := by
 subst hA
 obtain ⟨cs0, a1, a2, a3, a4, a5⟩ := h
 have hp := k.pos
 have hle : (n + 1) * k.sz ≤ cap * k.sz := Nat.mul_le_mul_right _ (by omega)
 have hle' := hle
 rw [Nat.add_mul, Nat.one_mul] at hle'
 rcases a4 with a4 | ⟨a', e, a4⟩
 ·subst a4; simp at a3; omega
 ·obtain rfl := Option.some.inj e
  have haa : ∀ q, (a0.add (n * k.sz)).add q = a0.add (n * k.sz + q) := by
   intro q
   obtain ⟨b, of, cur, ty, fz, rfl, _⟩ := a4
   rw [add_eq, add_eq, add_eq, Nat.add_assoc]
  have hcs : cs = (cs0.drop (n * k.sz)).take k.sz := by
   apply List.ext_getElem?
   intro q
   by_cases hq : q < k.sz
   ·rw [sub_get hq]
    have e1 := hat.cell (List.getElem?_eq_getElem (by omega : q < cs.length))
    have e2 := a4.cell (List.getElem?_eq_getElem (by omega : n * k.sz + q < cs0.length))
    rw [haa] at e1
    rw [e1] at e2
    rw [List.getElem?_eq_getElem (by omega : q < cs.length), List.getElem?_eq_getElem (by omega : n * k.sz + q < cs0.length)]
    exact e2
   ·rw [List.getElem?_eq_none (by omega), List.getElem?_take, if_neg hq]
  obtain ⟨w', hrun, E, hat', hz⟩ := run_lay (P := P) (n := n * k.sz + off) (us := us) a4 (by omega) hu
  rw [haa]
  refine ⟨w', hrun, E, ⟨G.lay cs0 (n * k.sz + off) us, by simpa using a1, a2, by rw [lay_length (by omega)]; exact a3, .inr ⟨_, rfl, hat'⟩, fun m hm => ?_⟩, hz⟩
  rw [List.length_set] at hm
  by_cases hmn : m = n
  ·subst hmn
   rw [lay_same (by omega) (by omega), ← hcs]
   simp only [List.getElem_set_self]
   exact k.ev hr E hij
  ·rw [lay_other (by omega) (by omega) hmn, List.getElem_set_ne (fun e => hmn e.symm)]
   exact k.ev (a5 m hm) E hij
theorem e_storeel0 (F : Fr a N L D) {n : Int} {a0 q : Addr} {cs : List Value} (hx : ev L x = some (.pointer (some q))) (hy : ev L y = some u) (hs : ∀ w, (sizeOf t).run P w = .ok 1 w) (h : SL true k j i c w A cap xs) (h0 : 0 ≤ n) (h1 : n < xs.length) (hA : A = some a0) (hq : q = a0.add (n.toNat * k.sz)) (hat : AT true j c w q cs) (hcl : cs.length = k.sz) (ho : 1 ≤ cs.length) (hu : u.oneCell' = true) (x' : α) (hr : k.rep i c w (lay cs 0 [u]) x') (hij : i ≠ j) :
  ∃ w', (execOp a.eval { dst := d, op := .store t x y, type := ty, pos := pos, after := af, guard := gd }).run P w = .ok .skip w' ∧ (Ev (fun k => k = j) c w c w' ∧ SL true k j i c w' A cap (xs.set n.toNat x') ∧ w'.heap.size = w.heap.size) := by
 subst hq
 obtain ⟨w', hrun, h2⟩ := SL.lay (P := P) (us := [u]) (off := 0) h (by omega) hA hat hcl (by simpa using ho) (by intro z hz; simp at hz; rw [hz]; exact hu) x' hr hij
 refine ⟨w', ?_, h2⟩
 rw [show (a0.add (n.toNat * k.sz)).add 0 = a0.add (n.toNat * k.sz) by simp [Addr.add]] at hrun
 simp [execOp, F.ev hx, F.ev hy, Instr.storeAt, Instr.sureAddr, storeVar, hs, oneCell_cells hu, hrun]
theorem e_storeelN (F : Fr a N L D) {n : Int} {a0 q : Addr} {us cs : List Value} (hx : ev L x = some (.pointer (some q))) (hy : ev L y = some (.agg us.toArray)) (hs : ∀ w, (sizeOf t).run P w = .ok us.length w) (h : SL true k j i c w A cap xs) (h0 : 0 ≤ n) (h1 : n < xs.length) (hA : A = some a0) (hq : q = a0.add (n.toNat * k.sz)) (hat : AT true j c w q cs) (hcl : cs.length = k.sz) (ho : us.length ≤ cs.length) (hu : ∀ u ∈ us, u.oneCell' = true) (x' : α) (hr : k.rep i c w (lay cs 0 us) x') (hij : i ≠ j) :
  ∃ w', (execOp a.eval { dst := d, op := .store t x y, type := ty, pos := pos, after := af, guard := gd }).run P w = .ok .skip w' ∧ (Ev (fun k => k = j) c w c w' ∧ SL true k j i c w' A cap (xs.set n.toNat x') ∧ w'.heap.size = w.heap.size) := by
 subst hq
 obtain ⟨w', hrun, h2⟩ := SL.lay (P := P) (us := us) (off := 0) h (by omega) hA hat hcl (by omega) hu x' hr hij
 refine ⟨w', ?_, h2⟩
 rw [show (a0.add (n.toNat * k.sz)).add 0 = a0.add (n.toNat * k.sz) by simp [Addr.add]] at hrun
 simp [execOp, F.ev hx, F.ev hy, Instr.storeAt, Instr.sureAddr, storeVar, hs, Value.cells, hrun]
end
end Go.Proofs.Ytoaldfpngihhcaa.G
namespace Go.Proofs.Ytoaldfpngihhcaa.G
open Go Go.RowKit
open Go.Maps (Keyed IsMap Tidy)
set_option linter.unusedVariables false
set_option linter.unusedSimpArgs false
def heldElem (v : Value) : Option (DataW Value × List MemPlace) := some (.held v, [])
section
variable {β : Type} {q : IntKind} {K : TypeId} {emb : β → Value} {P : Program} {j : Nat} {c : Nat → Nat} {w : World} {p : Option Addr} {o : MpV β}
def MP (q : IntKind) (K : TypeId) (emb : β → Value) (P : Program) (j : Nat) (c : Nat → Nat) (w : World) (p : Option Addr) (o : MpV β) : Prop :=
 ∃ a : Addr, p = some a ∧ c a.block = j ∧ ∃ D : DataW Value, w.ownsMap P K heldElem a.block o.n D ∧ ∀ k, (∀ z, D.atKey (.int q k) (.held z) = .held (((o.f k).map emb).getD z)) ∧ Maps.has D (.int q k) = (o.f k).isSome
theorem MP.ev {M : Nat → Prop} {c' : Nat → Nat} {w' : World} (h : MP q K emb P j c w p o) (E : Ev M c w c' w') (hj : ¬ M j := by first | exact nq | exact ne_zm | exact mm) : MP q K emb P j c' w' p o := by
 obtain ⟨a, e, hc, D, hD, r⟩ := h
 have hlt := hD.lt
 refine ⟨a, e, (E.col _ hlt (by rw [hc]; exact hj)).trans hc, D, ?_, r⟩
 obtain ⟨es, clock, h1, h2⟩ := hD
 exact ⟨es, clock, (E.blk _ hlt (by rw [hc]; exact hj)).trans h1, h2⟩
theorem MP.rc {j' : Nat} {c' : Nat → Nat} (h : MP q K emb P j c w p o) (hr : ∀ k, c k = j → c' k = j') : MP q K emb P j' c' w p o := by
 obtain ⟨a, e, hc, r⟩ := h
 exact ⟨a, e, hr _ hc, r⟩
end
section
variable {β : Type} {q : IntKind} {K : TypeId} {emb : β → Value} {P : Program} {a : Act} {N : Nat} {L : List (Nat × Value)} {D : List Deferred} {w w' : World} {v u : Value} {x y m : Operand} {d : Option Tmp} {t e ty : TypeId} {pos : String} {af : Array Edge} {gd : Option (Nat × Bool)} {c : Nat → Nat} {j : Nat} {p : Option Addr} {o : MpV β}
theorem e_makeMap (F : Fr a N L D) (c : Nat → Nat) (j : Nat) (ht : ∀ w, (Instr.makeMap t none).run P w = .ok (.map (some w.heap.size)) (w.alloc (.map #[] 0))) :
  ∃ v w', (execOp a.eval { dst := d, op := .makeMap t none, type := ty, pos := pos, after := af, guard := gd }).run P w = .ok (.value v) w' ∧
   ∃ c' p, v = .map (Option.map Addr.block (some p)) ∧ Ev No c w c' w' ∧ MP q K emb P j c' w' (some p) ⟨fun _ => none, 0⟩ ∧ ∀ m, CB m c w → j < m → CB m c' w' := by
 have hz : (w.alloc (.map #[] 0)).heap.size = w.heap.size + 1 := World.size_alloc ..
 have hk := MapKept.heap_alloc w (.map #[] 0)
 refine ⟨.map (some w.heap.size), w.alloc (.map #[] 0), by simp [execOp, ht], cset c w.heap.size j, ⟨w.heap.size, 0, none⟩, rfl, ⟨rfl, rfl, rfl, by omega, fun k hk _ => by unfold cset; rw [if_neg (by omega)], fun k hlt _ => hk.2 k hlt⟩, ⟨_, rfl, by unfold cset; rw [if_pos rfl], _, World.ownsMap_made w P K heldElem, fun k => ⟨fun z => rfl, rfl⟩⟩, fun m hm hx k hk => ?_⟩
 unfold cset
 split
 ·exact hx
 ·exact hm k (by omega)
theorem r_lookupm (F : Fr a N L D) {k : Int} {z : β} (hk : P.underlying K = some (.int q)) (ht : P.underlying t = some (.map K e)) (hz : ∀ w, (zeroValue e).run P w = .ok (emb z) w) (hm : ev L m = some (.map (Option.map Addr.block p))) (hx : ev L x = some (.int q k))
  (h : MP q K emb P j c w p o) (hw : (Lit.int q k).wf = true) : (execOp a.eval { dst := d, op := .lookup t m x false, type := ty, pos := pos, after := af, guard := gd }).run P w = .ok (.value (emb ((o.f k).getD z))) w := by
 obtain ⟨a0, rfl, hc, D0, hD, r⟩ := h
 obtain ⟨v, ps, hrun, hv⟩ := hD.lookup (Maps.int_keyed hk) ht (hz w) (zd := .held (emb z)) (zp := []) rfl (Maps.keyOf_int_mk hk hw)
 rw [(r k).1 (emb z)] at hv
 simp only [heldElem, Option.some.injEq, Prod.mk.injEq, DataW.held.injEq] at hv
 have e1 : ((o.f k).map emb).getD (emb z) = emb ((o.f k).getD z) := by cases o.f k <;> rfl
 rw [e1] at hv
 have hm' := F.ev hm
 simp only [Option.map_some] at hm'
 simp [execOp, hm', F.ev hx, hrun, Result.andThen, hv.1]
theorem e_mapUpdate (F : Fr a N L D) {k : Int} {z : β} (hk : P.underlying K = some (.int q)) (ht : P.underlying t = some (.map K e)) (hm : ev L m = some (.map (Option.map Addr.block p))) (hx : ev L x = some (.int q k)) (hy : ev L y = some (emb z))
  (h : MP q K emb P j c w p o) (hw : (Lit.int q k).wf = true) (hn : o.n < maxLen) :
  ∃ w', (execOp a.eval { dst := d, op := .mapUpdate t m x y, type := ty, pos := pos, after := af, guard := gd }).run P w = .ok .skip w' ∧ (Ev (fun k => k = j) c w c w' ∧ MP q K emb P j c w' p ⟨fun i => if i = k then some z else o.f i, o.n + 1⟩ ∧ w'.heap.size = w.heap.size) := by
 obtain ⟨a0, rfl, hc, D0, hD, r⟩ := h
 obtain ⟨w', hrun, r1, r2⟩ := hD.store (Maps.int_keyed hk) ht hn (Maps.keyOf_int_mk hk hw) (val := emb z) (d := .held (emb z)) (ps := []) rfl
 have hisMap := hD.isMap
 have hm' := F.ev hm
 simp only [Option.map_some] at hm'
 refine ⟨w', by simp [execOp, hm', F.ev hx, F.ev hy, hrun, Result.andThen], ?_, ⟨a0, rfl, hc, _, r1, fun i => ?_⟩, ?_⟩
 ·obtain ⟨es, clock, es', clock', hb, rfl⟩ := r2
  refine ⟨rfl, rfl, rfl, by simp [ChangeMaps.setBlock], fun _ _ _ => rfl, fun k hk hm => ?_⟩
  have hne : a0.block ≠ k := fun e => hm (by rw [← e]; exact hc)
  simp only [ChangeMaps.setBlock]
  rw [Array.getElem?_setIfInBounds_ne hne]
 ·by_cases ci : i = k
  ·subst ci
   have hk' : WideAt.IsKeyLit (.int q i) := trivial
   simp only [if_true]
   exact ⟨fun z0 => by rw [Maps.atKey_put_same hisMap hk']; rfl, by rw [Maps.has_put_same hisMap hk']; rfl⟩
  ·simp only [if_neg ci]
   have hne : (Lit.int q i) ≠ .int q k := fun e => ci (by injection e)
   exact ⟨fun z0 => by rw [Maps.atKey_put_other hne]; exact (r i).1 z0, by rw [Maps.has_put_other hne]; exact (r i).2⟩
 ·obtain ⟨es, clock, es', clock', hb, rfl⟩ := r2
  simp [ChangeMaps.setBlock]
end
end Go.Proofs.Ytoaldfpngihhcaa.G
namespace Go.Proofs.Ytoaldfpngihhcaa.G
open Go Go.RowKit
set_option linter.unusedVariables false
set_option linter.unusedSimpArgs false
section
variable {P : Program} {a : Act} {N : Nat} {L : List (Nat × Value)} {D : List Deferred} {w w' : World} {v u : Value} {x y : Operand} {d : Option Tmp} {t e ty : TypeId} {pos : String} {af : Array Edge} {gd : Option (Nat × Bool)} {c : Nat → Nat} {own : Bool} {j : Nat} {p : Addr} {cs : List Value}
end
end Go.Proofs.Ytoaldfpngihhcaa.G
namespace Go.Proofs.Ytoaldfpngihhcaa.G
open Go Go.RowKit
open Go.Maps (Keyed IsMap Tidy)
set_option linter.unusedVariables false
set_option linter.unusedSimpArgs false
section
variable {β : Type} {q : IntKind} {K : TypeId} {mk : List Value → Value} {P : Program} {j i : Nat} {c : Nat → Nat} {w : World} {p : Option Addr} {o : MkV β}
end
section
variable {β : Type} {q : IntKind} {K : TypeId} {e : Go.Proofs.Ytoaldfpngihhcaa.G.K β} {mk : List Value → Value} {P : Program} {a : Act} {N : Nat} {L : List (Nat × Value)} {D : List Deferred} {w w' : World} {v u : Value} {x y m : Operand} {d : Option Tmp} {t et ty : TypeId} {pos : String} {af : Array Edge} {gd : Option (Nat × Bool)} {c : Nat → Nat} {j i : Nat} {p : Option Addr} {o : MkV β}
end
end Go.Proofs.Ytoaldfpngihhcaa.G
namespace Go.Proofs.Ytoaldfpngihhcaa.G
open Go Go.RowKit
set_option linter.unusedVariables false
set_option linter.unusedSimpArgs false
structure KO (α : Type) where
 sz : Nat
 pos : 0 < sz
 np : Nat
 rep : (Nat → Nat) → (Nat → Nat) → World → List Value → α → Prop
 ev : ∀ {M : Nat → Prop} {γ c w c' w' cs x}, rep γ c w cs x → Ev M c w c' w' → (∀ q, q < np → ¬ M (γ q)) → ¬ M 0 → rep γ c' w' cs x
 rc : ∀ {γ γ' c c' w cs x}, rep γ c w cs x → (∀ q, q < np → ∀ k, c k = γ q → c' k = γ' q) → (∀ k, c k = 0 → c' k = 0) → (∀ q, q < np → 0 < γ' q) → rep γ' c' w cs x
 len : ∀ {γ c w cs x}, rep γ c w cs x → cs.length = sz
 one : ∀ {γ c w cs x}, rep γ c w cs x → ∀ v ∈ cs, v.oneCell' = true
def KOsl {α : Type} (e : K α) : KO (List α) where
 sz := 1
 pos := by decide
 np := 1
 rep := fun γ c w cs x => ∃ A cap, cs = [.slice A x.length cap] ∧ SL true e (γ 0) 0 c w A cap x
 ev := fun ⟨A, cap, h, h2⟩ E hi h0 => ⟨A, cap, h, h2.ev E (hi 0 (by decide)) h0⟩
 rc := fun ⟨A, cap, h, h2⟩ hr h0 _ => ⟨A, cap, h, h2.rc (hr 0 (by decide)) h0⟩
 len := fun ⟨A, cap, h, _⟩ => by rw [h]; rfl
 one := fun ⟨A, cap, h, h2⟩ u hu => by rw [h] at hu; simp at hu; subst hu; rfl
def sub (c d : Nat → Nat) (i : Nat) : Nat → Nat := fun b => if c b = i then 2 * d b + 1 else 2 * c b
def gcol (np k : Nat) : Nat → Nat := fun q => 2 * (k * np + q) + 1
section
variable {α : Type} {e : KO α} {i i' : Nat} {c c' d : Nat → Nat} {w w' : World} {css : List (List Value)} {xs : List α} {M : Nat → Prop}
theorem sub_eq {b n : Nat} (h : sub c d i b = 2 * n + 1) : c b = i ∧ d b = n := by
 unfold sub at h
 split at h
 ·exact ⟨by assumption, by omega⟩
 ·omega
theorem sub_mk {b n : Nat} (h1 : c b = i) (h2 : d b = n) : sub c d i b = 2 * n + 1 := by unfold sub; rw [if_pos h1, h2]
theorem sub_zero {b : Nat} (h : sub c d i b = 0) : c b = 0 ∧ c b ≠ i := by
 unfold sub at h
 split at h
 ·omega
 ·exact ⟨by omega, by assumption⟩
theorem sub_zero' {b : Nat} (h : c b = 0) (hi : 0 < i) : sub c d i b = 0 := by unfold sub; rw [if_neg (by omega), h]
theorem idx_inj {np k q k' q' : Nat} (hq : q < np) (hq' : q' < np) (h : k * np + q = k' * np + q') : k = k' ∧ q = q' := by
 have e1 : (k * np + q) / np = k := by rw [Nat.mul_comm, Nat.mul_add_div (by omega), Nat.div_eq_of_lt hq, Nat.add_zero]
 have e2 : (k' * np + q') / np = k' := by rw [Nat.mul_comm, Nat.mul_add_div (by omega), Nat.div_eq_of_lt hq', Nat.add_zero]
 have : k = k' := by rw [← e1, ← e2, h]
 subst this
 exact ⟨rfl, by omega⟩
def GRh (e : KO α) (i : Nat) (c : Nat → Nat) (w : World) (css : List (List Value)) (xs : List α) (hole : Nat → Prop) : Prop :=
 0 < i ∧ css.length = xs.length ∧ ∃ d : Nat → Nat, ∀ k (h : k < xs.length) (h' : k < css.length), ¬ hole k → e.rep (gcol e.np k) (sub c d i) w css[k] xs[k]
def noHole : Nat → Prop := fun _ => False
def GR (e : KO α) (i : Nat) (c : Nat → Nat) (w : World) (css : List (List Value)) (xs : List α) : Prop := GRh e i c w css xs noHole
variable {hole : Nat → Prop}
theorem GRh.ev (h : GRh e i c w css xs hole) (E : Ev M c w c' w') (hi : ¬ M i := by first | exact nq | exact ne_zm | exact mm) (h0 : ¬ M 0 := by first | exact nq | exact ne_zm | exact mm) : GRh e i c' w' css xs hole := by
 obtain ⟨h1, h2, d, h3⟩ := h
 refine ⟨h1, h2, d, fun k a b hk => ?_⟩
 have E' : Ev (fun q => q % 2 = 0 ∧ M (q / 2)) (sub c d i) w (sub c' d i) w' := by
  have nm : ∀ q, ¬ (sub c d i q % 2 = 0 ∧ M (sub c d i q / 2)) → ¬ M (c q) := fun q hm hM => hm (by
   unfold sub
   by_cases ci : c q = i
   ·rw [ci] at hM; exact absurd hM hi
   ·rw [if_neg ci]; exact ⟨by omega, by rw [Nat.mul_div_cancel_left _ (by decide)]; exact hM⟩)
  refine ⟨E.os, E.tape, E.out, E.size, fun q hq hm => ?_, fun q hq hm => ?_⟩
  ·unfold sub; rw [E.col q hq (nm q hm)]
  ·refine E.blk q hq fun hM => hm ?_
   unfold sub
   by_cases ci : c q = i
   ·rw [ci] at hM; exact absurd hM hi
   ·rw [if_neg ci]; exact ⟨by omega, by rw [Nat.mul_div_cancel_left _ (by decide)]; exact hM⟩
 exact e.ev (h3 k a b hk) E' (fun q _ hm => by unfold gcol at hm; omega) (fun hm => h0 hm.2)
theorem GRh.rc (h : GRh e i c w css xs hole) (hr : ∀ k, c k = i → c' k = i') (h0 : ∀ k, c k = 0 → c' k = 0) (hi' : 0 < i') : GRh e i' c' w css xs hole := by
 obtain ⟨h1, h2, d, h3⟩ := h
 refine ⟨hi', h2, d, fun k a b hk => e.rc (h3 k a b hk) (fun q _ b hb => ?_) (fun b hb => ?_) (fun _ _ => Nat.succ_pos _)⟩
 ·obtain ⟨e1, e2⟩ := sub_eq hb
  exact sub_mk (hr b e1) e2
 ·exact sub_zero' (h0 b (sub_zero hb).1) hi'
theorem GRh.read (h : GRh e i c w css xs hole) {k : Nat} (hk : k < xs.length) (hk' : k < css.length) (hh : ¬ hole k) : e.rep (fun _ => i) c w css[k] xs[k] := by
 obtain ⟨h1, h2, d, h3⟩ := h
 exact e.rc (h3 k hk hk' hh) (fun q _ b hb => (sub_eq hb).1) (fun b hb => (sub_zero hb).1) (fun _ _ => h1)
theorem GR.borrow (h : GR e i c w css xs) {n : Nat} (hn : n < xs.length) (ξ : Nat → Nat) (hξ : ∀ q, q < e.np → ξ q ≠ i ∧ 0 < ξ q) :
  ∃ c', (∀ b, c b ≠ i → c' b = c b) ∧ (∀ b, c' b = c b ∨ (c b = i ∧ ∃ q, q < e.np ∧ c' b = ξ q)) ∧ (∃ h' : n < css.length, e.rep ξ c' w css[n] xs[n]) ∧ GRh e i c' w css xs (fun k => k = n) := by
 obtain ⟨h1, h2, d, h3⟩ := h
 have hn' : n < css.length := by omega
 let P : Nat → Prop := fun b => c b = i ∧ ∃ q, q < e.np ∧ d b = n * e.np + q
 have hdec : ∀ b, Decidable (P b) := fun b => Classical.propDecidable _
 let c' : Nat → Nat := fun b => @ite _ (P b) (hdec b) (ξ (d b - n * e.np)) (c b)
 have hc : ∀ b q, q < e.np → c b = i → d b = n * e.np + q → c' b = ξ q := fun b q hq hi hd => by
  show @ite _ (P b) (hdec b) _ _ = _
  rw [if_pos (show P b from ⟨hi, q, hq, hd⟩), hd]
  congr 1; omega
 have ho : ∀ b, ¬ P b → c' b = c b := fun b hp => if_neg hp
 refine ⟨c', fun b hb => ho b fun p => hb p.1, fun b => ?_, ⟨hn', e.rc (h3 n hn hn' (fun q => q)) (fun q hq b hb => ?_) (fun b hb => ?_) (fun q hq => (hξ q hq).2)⟩, h1, h2, d, fun k a b hk => e.rc (h3 k a b (fun q => q)) (fun q hq b hb => ?_) (fun b hb => ?_) (fun _ _ => Nat.succ_pos _)⟩
 ·by_cases p : P b
  ·obtain ⟨p1, q, hq, p2⟩ := p
   exact .inr ⟨p1, q, hq, hc b q hq p1 p2⟩
  ·exact .inl (ho b p)
 ·obtain ⟨e1, e2⟩ := sub_eq hb
  exact hc b q hq e1 e2
 ·obtain ⟨e1, e2⟩ := sub_zero hb
  rw [ho b fun p => e2 p.1]; exact e1
 ·obtain ⟨e1, e2⟩ := sub_eq hb
  have hnp : ¬ P b := fun ⟨_, q', hq', hd⟩ => hk (idx_inj hq hq' (by omega)).1
  exact sub_mk ((ho b hnp).trans e1) e2
 ·obtain ⟨e1, e2⟩ := sub_zero hb
  exact sub_zero' ((ho b fun p => e2 p.1).trans e1) h1
theorem GRh.fill {n : Nat} (h : GRh e i c w css xs (fun k => k = n)) {ξ : Nat → Nat} {ds : List Value} {y : α} (hy : e.rep ξ c w ds y) (hξ : ∀ q, q < e.np → ξ q ≠ i ∧ 0 < ξ q) (hinj : ∀ q q', q < e.np → q' < e.np → ξ q = ξ q' → q = q') :
  ∃ c', (∀ b, (∀ q, q < e.np → c b ≠ ξ q) → c' b = c b) ∧ (∀ b, c' b = c b ∨ c' b = i) ∧ GR e i c' w (css.set n ds) (xs.set n y) := by
 obtain ⟨h1, h2, d, h3⟩ := h
 let P : Nat → Prop := fun b => ∃ q, q < e.np ∧ c b = ξ q
 have hdec : ∀ b, Decidable (P b) := fun b => Classical.propDecidable _
 let c' : Nat → Nat := fun b => @ite _ (P b) (hdec b) i (c b)
 let d' : Nat → Nat := fun b => @dite _ (P b) (hdec b) (fun p => n * e.np + Classical.choose p) (fun _ => d b)
 have hc : ∀ b, P b → c' b = i := fun b p => if_pos p
 have ho : ∀ b, ¬ P b → c' b = c b := fun b p => if_neg p
 have hd : ∀ b q, q < e.np → c b = ξ q → d' b = n * e.np + q := fun b q hq hb => by
  have p : P b := ⟨q, hq, hb⟩
  show @dite _ (P b) (hdec b) _ _ = _
  rw [dif_pos p]
  have hs := Classical.choose_spec p
  rw [hinj _ _ hs.1 hq (hs.2.symm.trans hb)]
 have hdo : ∀ b, ¬ P b → d' b = d b := fun b p => dif_neg p
 refine ⟨c', fun b hb => ho b fun ⟨q, hq, p⟩ => hb q hq p, fun b => ?_, h1, by simpa using h2, d', fun k a b _ => ?_⟩
 ·by_cases p : P b
  ·exact .inr (hc b p)
  ·exact .inl (ho b p)
 ·rw [List.length_set] at a b
  by_cases hk : k = n
  ·subst hk
   simp only [List.getElem_set_self]
   refine e.rc hy (fun q hq b hb => sub_mk (hc b ⟨q, hq, hb⟩) (hd b q hq hb)) (fun b hb => sub_zero' ?_ h1) (fun _ _ => Nat.succ_pos _)
   rw [ho b fun ⟨q, hq, p⟩ => by have := (hξ q hq).2; omega]; exact hb
  ·rw [List.getElem_set_ne (fun e => hk e.symm), List.getElem_set_ne (fun e => hk e.symm)]
   refine e.rc (h3 k a b hk) (fun q hq b hb => ?_) (fun b hb => ?_) (fun _ _ => Nat.succ_pos _)
   ·obtain ⟨e1, e2⟩ := sub_eq hb
    have hp : ¬ P b := fun ⟨q', hq', p⟩ => (hξ q' hq').1 (p.symm.trans e1)
    exact sub_mk ((ho b hp).trans e1) ((hdo b hp).trans e2)
   ·obtain ⟨e1, e2⟩ := sub_zero hb
    have hp : ¬ P b := fun ⟨q', hq', p⟩ => by have := (hξ q' hq').2; omega
    exact sub_zero' ((ho b hp).trans e1) h1
theorem GR.nil (hi : 0 < i) : GR e i c w [] [] := ⟨hi, rfl, fun _ => 0, fun k h _ => absurd h (by simp)⟩
theorem GR.push (h : GR e i c w css xs) {ξ : Nat → Nat} {ds : List Value} {y : α} (hy : e.rep ξ c w ds y) (hξ : ∀ q, q < e.np → ξ q ≠ i ∧ 0 < ξ q) (hinj : ∀ q q', q < e.np → q' < e.np → ξ q = ξ q' → q = q') :
  ∃ c', (∀ b, (∀ q, q < e.np → c b ≠ ξ q) → c' b = c b) ∧ (∀ b, c' b = c b ∨ c' b = i) ∧ GR e i c' w (css ++ [ds]) (xs ++ [y]) := by
 obtain ⟨h1, h2, d, h3⟩ := h
 have hh : GRh e i c w (css ++ [ds]) (xs ++ [y]) (fun k => k = xs.length) := ⟨h1, by simpa using h2, d, fun k a b hk => by
  have hk' : k < xs.length := by simp at a; omega
  rw [List.getElem_append_left hk', List.getElem_append_left (by omega)]
  exact h3 k hk' (by omega) (fun q => q)⟩
 obtain ⟨c', g1, g2, g3⟩ := hh.fill hy hξ hinj
 refine ⟨c', g1, g2, ?_⟩
 rw [List.set_append_right _ _ (by omega), List.set_append_right _ _ (by omega)] at g3
 simpa [h2] using g3
theorem GR.append (h : GR e i c w css xs) {dss : List (List Value)} {ys : List α} {i2 : Nat} (h2 : GR e i2 c w dss ys) (hne : i2 ≠ i) :
  GR e i (fun b => if c b = i2 then i else c b) w (css ++ dss) (xs ++ ys) := by
 obtain ⟨a1, a2, d, a3⟩ := h
 obtain ⟨b1, b2, d2, b3⟩ := h2
 refine ⟨a1, by simp [a2, b2], fun b => if c b = i2 then xs.length * e.np + d2 b else d b, fun k hk hk' _ => ?_⟩
 by_cases q : k < xs.length
 ·rw [List.getElem_append_left q, List.getElem_append_left (by omega)]
  refine e.rc (a3 k q (by omega) (fun q => q)) (fun q hq b hb => ?_) (fun b hb => ?_) (fun _ _ => Nat.succ_pos _)
  ·obtain ⟨e1, e2⟩ := sub_eq hb
   have : ¬ c b = i2 := fun q => hne (q.symm.trans e1)
   exact sub_mk (by show (if c b = i2 then i else c b) = i; rw [if_neg this]; exact e1) (by show (if c b = i2 then _ else d b) = _; rw [if_neg this]; exact e2)
  ·obtain ⟨e1, e2⟩ := sub_zero hb
   exact sub_zero' (by show (if c b = i2 then i else c b) = 0; rw [if_neg (by omega)]; exact e1) a1
 ·obtain ⟨k', rfl⟩ : ∃ k', k = xs.length + k' := ⟨k - xs.length, by omega⟩
  have hk1 : k' < ys.length := by simp at hk; omega
  rw [List.getElem_append_right (by omega), List.getElem_append_right (by omega)]
  have e3 : xs.length + k' - css.length = k' := by omega
  have e4 : xs.length + k' - xs.length = k' := by omega
  simp only [e3, e4]
  refine e.rc (b3 k' hk1 (by omega) (fun q => q)) (fun q hq b hb => ?_) (fun b hb => ?_) (fun _ _ => Nat.succ_pos _)
  ·obtain ⟨e1, e2⟩ := sub_eq hb
   refine sub_mk (by show (if c b = i2 then i else c b) = i; rw [if_pos e1]) ?_
   show (if c b = i2 then xs.length * e.np + d2 b else d b) = _
   rw [if_pos e1, e2, Nat.add_mul, Nat.add_assoc]
  ·obtain ⟨e1, e2⟩ := sub_zero hb
   exact sub_zero' (by show (if c b = i2 then i else c b) = 0; rw [if_neg (by omega)]; exact e1) a1
end
section
variable {α : Type} {M : Nat → Prop} {c c' : Nat → Nat} {w w' : World} {i i' j : Nat} {own : Bool} {p : Addr} {pre post cs : List Value} {n : Nat} {xs : List α}
variable {e : K α}
theorem AT.inj {own2 : Bool} {cs ds : List Value} (h1 : AT own j c w p cs) (h2 : AT own2 j c w p ds) (hl : cs.length = ds.length) : cs = ds := by
 apply List.ext_getElem?
 intro q
 by_cases hq : q < cs.length
 ·have e1 := h1.cell (List.getElem?_eq_getElem hq)
  have e2 := h2.cell (List.getElem?_eq_getElem (by omega : q < ds.length))
  rw [e1] at e2
  rw [List.getElem?_eq_getElem hq, List.getElem?_eq_getElem (by omega : q < ds.length)]
  exact e2
 ·rw [List.getElem?_eq_none (by omega), List.getElem?_eq_none (by omega)]
end
section
variable {α : Type} {M : Nat → Prop} {c c' : Nat → Nat} {w w' : World} {i i' j : Nat} {own : Bool} {p : Addr} {pre post cs : List Value} {n : Nat} {xs : List α} {hole : Nat → Prop}
variable {e : KO α}
end
section
variable {α : Type} {c : Nat → Nat} {w : World} {i j n : Nat} {own : Bool} {p : Addr} {pre post cs ds : List Value} {xs : List α}
end
section
variable {P : Program} {a : Act} {N : Nat} {L : List (Nat × Value)} {D : List Deferred} {w w' : World} {v u : Value} {x y : Operand} {d : Option Tmp} {t e ty : TypeId} {pos : String} {af : Array Edge} {gd : Option (Nat × Bool)} {c : Nat → Nat} {own : Bool} {j i : Nat} {p q : Addr} {cs pre post us : List Value}
variable {α : Type} {k : K α} {xs : List α} {n off : Nat}
end
structure BP (P : Program) (t : TypeId) (Z : List Value) (places : Array (Nat × Nat)) : Prop where
 h : ∃ fields, P.underlying t = some (.struct fields) ∧ (∀ w, (zeroValue t).run P w = .ok (.agg Z.toArray) w) ∧ ∀ w, (fields.mapM fun f => (do pure (f.offset, ← sizeOf f.type) : Sem (Nat × Nat))).run P w = .ok places w
section
variable {α : Type} {e : K α} {i j n off z : Nat} {c c' c0 : Nat → Nat} {w w' w0 : World} {cs pre post : List Value} {xs : List (List α)} {own : Bool} {p : Addr} {m : Nat} {M : Nat → Prop}
theorem Ev.recol (h : Ev (fun k => M k ∨ m ≤ k) c0 w0 c w) (hB : CB m c0 w0) (hr : ∀ b, c b < m → c' b = c b) : Ev (fun k => M k ∨ m ≤ k) c0 w0 c' w :=
 ⟨h.os, h.tape, h.out, h.size, fun k hk hm => by have e := h.col k hk hm; rw [hr k (by rw [e]; exact hB k hk), e], h.blk⟩
theorem CB.recol {N : Nat} (h : CB N c w) (hr : ∀ b, c' b = c b ∨ c' b < N) : CB N c' w := fun k hk => by
 rcases hr k with q | q
 ·rw [q]; exact h k hk
 ·exact q
end
section
variable {P : Program} {a : Act} {N : Nat} {L : List (Nat × Value)} {D : List Deferred} {w w' : World} {v u : Value} {x y : Operand} {d : Option Tmp} {t ty : TypeId} {pos : String} {af : Array Edge} {gd : Option (Nat × Bool)}
variable {α : Type} {e : K α} {i j n off m : Nat} {c : Nat → Nat} {cs pre post : List Value} {xs : List (List α)} {p q : Addr}
end
theorem rk {z : Nat} {c c' : Nat → Nat} {j : Nat} (e : ∀ b, c b ≠ z → c' b = c b) (x : j ≠ z) : ∀ k, c k = j → c' k = j := fun k hk => (e k (by rw [hk]; exact x)).trans hk
theorem Ev.rk {M : Nat → Prop} {m z : Nat} {c0 c c' : Nat → Nat} {w0 w : World} (h : Ev (fun k => M k ∨ m ≤ k) c0 w0 c w) (hB : CB m c0 w0) (e : ∀ b, c b ≠ z → c' b = c b) (hz : m ≤ z := by omega) : Ev (fun k => M k ∨ m ≤ k) c0 w0 c' w := h.recol hB (fun b hb => e b (by omega))
theorem CB.rk {N y : Nat} {c c' : Nat → Nat} {w : World} (h : CB N c w) (e : ∀ b, c' b = c b ∨ c' b = y) (hy : y < N) : CB N c' w := h.recol (fun b => (e b).imp id (fun q => by rw [q]; exact hy))
end Go.Proofs.Ytoaldfpngihhcaa.G
namespace Go.Proofs.Ytoaldfpngihhcaa.G
open Go Go.RowKit
set_option linter.unusedVariables false
section
variable {P : Program} {ops : Array Oper} {K : Act → World → Prop} {a : Act} {N : Nat} {L : List (Nat × Value)} {D : List Deferred} {w w' : World} {v : Value} {rest : List Oper} {o : Oper} {d : Nat} {S : World → Prop} {fin : Nat}
theorem nx {p : Nat → Prop} : ∀ x, No x → p x := fun _ q => q.elim
theorem qv (F : Fr a N L D) (hr : (execOp a.eval o).run P w = .ok (.value v) w') (k : ∀ a', Fr a' N ((d, v) :: L) D → wL P ops K rest a' w') (hg : o.guard = none := by exact rfl) (hd : o.dst = some d := by exact rfl) (hN : d < N := by decide) : wL P ops K (o :: rest) a w :=
 q_val F hg hd hN hr k
theorem qm (F : Fr a N L D) {x : Operand} {ty : TypeId} {pos : String} {af : Array Edge} (k : ∀ a', Fr a' N ((d, v) :: L) D → wL P ops K rest a' w) (hx : ev L x = some v := by exact rfl) (hN : d < N := by decide) : wL P ops K ({ dst := some d, op := .move x, type := ty, pos := pos, after := af, guard := none } :: rest) a w :=
 q_val F rfl rfl hN (r_move F hx) k
theorem qa (F : Fr a N L D) {x : Operand} {ty : TypeId} {pos : String} {af : Array Edge} (k : ∀ a', Fr a' N ((d, v) :: L) D → wL P ops K rest a' w) (hx : ev L x = some v := by exact rfl) (hN : d < N := by decide) : wL P ops K ({ dst := some d, op := .assign x, type := ty, pos := pos, after := af, guard := none } :: rest) a w :=
 q_val F rfl rfl hN (r_assign F hx) k
theorem dq {i : Nat} {s : Sch} (F : Fr a N L D) (hr : ∀ w, S w → (execOp a.eval o).run P w = .ok (.value v) w) (hS : S w) (k : ∀ a', Fr a' N ((d, v) :: L) D → wpS P ops K S fin s a' w) (ho : ops[i]? = some o := by exact rfl) (hg : o.guard = none := by exact rfl) (hd : o.dst = some d := by exact rfl) (hN : d < N := by decide) : wpS P ops K S fin (.q i s) a w :=
 d_q F ho hg hd hN hr hS k
theorem qn (F : Fr a N L D) {op : Op} {ty : TypeId} {pos : String} {af : Array Edge} {j dj : Nat} {b c : Bool} (hb : b = !c) (k : ∀ a', Fr a' N ((d, undef) :: L) D → wL P ops K rest a' w) (hj : (ops[j]?).bind (·.dst) = some dj := by exact rfl) (hN : dj < N := by decide) (hv : lk L dj = some (.bool b) := by exact rfl) (hd : d < N := by decide) : wL P ops K ({ dst := some d, op := op, type := ty, pos := pos, after := af, guard := some (j, c) } :: rest) a w :=
 q_no F hj hN hv hb hd k
theorem qy (F : Fr a N L D) {op : Op} {dst : Option Tmp} {ty : TypeId} {pos : String} {af : Array Edge} {j dj : Nat} {b c : Bool} (hb : b = c) (h : wL P ops K ({ dst := dst, op := op, type := ty, pos := pos, after := af, guard := none } :: rest) a w) (hj : (ops[j]?).bind (·.dst) = some dj := by exact rfl) (hN : dj < N := by decide) (hv : lk L dj = some (.bool b) := by exact rfl) : wL P ops K ({ dst := dst, op := op, type := ty, pos := pos, after := af, guard := some (j, c) } :: rest) a w := q_yes F hj hN hv hb h
theorem dy {i : Nat} {s : Sch} (F : Fr a N L D) {j dj : Nat} {b c : Bool} (hb : b = c) (hr : ∀ w, S w → (execOp a.eval o).run P w = .ok (.value v) w) (hS : S w) (k : ∀ a', Fr a' N ((d, v) :: L) D → wpS P ops K S fin s a' w) (ho : ops[i]? = some o := by exact rfl) (hg : o.guard = some (j, c) := by exact rfl) (hj : (ops[j]?).bind (·.dst) = some dj := by exact rfl) (hjN : dj < N := by decide) (hv : lk L dj = some (.bool b) := by exact rfl) (hd : o.dst = some d := by exact rfl) (hN : d < N := by decide) : wpS P ops K S fin (.q i s) a w := d_qy F ho hg hj hjN hv hb hd hN hr hS k
theorem dn {i : Nat} {s : Sch} (F : Fr a N L D) {j dj : Nat} {b c : Bool} (hb : b = !c) (hS : S w) (k : ∀ a', Fr a' N ((d, undef) :: L) D → wpS P ops K S fin s a' w) (ho : ops[i]? = some o := by exact rfl) (hg : o.guard = some (j, c) := by exact rfl) (hj : (ops[j]?).bind (·.dst) = some dj := by exact rfl) (hjN : dj < N := by decide) (hv : lk L dj = some (.bool b) := by exact rfl) (hd : o.dst = some d := by exact rfl) (hN : d < N := by decide) : wpS P ops K S fin (.q i s) a w := d_qn F ho hg hj hjN hv hb hd hN hS k
theorem du {i : Nat} {s : Sch} (F : Fr a N L D) {j dj : Nat} {c : Bool} (hS : S w) (k : ∀ a', Fr a' N ((d, undef) :: L) D → wpS P ops K S fin s a' w) (ho : ops[i]? = some o := by exact rfl) (hg : o.guard = some (j, c) := by exact rfl) (hj : (ops[j]?).bind (·.dst) = some dj := by exact rfl) (hjN : dj < N := by decide) (hv : lk L dj = some undef := by exact rfl) (hd : o.dst = some d := by exact rfl) (hN : d < N := by decide) : wpS P ops K S fin (.q i s) a w := d_qnu F ho hg hj hjN hv hd hN hS k
theorem dm {i : Nat} {s : Sch} (F : Fr a N L D) {x : Operand} {ty : TypeId} {pos : String} {af : Array Edge} (hS : S w) (k : ∀ a', Fr a' N ((d, v) :: L) D → wpS P ops K S fin s a' w) (ho : ops[i]? = some { dst := some d, op := .move x, type := ty, pos := pos, after := af, guard := none } := by exact rfl) (hx : ev L x = some v := by exact rfl) (hN : d < N := by decide) : wpS P ops K S fin (.q i s) a w := d_q F ho rfl rfl hN (fun _ _ => r_move F hx) hS k
theorem da {i : Nat} {s : Sch} (F : Fr a N L D) {x : Operand} {ty : TypeId} {pos : String} {af : Array Edge} (hS : S w) (k : ∀ a', Fr a' N ((d, v) :: L) D → wpS P ops K S fin s a' w) (ho : ops[i]? = some { dst := some d, op := .assign x, type := ty, pos := pos, after := af, guard := none } := by exact rfl) (hx : ev L x = some v := by exact rfl) (hN : d < N := by decide) : wpS P ops K S fin (.q i s) a w := d_q F ho rfl rfl hN (fun _ _ => r_assign F hx) hS k
theorem df {i : Nat} {s : Sch} (F : Fr a N L D) {x : Operand} {t ty : TypeId} {pos : String} {af : Array Edge} {p : Addr} {f off : Nat} (hf : ∀ q w, (Instr.fieldAt t (.pointer (some q)) f).run P w = .ok (.pointer (some (q.add off))) w) (hS : S w) (k : ∀ a', Fr a' N ((d, .pointer (some (p.add off))) :: L) D → wpS P ops K S fin s a' w) (ho : ops[i]? = some { dst := some d, op := .fieldAddr t x f, type := ty, pos := pos, after := af, guard := none } := by exact rfl) (hx : ev L x = some (.pointer (some p)) := by exact rfl) (hN : d < N := by decide) : wpS P ops K S fin (.q i s) a w := d_q F ho rfl rfl hN (fun _ _ => r_fieldAddr F hx hf) hS k
theorem qf (F : Fr a N L D) {x : Operand} {t ty : TypeId} {pos : String} {af : Array Edge} {p : Addr} {f off : Nat} (hf : ∀ q w, (Instr.fieldAt t (.pointer (some q)) f).run P w = .ok (.pointer (some (q.add off))) w) (k : ∀ a', Fr a' N ((d, .pointer (some (p.add off))) :: L) D → wL P ops K rest a' w) (hx : ev L x = some (.pointer (some p)) := by exact rfl) (hN : d < N := by decide) : wL P ops K ({ dst := some d, op := .fieldAddr t x f, type := ty, pos := pos, after := af, guard := none } :: rest) a w := q_val F rfl rfl hN (r_fieldAddr F hx hf) k
theorem ql (F : Fr a N L D) {x : Operand} {t ty : TypeId} {pos : String} {af : Array Edge} {p : Addr} {cs : List Value} {own : Bool} {j n : Nat} {c : Nat → Nat} (ha : ∀ w, (isAgg t).run P w = .ok false w) (h : AT own j c w p cs) (k : ∀ a', Fr a' N ((d, v) :: L) D → wL P ops K rest a' w) (hx : ev L x = some (.pointer (some (p.add n))) := by exact rfl) (hv : cs[n]? = some v := by exact rfl) (hN : d < N := by decide) : wL P ops K ({ dst := some d, op := .load t x, type := ty, pos := pos, after := af, guard := none } :: rest) a w := q_val F rfl rfl hN (r_load F hx ha (AT.cell h hv)) k
theorem qi (F : Fr a N L D) {x : Operand} {ty : TypeId} {pos : String} {af : Array Edge} {p : Addr} (k : ∀ a', Fr a' N ((d, .pointer (some p)) :: L) D → wL P ops K rest a' w) (hx : ev L x = some (.pointer (some p)) := by exact rfl) (hN : d < N := by decide) : wL P ops K ({ dst := some d, op := .nilCheck x, type := ty, pos := pos, after := af, guard := none } :: rest) a w := q_val F rfl rfl hN (r_nil F hx) k
theorem qt (F : Fr a N L D) {z x y : Operand} {ty : TypeId} {pos : String} {af : Array Edge} (k : ∀ a', Fr a' N ((d, v) :: L) D → wL P ops K rest a' w) (hc : ev L z = some (.bool true) := by exact rfl) (hx : ev L x = some v := by exact rfl) (hN : d < N := by decide) : wL P ops K ({ dst := some d, op := .pick z x y, type := ty, pos := pos, after := af, guard := none } :: rest) a w := q_val F rfl rfl hN (r_pick_t F hc rfl hx) k
theorem qp (F : Fr a N L D) {z x y : Operand} {ty : TypeId} {pos : String} {af : Array Edge} (k : ∀ a', Fr a' N ((d, v) :: L) D → wL P ops K rest a' w) (hc : ev L z = some (.bool false) := by exact rfl) (hy : ev L y = some v := by exact rfl) (hN : d < N := by decide) : wL P ops K ({ dst := some d, op := .pick z x y, type := ty, pos := pos, after := af, guard := none } :: rest) a w := q_val F rfl rfl hN (r_pick_f F hc rfl hy) k
theorem qx (F : Fr a N L D) {x : Operand} {n : Nat} {vs : Array Value} {ty : TypeId} {pos : String} {af : Array Edge} (k : ∀ a', Fr a' N ((d, v) :: L) D → wL P ops K rest a' w) (hx : ev L x = some (.tuple vs) := by exact rfl) (hv : vs[n]? = some v := by exact rfl) (hN : d < N := by decide) : wL P ops K ({ dst := some d, op := .extract x n, type := ty, pos := pos, after := af, guard := none } :: rest) a w := q_val F rfl rfl hN (r_extract F hx hv) k
theorem dl {M : Nat → Prop} {c0 : Nat → Nat} {w0 : World} {i : Nat} {s : Sch} (F : Fr a N L D) {x : Operand} {t ty : TypeId} {pos : String} {af : Array Edge} {p : Addr} {cs : List Value} {own : Bool} {j n : Nat} (ha : ∀ w, (isAgg t).run P w = .ok false w) (h : AT own j c0 w0 p cs) (HM : ¬ M j) (hS : SB M c0 w0 w) (k : ∀ a', Fr a' N ((d, v) :: L) D → wpS P ops K (SB M c0 w0) fin s a' w) (ho : ops[i]? = some { dst := some d, op := .load t x, type := ty, pos := pos, after := af, guard := none } := by exact rfl) (hx : ev L x = some (.pointer (some (p.add n))) := by exact rfl) (hv : cs[n]? = some v := by exact rfl) (hN : d < N := by decide) : wpS P ops K (SB M c0 w0) fin (.q i s) a w := d_q F ho rfl rfl hN (fun w' hS' => r_load F hx ha (AT.cell (h.sb hS' HM) hv)) hS k
theorem di {i : Nat} {s : Sch} (F : Fr a N L D) {x : Operand} {ty : TypeId} {pos : String} {af : Array Edge} {p : Addr} (hS : S w) (k : ∀ a', Fr a' N ((d, .pointer (some p)) :: L) D → wpS P ops K S fin s a' w) (ho : ops[i]? = some { dst := some d, op := .nilCheck x, type := ty, pos := pos, after := af, guard := none } := by exact rfl) (hx : ev L x = some (.pointer (some p)) := by exact rfl) (hN : d < N := by decide) : wpS P ops K S fin (.q i s) a w := d_q F ho rfl rfl hN (fun _ _ => r_nil F hx) hS k
theorem qc (F : Fr a N L D) {f : FuncId} {fn : Func} {oz : Array Operand} {ats : Array TypeId} {vs : List Value} {ty : TypeId} {pos : String} {af : Array Edge} {R : Ending → World → Prop} (hf : P.funcs[f]? = some fn) (hc : Calls P f vs.toArray w R) (k : ∀ e w', R e w' → ∃ v, e = .returned v ∧ ∀ a', Fr a' N ((d, v) :: L) D → wL P ops K rest a' w') (hv : oz.toList.map (ev L) = vs.map some := by exact rfl) (hb : fn.body.isNone = false := by exact rfl) (hn : (fn.name == "runtime.NumGoroutine") = false := by kernel_rfl) (hN : d < N := by decide) :
  wL P ops K ({ dst := some d, op := .call { callee := .value (.func f), args := oz, argTypes := ats }, type := ty, pos := pos, after := af, guard := none } :: rest) a w :=
 q_call F rfl rfl hN (r_call F hf hb hn hv) hc k
theorem oc {i : Nat} {K : Act → World → Prop} (F : Fr a N L D) {f : FuncId} {fn : Func} {oz : Array Operand} {ats : Array TypeId} {vs : List Value} {ty : TypeId} {pos : String} {af : Array Edge} {R : Ending → World → Prop} (hf : P.funcs[f]? = some fn) (hc : Calls P f vs.toArray w R) (k : ∀ e w', R e w' → ∃ v, e = .returned v ∧ ∀ a', Fr a' N ((d, v) :: L) D → K a' w') (ho : ops[i]? = some { dst := some d, op := .call { callee := .value (.func f), args := oz, argTypes := ats }, type := ty, pos := pos, after := af, guard := none } := by exact rfl) (hv : oz.toList.map (ev L) = vs.map some := by exact rfl) (hb : fn.body.isNone = false := by exact rfl) (hn : (fn.name == "runtime.NumGoroutine") = false := by kernel_rfl) (hN : d < N := by decide) : wO P ops i K a w :=
 o_call F ho (wanted_none rfl) rfl hN (r_call F hf hb hn hv) hc k
theorem fb (F : Fr a N L D) {x : Operand} {b b' : Bool} (h : b = b') (hv : ev L x = some (.bool b) := by exact rfl) : a.eval x = .bool b' := (F.ev hv).trans (congrArg Value.bool h)
end
theorem nb {a b : Nat} (h : Nat.ble a b = true) : a ≤ b := Nat.le_of_ble_eq_true h
theorem si {α : Type} {a b : α} (h : some a = some b) : a = b := Option.some.inj h
theorem dt {p : Prop} [Decidable p] (h : p) : decide p = true := decide_eq_true h
theorem dz {p : Prop} [Decidable p] (h : ¬ p) : decide p = false := decide_eq_false h
section
variable {α : Type} {e : K α} {i j n off : Nat} {c c' : Nat → Nat} {w w' : World} {A : Option Addr} {xs : List (List α)} {M : Nat → Prop}
end
theorem rt {v : Value} {p : Value → Prop} (h : p v) : ∃ v', Ending.returned v = .returned v' ∧ p v' := ⟨v, rfl, h⟩
theorem Ev.n {M : Nat → Prop} {c c' c1 : Nat → Nat} {w w' w1 : World} (h : Ev M c w c1 w1) (h2 : Ev No c1 w1 c' w') : Ev M c w c' w' := h.trans h2 nx
theorem sq {P : Program} {Q : Exit → Act → World → Prop} {a : Act} {w : World} {x y : Code} (h : ∀ K : Act → World → Prop, (∀ a w, y.wp P Q a w → K a w) → x.wp P (Exit.then K Q) a w) : (Code.seq x y).wp P Q a w := wp_seq_k h
theorem sr {P : Program} {Q : Exit → Act → World → Prop} {a : Act} {w : World} {id : Nat} {l : List Oper} {y : Code} (h : ∀ K : Act → World → Prop, (∀ a w, y.wp P Q a w → K a w) → wL P l.toArray (Exit.then K Q .normal) l a w) : (Code.seq (Code.region id l.toArray false) y).wp P Q a w := wp_seq_k fun K hK => reg (h K hK)
theorem wct {P : Program} {Q : Exit → Act → World → Prop} {a : Act} {w : World} {c : Operand} {x y : Code} (hc : a.eval c = .bool true) (h : x.wp P Q a w) : (Code.cond c x y).wp P Q a w := wp_cond_true hc h
theorem wcf {P : Program} {Q : Exit → Act → World → Prop} {a : Act} {w : World} {c : Operand} {x y : Code} (hc : a.eval c = .bool false) (h : y.wp P Q a w) : (Code.cond c x y).wp P Q a w := wp_cond_false hc h
def ct (m : Nat) : Nat → Nat := fun x => if x < m then x else 0
theorem pl {a b : Nat} (h : 0 < a) : 0 < a + b := Nat.add_pos_left h _
theorem lm {m a b : Nat} (h : a < b := by decide) : m + a < m + b := Nat.add_lt_add_left h m
theorem ip {α : Type} {c : Prop} [Decidable c] {a b r : α} (h : c) (H : (if c then a else b) = r) : a = r := (if_pos h).symm.trans H
theorem im {α : Type} {c : Prop} [Decidable c] {a b r : α} (h : ¬ c) (H : (if c then a else b) = r) : b = r := (if_neg h).symm.trans H
theorem lc1 {M : Nat → Prop} {m j : Nat} : ∀ x, x = m + j → M x ∨ m ≤ x := fun _ q => .inr (le_col q)
theorem lc2 {M : Nat → Prop} {m j i : Nat} : ∀ x, x = m + j ∨ x = m + i → M x ∨ m ≤ x := fun _ q => q.elim (fun q => .inr (le_col q)) (fun q => .inr (le_col q))
def cf (f c : Nat → Nat) : Nat → Nat := fun k => f (c k)
theorem Ev.lv {M : Nat → Prop} {f c c1 : Nat → Nat} {w w1 : World} {m : Nat} (h : Ev (fun k => M k ∨ m ≤ k) c w c1 w1) (hB : CB m c w) (hr : ∀ x, x < m → f x = x := by intro x hx; (try dsimp only [ct]); ((repeat' split) <;> omega)) : Ev M c w (cf f c1) w1 := h.leave hB f hr
theorem cfb {f c : Nat → Nat} {w : World} {m : Nat} (h : ∀ x, f x < m := by intro x; (try dsimp only [ct]); ((repeat' split) <;> omega)) : CB m (cf f c) w := fun k _ => h (c k)
theorem cfk {f c : Nat → Nat} {j j' : Nat} (h : f j = j' := by (try dsimp only [ct]); ((repeat' split) <;> omega)) : ∀ k, c k = j → cf f c k = j' := fun k hk => by unfold cf; rw [hk]; exact h
end Go.Proofs.Ytoaldfpngihhcaa.G