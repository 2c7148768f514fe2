/- The plain functions that the program's functions compute, and the words for their values. -/
import Derived.Test.YtcolmmjcdlmcoaaNA
import Derived.WalkSpells
import Derived.Test.YtcolmmjcdlmcoaaRows
import Derived.Deep.Slices
import Derived.ChangeArms
import Derived.KernelRfl
namespace Go.Proofs.Ytcolmmjcdlmcoaa.G
open Go
set_option linter.unusedVariables false
set_option linter.unusedSimpArgs false
structure table_cell where
  value : List Int
  rev : Int
deriving Inhabited, DecidableEq
structure api_Op where
  Kind : Int
  Key : List Int
  Value : List Int
  Rev : Int
deriving Inhabited, DecidableEq
structure api_Answer where
  Done : Bool
  Key : List Int
  Value : List Int
  Rev : Int
  At : Int
deriving Inhabited, DecidableEq
structure api_Row where
  Key : List Int
  Value : List Int
  Rev : Int
deriving Inhabited, DecidableEq
inductive Tr where
  | nil
  | node (l r : Tr) (k : ByteArray) (v : table_cell) (s d : Int)
deriving Inhabited
def Tr.isNil : Tr → Bool
  | .nil => true
  | _ => false
def Tr.cs {β : Type} (t : Tr) (F : Tr → Tr → ByteArray → table_cell → Int → Int → Option β) : Option β :=
  match t with
  | .nil => none
  | .node l r k v s d => F l r k v s d
theorem cs_some {β : Type} {t : Tr} {F : Tr → Tr → ByteArray → table_cell → Int → Int → Option β} {x : β} (h : t.cs F = some x) : ∃ l r k v s d, t = .node l r k v s d ∧ F l r k v s d = some x := by
  cases t with
  | nil => cases h
  | node l r k v s d => exact ⟨l, r, k, v, s, d, rfl, h⟩
inductive It where
  | all (t : Tr)
  | from (t : Tr) (k : ByteArray)
deriving Inhabited
structure Wri where
  room : Int
  b : List Int
  open_ : List Int
  fault : Int
deriving Inhabited
structure Tab where
  rows : Tr
  rev : Int
  size : Int
deriving Inhabited
structure Cel where
  value : List Int
  rev : Int
deriving Inhabited
structure Rdr where
  left : List Int
  outer : List (List Int)
  fault : Int
deriving Inhabited
def slices_Grow.f (a1 : List Int) (n : Int) : Option (List Int) := if 0 ≤ n ∧ n ≤ 140737488355328 ∧ a1 = [] then some [] else none
def bytes_Clone.f (a1 : List Int) : Option (List Int) := if a1.length * 1 ≤ 140737488355328 then some a1 else none
def rnum (f : Int) : List Int → Nat → Int → (List Int × Int) ⊕ (Int × List Int × Int)
  | [], _, _ => .inl ([], f)
  | c :: xs, k, n => if (k = 9 ∧ 1 < c) ∨ (0 < k ∧ c = 0) then .inr (0, xs, 11) else if c < 128 then .inr (bor .u64 n (shl .u64 (IntKind.u64.wrap (band .u8 c 127)) (7 * (k : Int))), xs, f) else rnum f xs (k + 1) (bor .u64 n (shl .u64 (IntKind.u64.wrap (band .u8 c 127)) (7 * (k : Int))))
def rsize (l : List Int) (f most : Int) : (List Int × Int) ⊕ (Int × List Int × Int) := match rnum f l 0 0 with
  | .inl e => .inl e
  | .inr (n, l, f) => if f = 0 then (if most < n then .inr (0, l, 11) else if (l.length : Int) < n then .inr (0, l, 10) else .inr (IntKind.i64.wrap n, l, f)) else .inr (0, l, f)
def rtext (l : List Int) (f most : Int) : Option ((List Int × Int) ⊕ (List Int × List Int × Int)) := match rsize l f (IntKind.u64.wrap (max most 0)) with
  | .inl e => some (.inl e)
  | .inr (n, l, f) => if 0 ≤ n ∧ n ≤ (l.length : Int) ∧ (l.length : Int) ≤ 140737488355328 then some (.inr (l.take n.toNat, l.drop n.toNat, f)) else none
def rtake {α : Type} (z : α) (r : Rdr) (x : (List Int × Int) ⊕ (α × List Int × Int)) : α × Option Rdr := match x with
  | .inl (l, f) => (z, some ⟨l, r.outer, 10⟩)
  | .inr (v, l, f) => if f = 0 then (v, some ⟨l, r.outer, f⟩) else (z, some ⟨l, r.outer, f⟩)
def parcel_Reader_Num.f (a1 : Option Rdr) : Option (Int × Option Rdr) := match a1 with
  | none => some (0, none)
  | some r => if r.fault = 0 then some (rtake 0 r (rnum r.fault r.left 0 0)) else some (0, some r)
def parcel_Reader_Text.f (a1 : Option Rdr) (most : Int) : Option (List Int × Option Rdr) := match a1 with
  | none => some ([], none)
  | some r => if r.fault = 0 then (rtext r.left r.fault most).bind fun x => some (rtake [] r x) else some ([], some r)
def parcel_Read.f (a1 : List Int) : Option (Option Rdr) := if a1.length * 1 ≤ 140737488355328 then some (some ⟨a1, [], 0⟩) else none
/-! (*haulage/tree.Tree[string, haulage/table.cell]).Len -/
def tree_Tree_Len.f (a1 : Tr) : Option Int := if (Tr.isNil a1) = true then (some 0) else (Tr.cs a1 fun tl10 tr11 tk12 tv13 ts14 td15 => (some ts14))
/-! (*haulage/tree.Tree[string, haulage/table.cell]).Depth -/
def tree_Tree_Depth.f (a1 : Tr) : Option Int := if (Tr.isNil a1) = true then (some 0) else (Tr.cs a1 fun tl10 tr11 tk12 tv13 ts14 td15 => (some td15))
/-! haulage/tree.node[string,haulage/table.cell] -/
def tree_node.f (a1 : Tr) (a4 : ByteArray) (a5 : table_cell) (a9 : Tr) : Option Tr := (tree_Tree_Len.f a1).bind fun t23 => (tree_Tree_Len.f a9).bind fun t30 => (tree_Tree_Depth.f a1).bind fun t37 => (tree_Tree_Depth.f a9).bind fun t44 => some (Tr.node a1 a9 a4 a5 (IntKind.i64.wrap ((IntKind.i64.wrap (t23 + 1)) + t30)) (IntKind.i64.wrap (1 + (max t37 t44))))
/-! haulage/tree.turnLeft[string,haulage/table.cell] -/
def tree_turnLeft.f (a1 : Tr) : Option Tr := Tr.cs a1 fun tl6 tr7 tk8 tv9 ts10 td11 => (Tr.cs tr7 fun tl27 tr28 tk29 tv30 ts31 td32 => ((tree_node.f tl6 tk8 tv9 tl27).bind fun t45 => (tree_node.f t45 tk29 tv30 tr28).bind fun t54 => some t54))
/-! haulage/tree.turnRight[string,haulage/table.cell] -/
def tree_turnRight.f (a1 : Tr) : Option Tr := Tr.cs a1 fun tl6 tr7 tk8 tv9 ts10 td11 => (Tr.cs tl6 fun tl27 tr28 tk29 tv30 ts31 td32 => ((tree_node.f tr28 tk8 tv9 tr7).bind fun t45 => (tree_node.f tl27 tk29 tv30 t45).bind fun t54 => some t54))
/-! haulage/tree.join[string,haulage/table.cell] -/
def tree_join.f : Nat → Tr → ByteArray → table_cell → Tr → Option Tr
  | 0, _, _, _, _ => none
  | k + 1, a1, a4, a5, a9 => (tree_Tree_Depth.f a1).bind fun t22 => (tree_Tree_Depth.f a9).bind fun t29 => if (IntKind.i64.wrap (t29 + 1)) < t22 then (Tr.cs a1 fun tl40 tr41 tk42 tv43 ts44 td45 => ((tree_join.f k tr41 a4 a5 a9).bind fun t58 => Tr.cs t58 fun tl71 tr72 tk73 tv74 ts75 td76 => ((tree_Tree_Depth.f tl40).bind fun t89 => if (IntKind.i64.wrap (t89 + 1)) < td76 then ((tree_Tree_Depth.f tl71).bind fun t101 => (tree_Tree_Depth.f tr72).bind fun t108 => if t108 < t101 then ((tree_turnRight.f t58).bind fun t116 => (tree_node.f tl40 tk42 tv43 t116).bind fun t128 => (tree_turnLeft.f t128).bind fun t137 => some t137) else ((tree_node.f tl40 tk42 tv43 t58).bind fun t128 => (tree_turnLeft.f t128).bind fun t137 => some t137)) else ((tree_node.f tl40 tk42 tv43 t58).bind fun t166 => some t166)))) else ((tree_Tree_Depth.f a9).bind fun t176 => (tree_Tree_Depth.f a1).bind fun t183 => if (IntKind.i64.wrap (t183 + 1)) < t176 then (Tr.cs a9 fun tl194 tr195 tk196 tv197 ts198 td199 => ((tree_join.f k a1 a4 a5 tl194).bind fun t212 => Tr.cs t212 fun tl225 tr226 tk227 tv228 ts229 td230 => ((tree_Tree_Depth.f tr195).bind fun t243 => if (IntKind.i64.wrap (t243 + 1)) < td230 then ((tree_Tree_Depth.f tr226).bind fun t255 => (tree_Tree_Depth.f tl225).bind fun t262 => if t262 < t255 then ((tree_turnLeft.f t212).bind fun t270 => (tree_node.f t270 tk196 tv197 tr195).bind fun t282 => (tree_turnRight.f t282).bind fun t291 => some t291) else ((tree_node.f t212 tk196 tv197 tr195).bind fun t282 => (tree_turnRight.f t282).bind fun t291 => some t291)) else ((tree_node.f t212 tk196 tv197 tr195).bind fun t320 => some t320)))) else ((tree_node.f a1 a4 a5 a9).bind fun t330 => some t330))
/-! haulage/tree.last[string,haulage/table.cell] -/
def tree_last.f : Nat → Tr → Option (Tr × ByteArray × table_cell)
  | 0, _ => none
  | k + 1, a1 => Tr.cs a1 fun tl14 tr15 tk16 tv17 ts18 td19 => (if (Tr.isNil tr15) = true then (some (tl14, tk16, tv17)) else ((tree_last.f k tr15).bind fun t40 => (tree_join.f k tl14 tk16 tv17 t40.1).bind fun t65 => some (t65, t40.2.1, t40.2.2)))
/-! haulage/tree.both[string,haulage/table.cell] -/
def tree_both.f (k : Nat) (a1 : Tr) (a4 : Tr) : Option Tr := if (Tr.isNil a1) = true then (some a4) else ((tree_last.f k a1).bind fun t13 => (tree_join.f k t13.1 t13.2.1 t13.2.2 a4).bind fun t36 => some t36)
/-! haulage/tree.New[string,haulage/table.cell] -/
def tree_New.f : Option Tr := some Tr.nil
/-! cmp.isNaN[string] -/
def cmp_isNaN.f (a1 : ByteArray) : Option Bool := some (!(a1.toList == a1.toList))
/-! cmp.Compare[string] -/
def cmp_Compare.f (a1 : ByteArray) (a2 : ByteArray) : Option Int := (cmp_isNaN.f a1).bind fun t5 => (cmp_isNaN.f a2).bind fun t13 => if t5 = true then (if t13 = true then (some 0) else (some (-1))) else (if t13 = true then (some 1) else (if (Op.bytesLess a1.toList a2.toList) = true then (some (-1)) else (if (Op.bytesLess a1.toList a2.toList || (a1.toList == a2.toList)) = true then (some 0) else (some 1))))
/-! cmp.Less[string] -/
def cmp_Less.f (a1 : ByteArray) (a2 : ByteArray) : Option Bool := (cmp_isNaN.f a1).bind fun t5 => if t5 = true then ((cmp_isNaN.f a2).bind fun t13 => if t13 = true then (some (Op.bytesLess a1.toList a2.toList)) else (some true)) else (some (Op.bytesLess a1.toList a2.toList))
/-! (*haulage/tree.Tree[string, haulage/table.cell]).Get -/
def tree_Tree_Get.j2 : Option (table_cell × Bool) := some (table_cell.mk [] 0, false)
def tree_Tree_Get.b1 (a4 : ByteArray) (o14 : Tr) : Option (Ctl Tr (Sum Unit (table_cell × Bool))) := if (Tr.isNil o14) = true then (some (.done (.inl ()))) else (Tr.cs o14 fun tl31 tr32 tk33 tv34 ts35 td36 => ((cmp_Compare.f a4 tk33).bind fun t49 => if t49 = 0 then (some (.done (.inr (tv34, true)))) else (if t49 < 0 then (some (.next tl31)) else (some (.next tr32)))))
def tree_Tree_Get.f (k : Nat) (a1 : Tr) (a4 : ByteArray) : Option (table_cell × Bool) := (loop (fun (s_ : Tr) => tree_Tree_Get.b1 a4 s_) k a1).bind fun x_ => match x_ with | .inl y_ => tree_Tree_Get.j2 | .inr q_ => some q_
/-! (*haulage/tree.Tree[string, haulage/table.cell]).Put -/
def tree_Tree_Put.f : Nat → Tr → ByteArray → table_cell → Option Tr
  | 0, _, _, _ => none
  | k + 1, a1, a4, a5 => if (Tr.isNil a1) = true then ((tree_node.f Tr.nil a4 a5 Tr.nil).bind fun t21 => some t21) else (Tr.cs a1 fun tl32 tr33 tk34 tv35 ts36 td37 => ((cmp_Compare.f a4 tk34).bind fun t50 => if t50 < 0 then ((tree_Tree_Put.f k tl32 a4 a5).bind fun t62 => (tree_join.f k t62 tk34 tv35 tr33).bind fun t71 => some t71) else (if 0 < t50 then ((tree_Tree_Put.f k tr33 a4 a5).bind fun t85 => (tree_join.f k tl32 tk34 tv35 t85).bind fun t94 => some t94) else ((tree_node.f tl32 a4 a5 tr33).bind fun t106 => some t106))))
/-! (*haulage/tree.Tree[string, haulage/table.cell]).Delete -/
def tree_Tree_Delete.f : Nat → Tr → ByteArray → Option (Tr × Bool)
  | 0, _, _ => none
  | k + 1, a1, a4 => if (Tr.isNil a1) = true then (some (Tr.nil, false)) else (Tr.cs a1 fun tl12 tr13 tk14 tv15 ts16 td17 => ((cmp_Compare.f a4 tk14).bind fun t30 => if t30 < 0 then ((tree_Tree_Delete.f k tl12 a4).bind fun t40 => if t40.2 = true then ((tree_join.f k t40.1 tk14 tv15 tr13).bind fun t56 => some (t56, true)) else (some (a1, false))) else (if 0 < t30 then ((tree_Tree_Delete.f k tr13 a4).bind fun t68 => if t68.2 = true then ((tree_join.f k tl12 tk14 tv15 t68.1).bind fun t84 => some (t84, true)) else (some (a1, false))) else ((tree_both.f k tl12 tr13).bind fun t96 => some (t96, true)))))
/-! haulage/table.num -/
def table_num.j2 (i23 : Int) : Option Int := some i23
def table_num.b1 (i5 : Int) (i6 : Int) : Option (Ctl (Int × Int) Int) := if 127 < i5 then (some (.next (shr .i64 i5 7, IntKind.i64.wrap (i6 + 1)))) else (some (.done i6))
def table_num.f (k : Nat) (a1 : Int) : Option Int := (loop (fun (s_ : Int × Int) => table_num.b1 s_.1 s_.2) k (a1, 1)).bind fun x_ => table_num.j2 x_
/-! haulage/table.long -/
def table_long.f (k : Nat) (a1 : ByteArray) (a2 : table_cell) : Option Int := (table_num.f k (a1.size : Int)).bind fun t17 => (table_num.f k (a2.value.length : Int)).bind fun t24 => (table_num.f k a2.rev).bind fun t31 => some (IntKind.i64.wrap ((IntKind.i64.wrap ((IntKind.i64.wrap ((IntKind.i64.wrap (t17 + (a1.size : Int))) + t24)) + (a2.value.length : Int))) + t31))
/-! haulage/table.writes -/
def table_writes.f (a1 : api_Op) : Option Bool := if a1.Kind = 2 then (some true) else (if a1.Kind = 3 then (some true) else (some (decide (a1.Kind = 4))))
/-! haulage/table.Right -/
def table_Right.j4 (b58 : Bool) (b59 : Bool) (b60 : Bool) : Option Bool := if b58 = true then (if b59 = true then (some b60) else (some false)) else (some false)
def table_Right.j3 (a1 : api_Op) (b51 : Bool) : Option Bool := table_Right.j4 b51 (decide ((a1.Value.length : Int) = 0)) (decide (a1.Rev = 0))
def table_Right.j2 (a1 : api_Op) (b20 : Bool) (b44 : Bool) : Option Bool := if b44 = true then (table_Right.j3 a1 b20) else (some false)
def table_Right.j1 (a1 : api_Op) (b20 : Bool) : Option Bool := if a1.Kind = 4 then (if 0 ≤ a1.Rev then (table_Right.j4 b20 (decide ((a1.Value.length : Int) ≤ 256)) (decide (a1.Rev ≤ 1099511627776))) else (table_Right.j4 b20 (decide ((a1.Value.length : Int) ≤ 256)) false)) else (if a1.Kind = 2 then (table_Right.j4 b20 (decide ((a1.Value.length : Int) ≤ 256)) (decide (a1.Rev = 0))) else (if a1.Kind = 5 then (table_Right.j3 a1 (decide ((a1.Key.length : Int) ≤ 65))) else (if a1.Kind = 1 then (table_Right.j2 a1 b20 (decide (a1.Kind = 1))) else (table_Right.j2 a1 b20 (decide (a1.Kind = 3))))))
def table_Right.f (a1 : api_Op) : Option Bool := if 0 < (a1.Key.length : Int) then (table_Right.j1 a1 (decide ((a1.Key.length : Int) ≤ 64))) else (table_Right.j1 a1 false)
/-! (*haulage/tree.Tree[string, haulage/table.cell]).up -/
def Tr.up {σ X : Type} (g : σ → ByteArray → table_cell → Option (Ctl σ X)) : Tr → σ → Option (Ctl σ X)
  | .nil, s => some (.next s)
  | .node l r k v _ _, s => thenC (Tr.up g l s) fun s => thenC (g s k v) fun s => Tr.up g r s
/-! (*haulage/tree.Tree[string, haulage/table.cell]).from -/
def Tr.from {σ X : Type} (key : ByteArray) (g : σ → ByteArray → table_cell → Option (Ctl σ X)) : Tr → σ → Option (Ctl σ X)
  | .nil, s => some (.next s)
  | .node l r k v _ _, s => (cmp_Less.f k key).bind fun b => if b = true then Tr.from key g r s else thenC (Tr.from key g l s) fun s => thenC (g s k v) fun s => Tr.up g r s
/-! @iterators -/
def It.run {σ X : Type} (g : σ → ByteArray → table_cell → Option (Ctl σ X)) : It → σ → Option (Ctl σ X)
  | .all t, s => Tr.up g t s
  | .from t k, s => Tr.from k g t s
/-! (*haulage/tree.Tree[string, haulage/table.cell]).All -/
def tree_Tree_All.f (a1 : Tr) : Option It := some (.all a1)
/-! (*haulage/tree.Tree[string, haulage/table.cell]).From -/
def tree_Tree_From.f (a1 : Tr) (a4 : ByteArray) : Option It := some (.from a1 a4)
/-! (*haulage/tree.Tree[string, haulage/table.cell]).Seek -/
def tree_Tree_Seek.b1 (s48 : ByteArray) (v49 : table_cell) : Option (Ctl Unit (ByteArray × (List Int) × Int)) := some (.done (s48, v49.value, v49.rev))
def tree_Tree_Seek.j2 : Option (ByteArray × table_cell × Bool) := some (.empty, table_cell.mk [] 0, false)
def tree_Tree_Seek.j3 (s79 : ByteArray) (l81 : List Int) (i84 : Int) : Option (ByteArray × table_cell × Bool) := some (s79, table_cell.mk l81 i84, true)
def tree_Tree_Seek.f (a1 : Tr) (a4 : ByteArray) : Option (ByteArray × table_cell × Bool) := (tree_Tree_From.f a1 a4).bind fun t29 => (It.run (fun (s_ : Unit) (k_ : ByteArray) (v_ : table_cell) => tree_Tree_Seek.b1 k_ v_) t29 ()).bind fun x_ => x_.el (fun s_ => tree_Tree_Seek.j2) (fun y_ => tree_Tree_Seek.j3 y_.1 y_.2.1 y_.2.2)
/-! haulage/table.New -/
def table_New.f : Option (Option Tab) := (tree_New.f).bind fun t3 => some (some (Tab.mk t3 0 0))
/-! (*haulage/table.Table).Copy -/
def table_Table_Copy.f (a1 : Option Tab) : Option (Option Tab) := if (Option.isNone a1) = true then (some none) else ((a1).bind fun ob11 => (some (some (Tab.mk ob11.rows ob11.rev ob11.size))))
/-! (*haulage/table.Table).set -/
def table_Table_set.j1 (k : Nat) (a5 : ByteArray) (a6 : table_cell) (a10 : Bool) (ob21 : Tab) (i63 : Int) : Option (Option Tab) := if a10 = true then ((tree_Tree_Put.f k ob21.rows a5 a6).bind fun t88 => (table_long.f k a5 a6).bind fun t102 => some (some (Tab.mk t88 ob21.rev (IntKind.i64.wrap (i63 + t102))))) else ((tree_Tree_Delete.f k ob21.rows a5).bind fun t72 => some (some (Tab.mk t72.1 ob21.rev i63)))
def table_Table_set.f (k : Nat) (a1 : Option Tab) (a5 : ByteArray) (a6 : table_cell) (a10 : Bool) : Option (Option Tab) := (a1).bind fun ob21 => ((tree_Tree_Get.f k ob21.rows a5).bind fun t29 => if t29.2 = true then ((table_long.f k a5 t29.1).bind fun t53 => table_Table_set.j1 k a5 a6 a10 ob21 (IntKind.i64.wrap (ob21.size - t53))) else (table_Table_set.j1 k a5 a6 a10 ob21 ob21.size))
/-! (*haulage/table.Table).told -/
def table_Table_told.f (a1 : Option Tab) (a5 : ByteArray) (a6 : table_cell) (a10 : Bool) : Option api_Answer := (a1).bind fun ob27 => (if a10 = true then (if (a5).size ≤ 140737488355328 then ((bytes_Clone.f a6.value).bind fun t58 => some (api_Answer.mk a10 (sb a5) t58 a6.rev ob27.rev)) else none) else (some (api_Answer.mk a10 [] [] 0 ob27.rev)))
/-! (*haulage/table.Table).Rev -/
def table_Table_Rev.f (a1 : Option Tab) : Option Int := if (Option.isNone a1) = true then (some 0) else ((a1).bind fun ob11 => (some ob11.rev))
/-! (*haulage/table.Table).Len -/
def table_Table_Len.f (a1 : Option Tab) : Option Int := if (Option.isNone a1) = true then (some 0) else ((a1).bind fun ob11 => ((tree_Tree_Len.f ob11.rows).bind fun t19 => some t19))
/-! (*haulage/table.Table).Size -/
def table_Table_Size.f (k : Nat) (a1 : Option Tab) : Option Int := if (Option.isNone a1) = true then (some 0) else ((a1).bind fun ob13 => ((table_num.f k ob13.rev).bind fun t21 => (tree_Tree_Len.f ob13.rows).bind fun t28 => (table_num.f k t28).bind fun t35 => some (IntKind.i64.wrap ((IntKind.i64.wrap (t21 + t35)) + ob13.size))))
/-! (*haulage/table.Table).Do -/
def table_Table_Do.j1 (ob48 : Tab) (t56 : ByteArray × table_cell × Bool) : Option (api_Answer × Int × (Option Tab)) := (table_Table_told.f (some (Tab.mk ob48.rows ob48.rev ob48.size)) t56.1 t56.2.1 t56.2.2).bind fun t100 => some (t100, 0, (some (Tab.mk ob48.rows ob48.rev ob48.size)))
def table_Table_Do.j3 (k : Nat) (a5 : api_Op) (ob123 : Tab) (t191 : api_Answer) (t218 : List Int) (b272 : Bool) : Option (api_Answer × Int × (Option Tab)) := if b272 = true then ((table_Table_set.f k (some (Tab.mk ob123.rows (IntKind.i64.wrap (ob123.rev + 1)) ob123.size)) (bs a5.Key) (table_cell.mk t218 (IntKind.i64.wrap (ob123.rev + 1))) true).bind fun t282 => some (api_Answer.mk true t191.Key t191.Value t191.Rev t191.At, 0, t282)) else (some (api_Answer.mk false t191.Key t191.Value t191.Rev t191.At, 0, (some (Tab.mk ob123.rows (IntKind.i64.wrap (ob123.rev + 1)) ob123.size))))
def table_Table_Do.j2 (k : Nat) (a5 : api_Op) (ob123 : Tab) (t131 : table_cell × Bool) (t191 : api_Answer) (t218 : List Int) : Option (api_Answer × Int × (Option Tab)) := if a5.Kind = 3 then ((table_Table_set.f k (some (Tab.mk ob123.rows (IntKind.i64.wrap (ob123.rev + 1)) ob123.size)) (bs a5.Key) (table_cell.mk t218 (IntKind.i64.wrap (ob123.rev + 1))) false).bind fun t262 => some (t191, 0, t262)) else (if a5.Kind = 2 then (table_Table_Do.j3 k a5 ob123 t191 t218 true) else (table_Table_Do.j3 k a5 ob123 t191 t218 (decide (t131.1.rev = a5.Rev))))
def table_Table_Do.f (k : Nat) (a1 : Option Tab) (a5 : api_Op) : Option (api_Answer × Int × (Option Tab)) := if (Option.isNone a1) = true then (some (api_Answer.mk false [] [] 0 0, 1, a1)) else ((table_Right.f a5).bind fun t35 => if t35 = true then (if a5.Kind = 5 then ((a1).bind fun ob48 => ((tree_Tree_Seek.f ob48.rows (bs a5.Key)).bind fun t56 => table_Table_Do.j1 ob48 t56)) else ((a1).bind fun ob123 => ((tree_Tree_Get.f k ob123.rows (bs a5.Key)).bind fun t131 => (table_writes.f a5).bind fun t153 => if t153 = true then (if ob123.rev = 1099511627776 then (some (api_Answer.mk false [] [] 0 0, 132, a1)) else ((table_Table_told.f (some (Tab.mk ob123.rows (IntKind.i64.wrap (ob123.rev + 1)) ob123.size)) (bs a5.Key) t131.1 t131.2).bind fun t191 => (bytes_Clone.f a5.Value).bind fun t218 => table_Table_Do.j2 k a5 ob123 t131 t191 t218)) else ((table_Table_told.f a1 (bs a5.Key) t131.1 t131.2).bind fun t162 => some (t162, 0, a1))))) else (some (api_Answer.mk false [] [] 0 0, 131, a1)))
/-! (*haulage/table.Table).After -/
def table_Table_After.f (k : Nat) (a1 : Option Tab) (a5 : api_Op) : Option (Int × Int) := (table_Table_Copy.f a1).bind fun t21 => (table_Table_Do.f k t21 a5).bind fun t32 => if t32.2.1 = 0 then ((table_Table_Size.f k t32.2.2).bind fun t60 => some (t60, 0)) else (some (0, t32.2.1))
/-! (*haulage/table.Table).Rows -/
def table_Table_Rows.b1 (l139 : List api_Row) (s150 : ByteArray) (v151 : table_cell) : Option (Ctl (List api_Row) Unit) := if (s150).size ≤ 140737488355328 then ((bytes_Clone.f v151.value).bind fun t76 => if (l139.length + [api_Row.mk (sb s150) t76 v151.rev].length) * 56 ≤ 140737488355328 then (some (.next (l139 ++ [api_Row.mk (sb s150) t76 v151.rev]))) else none) else none
def table_Table_Rows.j2 (l139 : List api_Row) : Option (List api_Row) := some l139
def table_Table_Rows.f (a1 : Option Tab) : Option (List api_Row) := if (Option.isNone a1) = true then (some []) else ((a1).bind fun ob20 => ((tree_Tree_All.f ob20.rows).bind fun t28 => (It.run (fun (s_ : (List api_Row)) (k_ : ByteArray) (v_ : table_cell) => table_Table_Rows.b1 s_ k_ v_) t28 []).bind fun x_ => x_.el (fun s_ => table_Table_Rows.j2 s_) (fun y_ => none)))
/-! haulage/parcel.New -/
def parcel_New.f (a1 : Int) : Option (Option Wri) := some (some (Wri.mk (max a1 0) [] [] 0))
/-! haulage/parcel.form -/
def parcel_form.j2 (i52 : Int) (l54 : List Int) : Option (List Int) := if (l54.length + [IntKind.u8.wrap i52].length) * 1 ≤ 140737488355328 then (some (l54 ++ [IntKind.u8.wrap i52])) else none
def parcel_form.b1 (i13 : Int) (l14 : List Int) : Option (Ctl (Int × (List Int)) (Int × (List Int))) := if 127 < i13 then (if (l14.length + [bor .u8 (IntKind.u8.wrap i13) 128].length) * 1 ≤ 140737488355328 then (some (.next (shr .u64 i13 7, (l14 ++ [bor .u8 (IntKind.u8.wrap i13) 128])))) else none) else (some (.done (i13, l14)))
def parcel_form.f (k : Nat) (a1 : Int) : Option (List Int) := if (0 : Int) ≤ 0 ∧ (0 : Int) ≤ 10 ∧ (10 : Int) * (1 : Nat) ≤ 140737488355328 then ((loop (fun (s_ : Int × (List Int)) => parcel_form.b1 s_.1 s_.2) k (a1, (List.replicate (0 : Int).toNat (0 : Int)))).bind fun x_ => parcel_form.j2 x_.1 x_.2) else none
/-! (*haulage/parcel.Writer).whole -/
def parcel_Writer_whole.f (a1 : Option Wri) : Option Bool := if (Option.isNone a1) = true then (some false) else ((a1).bind fun ob9 => (some (decide (ob9.fault = 0))))
/-! (*haulage/parcel.Writer).lay -/
def parcel_Writer_lay.f (a1 : Option Wri) (a6 : List Int) : Option (Option Wri) := (parcel_Writer_whole.f a1).bind fun t11 => if t11 = true then ((a1).bind fun ob22 => (if (IntKind.i64.wrap (ob22.room - (ob22.b.length : Int))) < (a6.length : Int) then (some (some (Wri.mk ob22.room ob22.b ob22.open_ 13))) else (if (ob22.b.length + a6.length) * 1 ≤ 140737488355328 then (some (some (Wri.mk ob22.room (ob22.b ++ a6) ob22.open_ ob22.fault))) else none))) else (some a1)
/-! (*haulage/parcel.Writer).Num -/
def parcel_Writer_Num.f (k : Nat) (a1 : Option Wri) (a6 : Int) : Option (Option Wri) := (parcel_form.f k a6).bind fun t7 => (parcel_Writer_lay.f a1 t7).bind fun t17 => some t17
/-! slices.Concat[[]byte,byte] -/
def slices_Concat.b3 (a1 : List (List Int)) (l61 : List Int) (i65 : Int) : Option (Ctl ((List Int) × Int) (List Int)) := if i65 < (a1.length : Int) then (if 0 ≤ i65 ∧ i65 < (a1.length : Int) then (if (l61.length + (rd a1 i65).length) * 1 ≤ 140737488355328 then (some (.next ((l61 ++ (rd a1 i65)), IntKind.i64.wrap (i65 + 1)))) else none) else none) else (some (.done l61))
def slices_Concat.j4 (l106 : List Int) : Option (List Int) := some l106
def slices_Concat.j2 (k : Nat) (a1 : List (List Int)) (i44 : Int) : Option (List Int) := (slices_Grow.f [] i44).bind fun t49 => (loop (fun (s_ : (List Int) × Int) => slices_Concat.b3 a1 s_.1 s_.2) k (t49, 0)).bind fun x_ => slices_Concat.j4 x_
def slices_Concat.b1 (a1 : List (List Int)) (i11 : Int) (i12 : Int) : Option (Ctl (Int × Int) Int) := if i12 < (a1.length : Int) then (if 0 ≤ i12 ∧ i12 < (a1.length : Int) then (if (IntKind.i64.wrap (i11 + ((rd a1 i12).length : Int))) < 0 then (none) else (some (.next (IntKind.i64.wrap (i11 + ((rd a1 i12).length : Int)), IntKind.i64.wrap (i12 + 1))))) else none) else (some (.done i11))
def slices_Concat.f (k : Nat) (a1 : List (List Int)) : Option (List Int) := (loop (fun (s_ : Int × Int) => slices_Concat.b1 a1 s_.1 s_.2) k (0, 0)).bind fun x_ => slices_Concat.j2 k a1 x_
/-! (*haulage/parcel.Writer).Text -/
def parcel_Writer_Text.f (k : Nat) (a1 : Option Wri) (a6 : List Int) : Option (Option Wri) := (parcel_form.f k (IntKind.u64.wrap (a6.length : Int))).bind fun t10 => (slices_Concat.f k [t10, a6]).bind fun t27 => (parcel_Writer_lay.f a1 t27).bind fun t37 => some t37
/-! (*haulage/parcel.Writer).Done -/
def parcel_Writer_Done.f (a1 : Option Wri) : Option ((List Int) × Int) := if (Option.isNone a1) = true then (some ([], 1)) else ((a1).bind fun ob12 => (if ob12.fault = 0 then (if 0 < (ob12.open_.length : Int) then (some ([], 12)) else (if (0 : Int) ≤ (ob12.b.length : Int) ∧ ((ob12.b.length : Int) : Int) ≤ (ob12.b.length : Int) ∧ ((ob12.b.length : Int) : Int) * (1 : Nat) ≤ 140737488355328 then (some ((ob12.b.take (List.replicate (ob12.b.length : Int).toNat (0 : Int)).length ++ (List.replicate (ob12.b.length : Int).toNat (0 : Int)).drop ob12.b.length), 0)) else none)) else (some ([], ob12.fault))))
/-! (*haulage/table.Table).Bytes -/
def table_Table_Bytes.b1 (k : Nat) (o150 : Option Wri) (s161 : ByteArray) (v162 : table_cell) : Option (Ctl (Option Wri) Unit) := if (s161).size ≤ 140737488355328 then ((parcel_Writer_Text.f k o150 (sb s161)).bind fun t123 => (parcel_Writer_Text.f k t123 v162.value).bind fun t132 => (parcel_Writer_Num.f k t132 (IntKind.u64.wrap v162.rev)).bind fun t140 => some (.next t140)) else none
def table_Table_Bytes.j2 (o150 : Option Wri) : Option (List Int) := (parcel_Writer_Done.f o150).bind fun t214 => some t214.1
def table_Table_Bytes.f (k : Nat) (a1 : Option Tab) : Option (List Int) := if (Option.isNone a1) = true then (some []) else ((table_Table_Size.f k a1).bind fun t11 => (parcel_New.f t11).bind fun t18 => (a1).bind fun ob40 => ((parcel_Writer_Num.f k t18 (IntKind.u64.wrap ob40.rev)).bind fun t48 => (tree_Tree_Len.f ob40.rows).bind fun t59 => (parcel_Writer_Num.f k t48 (IntKind.u64.wrap t59)).bind fun t66 => (tree_Tree_All.f ob40.rows).bind fun t76 => (It.run (fun (s_ : (Option Wri)) (k_ : ByteArray) (v_ : table_cell) => table_Table_Bytes.b1 k s_ k_ v_) t76 t66).bind fun x_ => x_.el (fun s_ => table_Table_Bytes.j2 s_) (fun y_ => none)))
/-! (*haulage/parcel.Reader).Done -/
def parcel_Reader_Done.j1 (b26 : Bool) : Option Int := if b26 = true then (some 12) else (some 0)
def parcel_Reader_Done.f (a1 : Option Rdr) : Option Int := if (Option.isNone a1) = true then (some 1) else ((a1).bind fun ob11 => (if ob11.fault = 0 then (if 0 < (ob11.left.length : Int) then (parcel_Reader_Done.j1 true) else (parcel_Reader_Done.j1 (decide (0 < (ob11.outer.length : Int))))) else (some ob11.fault)))
/-! haulage/parcel.copied -/
def parcel_copied.f (a1 : List Int) : Option (List Int) := if (a1.length : Int) = 0 then (some []) else (if (0 : Int) ≤ 0 ∧ (0 : Int) ≤ (a1.length : Int) ∧ ((a1.length : Int) : Int) * (1 : Nat) ≤ 140737488355328 then (if ((List.replicate (0 : Int).toNat (0 : Int)).length + a1.length) * 1 ≤ 140737488355328 then (some ((List.replicate (0 : Int).toNat (0 : Int)) ++ a1)) else none) else none)
/-! haulage/table.Read -/
def table_Read.j6 (k : Nat) (t91 : (List Int) × (Option Rdr)) (t113 : (List Int) × (Option Rdr)) (t247 : Int × (Option Rdr)) (i285 : Int) (o288 : Option Tab) (o292 : MpV Bool) (b480 : Bool) : Option (Ctl ((Option Rdr) × Int × (Option Tab) × Bool × (MpV Bool) × ByteArray) ((Option Rdr) × (Option Tab) × Bool)) := if (Lit.int .u64 t247.1).wf = true ∧ o292.n < 140737488355328 then ((table_Table_set.f k o288 (bs t91.1) (table_cell.mk t113.1 (IntKind.i64.wrap t247.1)) true).bind fun t274 => some (.next (t247.2, IntKind.u64.wrap (i285 - 1), t274, b480, (MpV.mk (fun i_ => if i_ = t247.1 then some true else o292.f i_) (o292.n + 1)), bs t91.1))) else none
def table_Read.j5 (k : Nat) (t17 : Int × (Option Rdr)) (t91 : (List Int) × (Option Rdr)) (t113 : (List Int) × (Option Rdr)) (i285 : Int) (o288 : Option Tab) (o292 : MpV Bool) (s293 : ByteArray) : Option (Ctl ((Option Rdr) × Int × (Option Tab) × Bool × (MpV Bool) × ByteArray) ((Option Rdr) × (Option Tab) × Bool)) := (parcel_Reader_Num.f t113.2).bind fun t247 => if (Op.bytesLess (bs t91.1).toList s293.toList || ((bs t91.1).toList == s293.toList)) = true then (table_Read.j6 k t91 t113 t247 i285 o288 o292 false) else (if 0 < t247.1 then (if t247.1 ≤ t17.1 then (if (Lit.int .u64 t247.1).wf = true then (table_Read.j6 k t91 t113 t247 i285 o288 o292 (!((o292.f t247.1).getD false))) else none) else (table_Read.j6 k t91 t113 t247 i285 o288 o292 false)) else (table_Read.j6 k t91 t113 t247 i285 o288 o292 false))
def table_Read.j4 (k : Nat) (t17 : Int × (Option Rdr)) (o284 : Option Rdr) (i285 : Int) (o288 : Option Tab) (b289 : Bool) (o292 : MpV Bool) (s293 : ByteArray) (b307 : Bool) : Option (Ctl ((Option Rdr) × Int × (Option Tab) × Bool × (MpV Bool) × ByteArray) ((Option Rdr) × (Option Tab) × Bool)) := if b307 = true then ((parcel_Reader_Text.f o284 64).bind fun t91 => (parcel_Reader_Text.f t91.2 256).bind fun t113 => table_Read.j5 k t17 t91 t113 i285 o288 o292 s293) else (some (.done (o284, o288, b289)))
def table_Read.j9 (o510 : Option Tab) (b525 : Bool) : Option ((Option Tab) × Int) := if b525 = true then (some (none, 130)) else (some (o510, 0))
def table_Read.j8 (o508 : Option Rdr) (o510 : Option Tab) (b511 : Bool) : Option ((Option Tab) × Int) := if b511 = true then ((parcel_Reader_Done.f o508).bind fun t518 => table_Read.j9 o510 (!decide (t518 = 0))) else (table_Read.j9 o510 true)
def table_Read.b7 (k : Nat) (t17 : Int × (Option Rdr)) (o284 : Option Rdr) (i285 : Int) (o288 : Option Tab) (b289 : Bool) (o292 : MpV Bool) (s293 : ByteArray) : Option (Ctl ((Option Rdr) × Int × (Option Tab) × Bool × (MpV Bool) × ByteArray) ((Option Rdr) × (Option Tab) × Bool)) := if 0 < i285 then (table_Read.j4 k t17 o284 i285 o288 b289 o292 s293 b289) else (table_Read.j4 k t17 o284 i285 o288 b289 o292 s293 false)
def table_Read.f (k : Nat) (a1 : List Int) : Option ((Option Tab) × Int) := (parcel_Read.f a1).bind fun t7 => (parcel_Reader_Num.f t7).bind fun t17 => (parcel_Reader_Num.f t17.2).bind fun t25 => (table_New.f).bind fun t34 => (t34).bind fun ob44 => ((loop (fun (s_ : (Option Rdr) × Int × (Option Tab) × Bool × (MpV Bool) × ByteArray) => table_Read.b7 k t17 s_.1 s_.2.1 s_.2.2.1 s_.2.2.2.1 s_.2.2.2.2.1 s_.2.2.2.2.2) k (t25.2, t25.1, (some (Tab.mk ob44.rows (IntKind.i64.wrap (min t17.1 1099511627776)) ob44.size)), decide (t17.1 ≤ 1099511627776), (MpV.mk (fun _ => none) 0), { data := #[] })).bind fun x_ => table_Read.j8 x_.1 x_.2.1 x_.2.2)
/-! haulage/haulagelaw13.same -/
def haulagelaw13_same.j2 : Option Bool := some true
def haulagelaw13_same.b1 (a1 : List Int) (a5 : List Int) (i16 : Int) : Option (Ctl Int (Sum Unit Bool)) := if i16 < (a1.length : Int) then (if 0 ≤ i16 ∧ i16 < (a1.length : Int) then (if 0 ≤ i16 ∧ i16 < (a5.length : Int) then (if (rd a1 i16) = (rd a5 i16) then (some (.next (IntKind.i64.wrap (i16 + 1)))) else (some (.done (.inr false)))) else none) else none) else (some (.done (.inl ())))
def haulagelaw13_same.f (k : Nat) (a1 : List Int) (a5 : List Int) : Option Bool := if (a1.length : Int) = (a5.length : Int) then ((loop (fun (s_ : Int) => haulagelaw13_same.b1 a1 a5 s_) k 0).bind fun x_ => match x_ with | .inl y_ => haulagelaw13_same.j2 | .inr q_ => some q_) else (some false)
/-! haulage/haulagelaw13.sameRow -/
def haulagelaw13_sameRow.f (k : Nat) (a1 : api_Row) (a8 : api_Row) : Option Bool := (haulagelaw13_same.f k a1.Key a8.Key).bind fun t31 => if t31 = true then ((haulagelaw13_same.f k a1.Value a8.Value).bind fun t39 => if t39 = true then (some (decide (a1.Rev = a8.Rev))) else (some false)) else (some false)
/-! haulage/haulagelaw13.sameAnswer -/
def haulagelaw13_sameAnswer.f (k : Nat) (a1 : api_Answer) (a8 : api_Answer) : Option Bool := if (a1.Done == a8.Done) = true then ((haulagelaw13_same.f k a1.Key a8.Key).bind fun t32 => if t32 = true then ((haulagelaw13_same.f k a1.Value a8.Value).bind fun t40 => if t40 = true then (if a1.Rev = a8.Rev then (some (decide (a1.At = a8.At))) else (some false)) else (some false)) else (some false)) else (some false)
/-! haulage/haulagelaw13.round -/
def haulagelaw13_round.f (a1 : Int) (a2 : Int) : Option Int := if ¬ a2 = 0 then (if (Int.tmod a1 a2) < 0 then (some (IntKind.i64.wrap ((Int.tmod a1 a2) + a2))) else (some (Int.tmod a1 a2))) else none
/-! haulage/haulagelaw13.put -/
def haulagelaw13_put.f (a1 : List Int) (a5 : List Int) : Option api_Op := some (api_Op.mk 2 a1 a5 0)
/-! haulage/haulagelaw13.get -/
def haulagelaw13_get.f (a1 : List Int) : Option api_Op := some (api_Op.mk 1 a1 [] 0)
/-! haulage/haulagelaw13.writes -/
def haulagelaw13_writes.f (a1 : api_Op) : Option Bool := if a1.Kind = 2 then (some true) else (if a1.Kind = 3 then (some true) else (some (decide (a1.Kind = 4))))
/-! haulage/haulagelaw13.comes -/
def haulagelaw13_comes.j1 (a1 : List Int) (a5 : List Int) (i12 : Int) (b26 : Bool) : Option (Ctl Int (Sum Unit Bool)) := if b26 = true then (if 0 ≤ i12 ∧ i12 < (a1.length : Int) then (if 0 ≤ i12 ∧ i12 < (a5.length : Int) then (if (rd a1 i12) = (rd a5 i12) then (some (.next (IntKind.i64.wrap (i12 + 1)))) else (if 0 ≤ i12 ∧ i12 < (a1.length : Int) then (if 0 ≤ i12 ∧ i12 < (a5.length : Int) then (some (.done (.inr (decide ((rd a1 i12) < (rd a5 i12)))))) else none) else none)) else none) else none) else (some (.done (.inl ())))
def haulagelaw13_comes.j3 (a1 : List Int) (a5 : List Int) : Option Bool := some (decide ((a1.length : Int) < (a5.length : Int)))
def haulagelaw13_comes.b2 (a1 : List Int) (a5 : List Int) (i12 : Int) : Option (Ctl Int (Sum Unit Bool)) := if i12 < (a1.length : Int) then (haulagelaw13_comes.j1 a1 a5 i12 (decide (i12 < (a5.length : Int)))) else (haulagelaw13_comes.j1 a1 a5 i12 false)
def haulagelaw13_comes.f (k : Nat) (a1 : List Int) (a5 : List Int) : Option Bool := (loop (fun (s_ : Int) => haulagelaw13_comes.b2 a1 a5 s_) k 0).bind fun x_ => match x_ with | .inl y_ => haulagelaw13_comes.j3 a1 a5 | .inr q_ => some q_
/-! haulage/haulagelaw13.made -/
def haulagelaw13_made.j2 (o111 : Option Tab) : Option (Option Tab) := some o111
def haulagelaw13_made.b1 (k : Nat) (a1 : List api_Op) (o64 : Option Tab) (i65 : Int) : Option (Ctl ((Option Tab) × Int) (Option Tab)) := if i65 < (a1.length : Int) then (if 0 ≤ i65 ∧ i65 < (a1.length : Int) then ((table_Table_Do.f k o64 (rd a1 i65)).bind fun t48 => some (.next (t48.2.2, IntKind.i64.wrap (i65 + 1)))) else none) else (some (.done o64))
def haulagelaw13_made.f (k : Nat) (a1 : List api_Op) : Option (Option Tab) := (table_New.f).bind fun t8 => (loop (fun (s_ : (Option Tab) × Int) => haulagelaw13_made.b1 k a1 s_.1 s_.2) k (t8, 0)).bind fun x_ => haulagelaw13_made.j2 x_
/-! haulage/haulagelaw13.awake -/
def haulagelaw13_awake.f (k : Nat) : Option Bool := (table_New.f).bind fun t3 => (haulagelaw13_put.f [97] [49]).bind fun t27 => (table_Table_Do.f k t3 t27).bind fun t40 => (haulagelaw13_put.f [97] [50]).bind fun t79 => (table_Table_Do.f k t40.2.2 t79).bind fun t92 => (haulagelaw13_get.f [97]).bind fun t124 => (table_Table_Do.f k t92.2.2 t124).bind fun t137 => (table_Table_Do.f k t137.2.2 (api_Op.mk 0 [] [] 0)).bind fun t162 => if t40.2.1 = 0 then (if t92.2.1 = 0 then (if t137.2.1 = 0 then (if t162.2.1 = 131 then (if t40.1.Done = true then (if t40.1.At = 1 then (if t92.1.Rev = 1 then ((haulagelaw13_same.f k t92.1.Value [49]).bind fun t201 => if t201 = true then (if t137.1.Done = true then (if t137.1.Rev = 2 then ((haulagelaw13_same.f k t137.1.Value [50]).bind fun t218 => if t218 = true then ((table_Table_Bytes.f k t162.2.2).bind fun t226 => (haulagelaw13_same.f k t226 [2, 1, 1, 97, 1, 50, 2]).bind fun t243 => some t243) else (some false)) else (some false)) else (some false)) else (some false)) else (some false)) else (some false)) else (some false)) else (some false)) else (some false)) else (some false)) else (some false)
/-! haulage/haulagelaw13.TableSwaps -/
def haulagelaw13_TableSwaps.j2 (t135 : api_Answer × Int × (Option Tab)) (b214 : Bool) (i215 : Int) (b306 : Bool) : Option (Ctl ((Option Tab) × Bool × Int) ((Option Tab) × Bool)) := if b306 = true then (some (.next (t135.2.2, b214, IntKind.i64.wrap (i215 + 1)))) else (if b214 = true then (some (.next (t135.2.2, true, IntKind.i64.wrap (i215 + 1)))) else (some (.next (t135.2.2, t135.1.Done, IntKind.i64.wrap (i215 + 1)))))
def haulagelaw13_TableSwaps.j4 (k : Nat) (a5 : List Int) (a9 : List Int) (t53 : api_Answer × Int × (Option Tab)) (o318 : Option Tab) (b319 : Bool) : Option Bool := (table_Table_Do.f k o318 (api_Op.mk 4 a5 a9 t53.1.Rev)).bind fun t335 => if t335.2.1 = 0 then ((haulagelaw13_get.f a5).bind fun t364 => (table_Table_Do.f k t335.2.2 t364).bind fun t377 => if t377.2.1 = 0 then (if t335.1.Done = true then (if t377.1.Done = true then ((haulagelaw13_same.f k t377.1.Value a9).bind fun t410 => if t410 = true then (if t377.1.Rev = t335.1.At then (if b319 = true then (if t53.1.Done = true then (some false) else (some (decide (t53.1.Rev = 0)))) else (some true)) else (some false)) else (some false)) else (some false)) else (if b319 = true then (if t377.1.Rev = t335.1.Rev then ((haulagelaw13_same.f k t377.1.Value t335.1.Value).bind fun t424 => if t424 = true then (if 0 < t53.1.Rev then (some true) else (some t377.1.Done)) else (some false)) else (some false)) else (some false))) else (some false)) else (some (decide (256 < (a9.length : Int))))
def haulagelaw13_TableSwaps.b3 (k : Nat) (a5 : List Int) (a13 : List api_Op) (o213 : Option Tab) (b214 : Bool) (i215 : Int) : Option (Ctl ((Option Tab) × Bool × Int) ((Option Tab) × Bool)) := if i215 < (a13.length : Int) then (if 0 ≤ i215 ∧ i215 < (a13.length : Int) then ((table_Table_Do.f k o213 (rd a13 i215)).bind fun t135 => if t135.2.1 = 0 then (if 0 ≤ i215 ∧ i215 < (a13.length : Int) then ((haulagelaw13_writes.f (rd a13 i215)).bind fun t176 => if t176 = true then (if 0 ≤ i215 ∧ i215 < (a13.length : Int) then ((haulagelaw13_same.f k ((rd a13 i215).Key) a5).bind fun t198 => haulagelaw13_TableSwaps.j2 t135 b214 i215 (!t198)) else none) else (haulagelaw13_TableSwaps.j2 t135 b214 i215 true)) else none) else (haulagelaw13_TableSwaps.j2 t135 b214 i215 true)) else none) else (some (.done (o213, b214)))
def haulagelaw13_TableSwaps.f (k : Nat) (a1 : List api_Op) (a5 : List Int) (a9 : List Int) (a13 : List api_Op) : Option Bool := (haulagelaw13_awake.f k).bind fun t20 => if t20 = true then ((haulagelaw13_made.f k a1).bind fun t30 => (haulagelaw13_get.f a5).bind fun t40 => (table_Table_Do.f k t30 t40).bind fun t53 => if t53.2.1 = 0 then ((loop (fun (s_ : (Option Tab) × Bool × Int) => haulagelaw13_TableSwaps.b3 k a5 a13 s_.1 s_.2.1 s_.2.2) k (t53.2.2, false, 0)).bind fun x_ => haulagelaw13_TableSwaps.j4 k a5 a9 t53 x_.1 x_.2) else ((haulagelaw13_get.f a5).bind fun t81 => (table_Right.f t81).bind fun t94 => some (!t94))) else (some false)
/-! haulage/haulagelaw13.TableCopies -/
def haulagelaw13_TableCopies.j4 (k : Nat) (a9 : List api_Op) (o143 : Option Tab) (i144 : Int) (o195 : Option Tab) : Option (Ctl ((Option Tab) × (Option Tab) × Int) ((Option Tab) × (Option Tab))) := if i144 < (a9.length : Int) then (if 0 ≤ i144 ∧ i144 < (a9.length : Int) then ((table_Table_Do.f k o143 (rd a9 i144)).bind fun t124 => some (.next (o195, t124.2.2, IntKind.i64.wrap (i144 + 1)))) else none) else (some (.next (o195, o143, IntKind.i64.wrap (i144 + 1))))
def haulagelaw13_TableCopies.j3 (k : Nat) (a5 : List api_Op) (a9 : List api_Op) (o140 : Option Tab) (o143 : Option Tab) (i144 : Int) (b158 : Bool) : Option (Ctl ((Option Tab) × (Option Tab) × Int) ((Option Tab) × (Option Tab))) := if b158 = true then (if i144 < (a5.length : Int) then (if 0 ≤ i144 ∧ i144 < (a5.length : Int) then ((table_Table_Do.f k o140 (rd a5 i144)).bind fun t88 => haulagelaw13_TableCopies.j4 k a9 o143 i144 t88.2.2) else none) else (haulagelaw13_TableCopies.j4 k a9 o143 i144 o140)) else (some (.done (o140, o143)))
def haulagelaw13_TableCopies.j6 (k : Nat) (a1 : List api_Op) (a5 : List api_Op) (a9 : List api_Op) (o235 : Option Tab) (o237 : Option Tab) : Option Bool := if a1.length * 64 ≤ 140737488355328 then (if (([] ++ a1).length + a5.length) * 64 ≤ 140737488355328 then ((haulagelaw13_made.f k (([] ++ a1) ++ a5)).bind fun t265 => if a1.length * 64 ≤ 140737488355328 then (if (([] ++ a1).length + a9.length) * 64 ≤ 140737488355328 then ((haulagelaw13_made.f k (([] ++ a1) ++ a9)).bind fun t298 => (table_Table_Bytes.f k o235).bind fun t308 => (table_Table_Bytes.f k t265).bind fun t318 => (haulagelaw13_same.f k t308 t318).bind fun t328 => if t328 = true then ((table_Table_Bytes.f k o237).bind fun t336 => (table_Table_Bytes.f k t298).bind fun t346 => (haulagelaw13_same.f k t336 t346).bind fun t356 => some t356) else (some false)) else none) else none) else none) else none
def haulagelaw13_TableCopies.b5 (k : Nat) (a5 : List api_Op) (a9 : List api_Op) (o140 : Option Tab) (o143 : Option Tab) (i144 : Int) : Option (Ctl ((Option Tab) × (Option Tab) × Int) ((Option Tab) × (Option Tab))) := if i144 < (a5.length : Int) then (haulagelaw13_TableCopies.j3 k a5 a9 o140 o143 i144 true) else (haulagelaw13_TableCopies.j3 k a5 a9 o140 o143 i144 (decide (i144 < (a9.length : Int))))
def haulagelaw13_TableCopies.f (k : Nat) (a1 : List api_Op) (a5 : List api_Op) (a9 : List api_Op) : Option Bool := (haulagelaw13_awake.f k).bind fun t16 => if t16 = true then ((haulagelaw13_made.f k a1).bind fun t26 => (table_Table_Copy.f t26).bind fun t36 => if (Option.isNone t36) = true then (some false) else ((loop (fun (s_ : (Option Tab) × (Option Tab) × Int) => haulagelaw13_TableCopies.b5 k a5 a9 s_.1 s_.2.1 s_.2.2) k (t26, t36, 0)).bind fun x_ => haulagelaw13_TableCopies.j6 k a1 a5 a9 x_.1 x_.2)) else (some false)
/-! haulage/haulagelaw13.TablePlace -/
def haulagelaw13_TablePlace.j4 (t63 : api_Answer × Int × (Option Tab)) (l274 : List api_Op) (l278 : List api_Answer) (l282 : List api_Op) (i286 : Int) (b366 : Bool) : Option (Ctl ((Option Tab) × (List api_Op) × (List api_Answer) × (List api_Op) × Int) (Sum ((Option Tab) × (List api_Op) × (List api_Answer) × (List api_Op)) Bool)) := if b366 = true then (some (.done (.inr false))) else (some (.next (t63.2.2, l274, l278, l282, IntKind.i64.wrap (i286 + 1))))
def haulagelaw13_TablePlace.j6 (a1 : List api_Op) (t63 : api_Answer × Int × (Option Tab)) (l278 : List api_Answer) (l282 : List api_Op) (i286 : Int) (l425 : List api_Op) (b457 : Bool) : Option (Ctl ((Option Tab) × (List api_Op) × (List api_Answer) × (List api_Op) × Int) (Sum ((Option Tab) × (List api_Op) × (List api_Answer) × (List api_Op)) Bool)) := if b457 = true then (some (.done (.inr false))) else (if (l278.length + [t63.1].length) * 72 ≤ 140737488355328 then (if 0 ≤ i286 ∧ i286 < (a1.length : Int) then (if (l282.length + [(rd a1 i286)].length) * 64 ≤ 140737488355328 then (some (.next (t63.2.2, l425, (l278 ++ [t63.1]), (l282 ++ [(rd a1 i286)]), IntKind.i64.wrap (i286 + 1)))) else none) else none) else none)
def haulagelaw13_TablePlace.j5 (a1 : List api_Op) (t63 : api_Answer × Int × (Option Tab)) (l278 : List api_Answer) (l282 : List api_Op) (i286 : Int) (l425 : List api_Op) : Option (Ctl ((Option Tab) × (List api_Op) × (List api_Answer) × (List api_Op) × Int) (Sum ((Option Tab) × (List api_Op) × (List api_Answer) × (List api_Op)) Bool)) := if t63.1.At = (l425.length : Int) then ((table_Table_Rev.f t63.2.2).bind fun t191 => if t191 = (l425.length : Int) then (if 0 ≤ i286 ∧ i286 < (a1.length : Int) then ((table_Right.f (rd a1 i286)).bind fun t213 => haulagelaw13_TablePlace.j6 a1 t63 l278 l282 i286 l425 (!t213)) else none) else (haulagelaw13_TablePlace.j6 a1 t63 l278 l282 i286 l425 true)) else (haulagelaw13_TablePlace.j6 a1 t63 l278 l282 i286 l425 true)
def haulagelaw13_TablePlace.j9 (k : Nat) (l525 : List api_Op) (l529 : List api_Answer) (l533 : List api_Op) (t551 : Int) (i597 : Int) : Option Bool := if 0 ≤ i597 ∧ i597 ≤ (l525.length : Int) then ((haulagelaw13_made.f k (l525.take i597.toNat)).bind fun t607 => if 0 ≤ t551 ∧ t551 < (l533.length : Int) then ((table_Table_Do.f k t607 (rd l533 t551)).bind fun t631 => if t631.2.1 = 0 then (if 0 ≤ t551 ∧ t551 < (l529.length : Int) then ((haulagelaw13_sameAnswer.f k t631.1 (rd l529 t551)).bind fun t673 => some t673) else none) else (some false)) else none) else none
def haulagelaw13_TablePlace.j8 (k : Nat) (a5 : Int) (o523 : Option Tab) (l525 : List api_Op) (l529 : List api_Answer) (l533 : List api_Op) : Option Bool := if (l533.length : Int) = 0 then ((table_Table_Len.f o523).bind fun t543 => some (decide (t543 = 0))) else ((haulagelaw13_round.f a5 (l533.length : Int)).bind fun t551 => if 0 ≤ t551 ∧ t551 < (l529.length : Int) then (if 0 ≤ t551 ∧ t551 < (l533.length : Int) then ((haulagelaw13_writes.f (rd l533 t551)).bind fun t589 => if t589 = true then (haulagelaw13_TablePlace.j9 k l525 l529 l533 t551 (IntKind.i64.wrap (((rd l529 t551).At) - 1))) else (haulagelaw13_TablePlace.j9 k l525 l529 l533 t551 ((rd l529 t551).At))) else none) else none)
def haulagelaw13_TablePlace.b7 (k : Nat) (a1 : List api_Op) (o273 : Option Tab) (l274 : List api_Op) (l278 : List api_Answer) (l282 : List api_Op) (i286 : Int) : Option (Ctl ((Option Tab) × (List api_Op) × (List api_Answer) × (List api_Op) × Int) (Sum ((Option Tab) × (List api_Op) × (List api_Answer) × (List api_Op)) Bool)) := if i286 < (a1.length : Int) then (if 0 ≤ i286 ∧ i286 < (a1.length : Int) then ((table_Table_Do.f k o273 (rd a1 i286)).bind fun t63 => if t63.2.1 = 0 then (if 0 ≤ i286 ∧ i286 < (a1.length : Int) then ((haulagelaw13_writes.f (rd a1 i286)).bind fun t144 => if t144 = true then (if 0 ≤ i286 ∧ i286 < (a1.length : Int) then (if (l274.length + [(rd a1 i286)].length) * 64 ≤ 140737488355328 then (haulagelaw13_TablePlace.j5 a1 t63 l278 l282 i286 (l274 ++ [(rd a1 i286)])) else none) else none) else (haulagelaw13_TablePlace.j5 a1 t63 l278 l282 i286 l274)) else none) else (if 0 ≤ i286 ∧ i286 < (a1.length : Int) then ((table_Right.f (rd a1 i286)).bind fun t106 => if t106 = true then (haulagelaw13_TablePlace.j4 t63 l274 l278 l282 i286 true) else (if t63.2.1 = 131 then ((haulagelaw13_sameAnswer.f k t63.1 (api_Answer.mk false [] [] 0 0)).bind fun t115 => haulagelaw13_TablePlace.j4 t63 l274 l278 l282 i286 (!t115)) else (haulagelaw13_TablePlace.j4 t63 l274 l278 l282 i286 true))) else none)) else none) else (some (.done (.inl (o273, l274, l278, l282))))
def haulagelaw13_TablePlace.f (k : Nat) (a1 : List api_Op) (a5 : Int) : Option Bool := (haulagelaw13_awake.f k).bind fun t9 => if t9 = true then ((table_New.f).bind fun t19 => (loop (fun (s_ : (Option Tab) × (List api_Op) × (List api_Answer) × (List api_Op) × Int) => haulagelaw13_TablePlace.b7 k a1 s_.1 s_.2.1 s_.2.2.1 s_.2.2.2.1 s_.2.2.2.2) k (t19, [], [], [], 0)).bind fun x_ => match x_ with | .inl y_ => haulagelaw13_TablePlace.j8 k a5 y_.1 y_.2.1 y_.2.2.1 y_.2.2.2 | .inr q_ => some q_) else (some false)
/-! haulage/haulagelaw13.TableWalk -/
def haulagelaw13_TableWalk.j2 (k : Nat) (t28 : (List api_Row)) (t68 : api_Answer × Int × (Option Tab)) (i182 : Int) (b228 : Bool) : Option (Ctl ((Option Tab) × (List Int) × Int) (Sum Unit Bool)) := if b228 = true then (some (.done (.inr false))) else (if i182 = (t28.length : Int) then (if (t68.1.Key.length : Int) = 0 then (if (t68.1.Value.length : Int) = 0 then (some (.done (.inr (decide (t68.1.Rev = 0))))) else (some (.done (.inr false)))) else (some (.done (.inr false)))) else (if 0 ≤ i182 ∧ i182 < (t28.length : Int) then ((haulagelaw13_sameRow.f k (api_Row.mk t68.1.Key t68.1.Value t68.1.Rev) (rd t28 i182)).bind fun t135 => if t135 = true then (if t68.1.Key.length * 1 ≤ 140737488355328 then (if (([] ++ t68.1.Key).length + [0].length) * 1 ≤ 140737488355328 then (some (.next (t68.2.2, (([] ++ t68.1.Key) ++ [0]), IntKind.i64.wrap (i182 + 1)))) else none) else none) else (some (.done (.inr false)))) else none))
def haulagelaw13_TableWalk.j4 : Option Bool := some true
def haulagelaw13_TableWalk.b3 (k : Nat) (t28 : (List api_Row)) (o177 : Option Tab) (l178 : List Int) (i182 : Int) : Option (Ctl ((Option Tab) × (List Int) × Int) (Sum Unit Bool)) := if i182 ≤ (t28.length : Int) then ((table_Table_Do.f k o177 (api_Op.mk 5 l178 [] 0)).bind fun t68 => if t68.2.1 = 0 then ((table_Table_Rev.f t68.2.2).bind fun t97 => if t68.1.At = t97 then (haulagelaw13_TableWalk.j2 k t28 t68 i182 (!(t68.1.Done == (decide (i182 < (t28.length : Int)))))) else (haulagelaw13_TableWalk.j2 k t28 t68 i182 true)) else (haulagelaw13_TableWalk.j2 k t28 t68 i182 true)) else (some (.done (.inl ())))
def haulagelaw13_TableWalk.f (k : Nat) (a1 : List api_Op) : Option Bool := (haulagelaw13_awake.f k).bind fun t8 => if t8 = true then ((haulagelaw13_made.f k a1).bind fun t18 => (table_Table_Rows.f t18).bind fun t28 => (loop (fun (s_ : (Option Tab) × (List Int) × Int) => haulagelaw13_TableWalk.b3 k t28 s_.1 s_.2.1 s_.2.2) k (t18, [], 0)).bind fun x_ => match x_ with | .inl y_ => haulagelaw13_TableWalk.j4 | .inr q_ => some q_) else (some false)
/-! haulage/haulagelaw13.TableMap -/
def haulagelaw13_TableMap.b8 (k : Nat) (a1 : List api_Op) (l273 : List api_Row) (i278 : Int) (i352 : Int) (i353 : Int) : Option (Ctl (Int × Int) Int) := if i353 < (l273.length : Int) then (if 0 ≤ i353 ∧ i353 < (l273.length : Int) then ((haulagelaw13_same.f k ((rd l273 i353).Key) ((rd a1 i278).Key)).bind fun t385 => if t385 = true then (some (.next (i353, IntKind.i64.wrap (i353 + 1)))) else (some (.next (i352, IntKind.i64.wrap (i353 + 1))))) else none) else (some (.done i352))
def haulagelaw13_TableMap.j12 (a1 : List api_Op) (t73 : api_Answer × Int × (Option Tab)) (i277 : Int) (i278 : Int) (l420 : List api_Row) (i421 : Int) (b477 : Bool) : Option (Ctl ((Option Tab) × (List api_Row) × Int × Int) (Sum ((Option Tab) × (List api_Row) × Int) Bool)) := if (t73.1.Done == b477) = true then (if ((rd a1 i278).Kind) = 3 then (if 0 ≤ i421 ∧ i421 < (l420.length : Int) then (some (.next (t73.2.2, (l420.set i421.toNat (api_Row.mk ((rd l420 i421).Key) ((rd l420 i421).Value) 0)), IntKind.i64.wrap (i277 + 1), IntKind.i64.wrap (i278 + 1)))) else none) else (if b477 = true then (if 0 ≤ i421 ∧ i421 < (l420.length : Int) then (some (.next (t73.2.2, (l420.set i421.toNat (api_Row.mk ((rd a1 i278).Key) ((rd a1 i278).Value) (IntKind.i64.wrap (i277 + 1)))), IntKind.i64.wrap (i277 + 1), IntKind.i64.wrap (i278 + 1)))) else none) else (some (.next (t73.2.2, l420, IntKind.i64.wrap (i277 + 1), IntKind.i64.wrap (i278 + 1)))))) else (some (.done (.inr false)))
def haulagelaw13_TableMap.j11 (a1 : List api_Op) (t73 : api_Answer × Int × (Option Tab)) (i277 : Int) (i278 : Int) (l420 : List api_Row) (i421 : Int) (b465 : Bool) : Option (Ctl ((Option Tab) × (List api_Row) × Int × Int) (Sum ((Option Tab) × (List api_Row) × Int) Bool)) := if b465 = true then (some (.done (.inr false))) else (if ((rd a1 i278).Kind) = 2 then (haulagelaw13_TableMap.j12 a1 t73 i277 i278 l420 i421 true) else (if ((rd a1 i278).Kind) = 3 then (if 0 < t73.1.Rev then (haulagelaw13_TableMap.j12 a1 t73 i277 i278 l420 i421 true) else (if ((rd a1 i278).Kind) = 4 then (haulagelaw13_TableMap.j12 a1 t73 i277 i278 l420 i421 (decide (t73.1.Rev = ((rd a1 i278).Rev)))) else (haulagelaw13_TableMap.j12 a1 t73 i277 i278 l420 i421 false))) else (if ((rd a1 i278).Kind) = 4 then (haulagelaw13_TableMap.j12 a1 t73 i277 i278 l420 i421 (decide (t73.1.Rev = ((rd a1 i278).Rev)))) else (haulagelaw13_TableMap.j12 a1 t73 i277 i278 l420 i421 false))))
def haulagelaw13_TableMap.j10 (k : Nat) (a1 : List api_Op) (t73 : api_Answer × Int × (Option Tab)) (i277 : Int) (i278 : Int) (l420 : List api_Row) (i421 : Int) : Option (Ctl ((Option Tab) × (List api_Row) × Int × Int) (Sum ((Option Tab) × (List api_Row) × Int) Bool)) := if 0 ≤ i421 ∧ i421 < (l420.length : Int) then (if t73.1.Rev = ((rd l420 i421).Rev) then (if 0 < t73.1.Rev then (if 0 ≤ i421 ∧ i421 < (l420.length : Int) then ((haulagelaw13_same.f k t73.1.Value ((rd l420 i421).Value)).bind fun t202 => if t202 = true then (haulagelaw13_TableMap.j11 a1 t73 i277 i278 l420 i421 (!((decide (0 < (t73.1.Key.length : Int))) == (decide (0 < t73.1.Rev))))) else (haulagelaw13_TableMap.j11 a1 t73 i277 i278 l420 i421 true)) else none) else (haulagelaw13_TableMap.j11 a1 t73 i277 i278 l420 i421 (!((decide (0 < (t73.1.Key.length : Int))) == (decide (0 < t73.1.Rev)))))) else (haulagelaw13_TableMap.j11 a1 t73 i277 i278 l420 i421 true)) else none
def haulagelaw13_TableMap.j9 (k : Nat) (a1 : List api_Op) (t73 : api_Answer × Int × (Option Tab)) (l273 : List api_Row) (i277 : Int) (i278 : Int) (i395 : Int) : Option (Ctl ((Option Tab) × (List api_Row) × Int × Int) (Sum ((Option Tab) × (List api_Row) × Int) Bool)) := if i395 < 0 then (if (l273.length + [api_Row.mk ((rd a1 i278).Key) [] 0].length) * 56 ≤ 140737488355328 then (haulagelaw13_TableMap.j10 k a1 t73 i277 i278 (l273 ++ [api_Row.mk ((rd a1 i278).Key) [] 0]) (IntKind.i64.wrap (((l273 ++ [api_Row.mk ((rd a1 i278).Key) [] 0]).length : Int) - 1))) else none) else (haulagelaw13_TableMap.j10 k a1 t73 i277 i278 l273 i395)
def haulagelaw13_TableMap.j7 (k : Nat) (a1 : List api_Op) (t73 : api_Answer × Int × (Option Tab)) (l273 : List api_Row) (i277 : Int) (i278 : Int) (b343 : Bool) : Option (Ctl ((Option Tab) × (List api_Row) × Int × Int) (Sum ((Option Tab) × (List api_Row) × Int) Bool)) := if b343 = true then (some (.next (t73.2.2, l273, i277, IntKind.i64.wrap (i278 + 1)))) else ((loop (fun (s_ : Int × Int) => haulagelaw13_TableMap.b8 k a1 l273 i278 s_.1 s_.2) k ((-1), 0)).bind fun x_ => haulagelaw13_TableMap.j9 k a1 t73 l273 i277 i278 x_)
def haulagelaw13_TableMap.b15 (k : Nat) (l537 : List api_Row) (t545 : (List api_Row)) (i559 : Int) (b595 : Bool) (i596 : Int) : Option (Ctl (Bool × Int) Bool) := if i596 < (t545.length : Int) then (if b595 = true then (some (.next (true, IntKind.i64.wrap (i596 + 1)))) else (if 0 ≤ i596 ∧ i596 < (t545.length : Int) then (if 0 ≤ i559 ∧ i559 < (l537.length : Int) then ((haulagelaw13_sameRow.f k (rd t545 i596) (rd l537 i559)).bind fun t642 => some (.next (t642, IntKind.i64.wrap (i596 + 1)))) else none) else none)) else (some (.done b595))
def haulagelaw13_TableMap.j16 (i558 : Int) (i559 : Int) (b651 : Bool) : Option (Ctl (Int × Int) (Sum Int Bool)) := if b651 = true then (some (.next (IntKind.i64.wrap (i558 + 1), IntKind.i64.wrap (i559 + 1)))) else (some (.done (.inr false)))
def haulagelaw13_TableMap.b17 (k : Nat) (l537 : List api_Row) (t545 : (List api_Row)) (i558 : Int) (i559 : Int) : Option (Ctl (Int × Int) (Sum Int Bool)) := if i559 < (l537.length : Int) then (if 0 ≤ i559 ∧ i559 < (l537.length : Int) then (if ((rd l537 i559).Rev) = 0 then (some (.next (i558, IntKind.i64.wrap (i559 + 1)))) else ((loop (fun (s_ : Bool × Int) => haulagelaw13_TableMap.b15 k l537 t545 i559 s_.1 s_.2) k (false, 0)).bind fun x_ => haulagelaw13_TableMap.j16 i558 i559 x_)) else none) else (some (.done (.inl i558)))
def haulagelaw13_TableMap.b19 (k : Nat) (t545 : (List api_Row)) (i666 : Int) : Option (Ctl Int (Sum Unit Bool)) := if i666 < (t545.length : Int) then (if 0 ≤ (IntKind.i64.wrap (i666 - 1)) ∧ (IntKind.i64.wrap (i666 - 1)) < (t545.length : Int) then (if 0 ≤ i666 ∧ i666 < (t545.length : Int) then ((haulagelaw13_comes.f k ((rd t545 (IntKind.i64.wrap (i666 - 1))).Key) ((rd t545 i666).Key)).bind fun t712 => if t712 = true then (some (.next (IntKind.i64.wrap (i666 + 1)))) else (some (.done (.inr false)))) else none) else none) else (some (.done (.inl ())))
def haulagelaw13_TableMap.j20 (o535 : Option Tab) (i540 : Int) (t545 : (List api_Row)) (i660 : Int) : Option Bool := if (t545.length : Int) = i660 then ((table_Table_Len.f o535).bind fun t727 => if t727 = i660 then ((table_Table_Rev.f o535).bind fun t735 => some (decide (t735 = i540))) else (some false)) else (some false)
def haulagelaw13_TableMap.j18 (k : Nat) (o535 : Option Tab) (i540 : Int) (t545 : (List api_Row)) (i660 : Int) : Option Bool := (loop (fun (s_ : Int) => haulagelaw13_TableMap.b19 k t545 s_) k 1).bind fun x_ => match x_ with | .inl y_ => haulagelaw13_TableMap.j20 o535 i540 t545 i660 | .inr q_ => some q_
def haulagelaw13_TableMap.j14 (k : Nat) (o535 : Option Tab) (l537 : List api_Row) (i540 : Int) : Option Bool := (table_Table_Rows.f o535).bind fun t545 => (loop (fun (s_ : Int × Int) => haulagelaw13_TableMap.b17 k l537 t545 s_.1 s_.2) k (0, 0)).bind fun x_ => match x_ with | .inl y_ => haulagelaw13_TableMap.j18 k o535 i540 t545 y_ | .inr q_ => some q_
def haulagelaw13_TableMap.b13 (k : Nat) (a1 : List api_Op) (o272 : Option Tab) (l273 : List api_Row) (i277 : Int) (i278 : Int) : Option (Ctl ((Option Tab) × (List api_Row) × Int × Int) (Sum ((Option Tab) × (List api_Row) × Int) Bool)) := if i278 < (a1.length : Int) then (if 0 ≤ i278 ∧ i278 < (a1.length : Int) then ((table_Table_Do.f k o272 (rd a1 i278)).bind fun t73 => if t73.2.1 = 0 then ((haulagelaw13_writes.f (rd a1 i278)).bind fun t100 => haulagelaw13_TableMap.j7 k a1 t73 l273 i277 i278 (!t100)) else (haulagelaw13_TableMap.j7 k a1 t73 l273 i277 i278 true)) else none) else (some (.done (.inl (o272, l273, i277))))
def haulagelaw13_TableMap.f (k : Nat) (a1 : List api_Op) : Option Bool := (haulagelaw13_awake.f k).bind fun t8 => if t8 = true then ((table_New.f).bind fun t18 => (loop (fun (s_ : (Option Tab) × (List api_Row) × Int × Int) => haulagelaw13_TableMap.b13 k a1 s_.1 s_.2.1 s_.2.2.1 s_.2.2.2) k (t18, [], 0, 0)).bind fun x_ => match x_ with | .inl y_ => haulagelaw13_TableMap.j14 k y_.1 y_.2.1 y_.2.2 | .inr q_ => some q_) else (some false)
/-! haulage/haulagelaw13.TableBack -/
def haulagelaw13_TableBack.j3 (i80 : Int) (b117 : Bool) : Option (Ctl Int (Sum Unit Bool)) := if b117 = true then (some (.done (.inr false))) else (some (.next (IntKind.i64.wrap (i80 + 1))))
def haulagelaw13_TableBack.j2 (k : Nat) (t33 : (List Int)) (i80 : Int) (b94 : Bool) : Option (Ctl Int (Sum Unit Bool)) := if b94 = true then (if 0 ≤ i80 ∧ i80 ≤ (t33.length : Int) then ((table_Read.f k (t33.take i80.toNat)).bind fun t106 => if t106.2 = 130 then (haulagelaw13_TableBack.j3 i80 (!Option.isNone t106.1)) else (haulagelaw13_TableBack.j3 i80 true)) else none) else (some (.done (.inl ())))
def haulagelaw13_TableBack.b4 (k : Nat) (t33 : (List Int)) (i80 : Int) : Option (Ctl Int (Sum Unit Bool)) := if i80 < (t33.length : Int) then (haulagelaw13_TableBack.j2 k t33 i80 (decide (i80 < 40))) else (haulagelaw13_TableBack.j2 k t33 i80 false)
def haulagelaw13_TableBack.j8 (t230 : api_Answer × Int × (Option Tab)) (t269 : api_Answer × Int × (Option Tab)) (i325 : Int) (b444 : Bool) : Option (Ctl ((Option Tab) × (Option Tab) × Int) (Sum ((Option Tab) × (Option Tab)) Bool)) := if b444 = true then (some (.done (.inr false))) else (some (.next (t230.2.2, t269.2.2, IntKind.i64.wrap (i325 + 1))))
def haulagelaw13_TableBack.b9 (k : Nat) (a5 : List api_Op) (o321 : Option Tab) (o324 : Option Tab) (i325 : Int) : Option (Ctl ((Option Tab) × (Option Tab) × Int) (Sum ((Option Tab) × (Option Tab)) Bool)) := if i325 < (a5.length : Int) then (if 0 ≤ i325 ∧ i325 < (a5.length : Int) then ((table_Table_After.f k o321 (rd a5 i325)).bind fun t208 => if 0 ≤ i325 ∧ i325 < (a5.length : Int) then ((table_Table_Do.f k o321 (rd a5 i325)).bind fun t230 => if 0 ≤ i325 ∧ i325 < (a5.length : Int) then ((table_Table_Do.f k o324 (rd a5 i325)).bind fun t269 => if t230.2.1 = t269.2.1 then (if t208.2 = t230.2.1 then ((haulagelaw13_sameAnswer.f k t230.1 t269.1).bind fun t296 => if t296 = true then (if t230.2.1 = 0 then ((table_Table_Size.f k t230.2.2).bind fun t305 => if t208.1 = t305 then (haulagelaw13_TableBack.j8 t230 t269 i325 false) else (haulagelaw13_TableBack.j8 t230 t269 i325 true)) else (haulagelaw13_TableBack.j8 t230 t269 i325 (!decide (t208.1 = 0)))) else (haulagelaw13_TableBack.j8 t230 t269 i325 true)) else (haulagelaw13_TableBack.j8 t230 t269 i325 true)) else (haulagelaw13_TableBack.j8 t230 t269 i325 true)) else none) else none) else none) else (some (.done (.inl (o321, o324))))
def haulagelaw13_TableBack.j10 (k : Nat) (o458 : Option Tab) (o460 : Option Tab) : Option Bool := (table_Table_Bytes.f k o458).bind fun t465 => (table_Table_Bytes.f k o460).bind fun t475 => (haulagelaw13_same.f k t465 t475).bind fun t485 => some t485
def haulagelaw13_TableBack.j6 (k : Nat) (a5 : List api_Op) (t23 : (Option Tab)) (t44 : (Option Tab) × Int) (b170 : Bool) : Option Bool := if b170 = true then (some false) else ((loop (fun (s_ : (Option Tab) × (Option Tab) × Int) => haulagelaw13_TableBack.b9 k a5 s_.1 s_.2.1 s_.2.2) k (t23, t44.1, 0)).bind fun x_ => match x_ with | .inl y_ => haulagelaw13_TableBack.j10 k y_.1 y_.2 | .inr q_ => some q_)
def haulagelaw13_TableBack.j5 (k : Nat) (a5 : List api_Op) (a9 : Int) (t23 : (Option Tab)) (t33 : (List Int)) (t44 : (Option Tab) × Int) : Option Bool := if t33.length * 1 ≤ 140737488355328 then (if (([] ++ t33).length + [a9].length) * 1 ≤ 140737488355328 then ((table_Read.f k (([] ++ t33) ++ [a9])).bind fun t158 => if t158.2 = 130 then (haulagelaw13_TableBack.j6 k a5 t23 t44 (!Option.isNone t158.1)) else (haulagelaw13_TableBack.j6 k a5 t23 t44 true)) else none) else none
def haulagelaw13_TableBack.j1 (k : Nat) (a5 : List api_Op) (a9 : Int) (t23 : (Option Tab)) (t33 : (List Int)) (t44 : (Option Tab) × Int) (b72 : Bool) : Option Bool := if b72 = true then (some false) else ((loop (fun (s_ : Int) => haulagelaw13_TableBack.b4 k t33 s_) k 0).bind fun x_ => match x_ with | .inl y_ => haulagelaw13_TableBack.j5 k a5 a9 t23 t33 t44 | .inr q_ => some q_)
def haulagelaw13_TableBack.f (k : Nat) (a1 : List api_Op) (a5 : List api_Op) (a9 : Int) : Option Bool := (haulagelaw13_awake.f k).bind fun t13 => if t13 = true then ((haulagelaw13_made.f k a1).bind fun t23 => (table_Table_Bytes.f k t23).bind fun t33 => (table_Read.f k t33).bind fun t44 => if t44.2 = 0 then (if (Option.isNone t44.1) = true then (haulagelaw13_TableBack.j1 k a5 a9 t23 t33 t44 true) else ((table_Table_Size.f k t23).bind fun t57 => if t57 = (t33.length : Int) then ((table_Table_Size.f k t44.1).bind fun t65 => haulagelaw13_TableBack.j1 k a5 a9 t23 t33 t44 (!decide (t65 = (t33.length : Int)))) else (haulagelaw13_TableBack.j1 k a5 a9 t23 t33 t44 true))) else (haulagelaw13_TableBack.j1 k a5 a9 t23 t33 t44 true)) else (some false)
/-! haulage/haulagelaw13.TableForm -/
def haulagelaw13_TableForm.b3 (t38 : (List api_Row)) (i50 : Int) (i135 : Int) : Option (Ctl Int (Sum Unit (Ctl Int (Sum Unit Bool)))) := if i135 < i50 then (if 0 ≤ i135 ∧ i135 < (t38.length : Int) then (if ((rd t38 i135).Rev) = ((rd t38 i50).Rev) then (some (.done (.inr (.done (.inr false))))) else (some (.next (IntKind.i64.wrap (i135 + 1))))) else none) else (some (.done (.inl ())))
def haulagelaw13_TableForm.j4 (i50 : Int) : Option (Ctl Int (Sum Unit Bool)) := some (.next (IntKind.i64.wrap (i50 + 1)))
def haulagelaw13_TableForm.j2 (k : Nat) (t38 : (List api_Row)) (i50 : Int) (b128 : Bool) : Option (Ctl Int (Sum Unit Bool)) := if b128 = true then (some (.done (.inr false))) else ((loop (fun (s_ : Int) => haulagelaw13_TableForm.b3 t38 i50 s_) k 0).bind fun x_ => match x_ with | .inl y_ => haulagelaw13_TableForm.j4 i50 | .inr q_ => some q_)
def haulagelaw13_TableForm.b5 (k : Nat) (t18 : (Option Tab) × Int) (t38 : (List api_Row)) (i50 : Int) : Option (Ctl Int (Sum Unit Bool)) := if i50 < (t38.length : Int) then (if 0 ≤ i50 ∧ i50 < (t38.length : Int) then (if (((rd t38 i50).Key).length : Int) < 1 then (haulagelaw13_TableForm.j2 k t38 i50 true) else (if 64 < (((rd t38 i50).Key).length : Int) then (haulagelaw13_TableForm.j2 k t38 i50 true) else (if 256 < (((rd t38 i50).Value).length : Int) then (haulagelaw13_TableForm.j2 k t38 i50 true) else (if ((rd t38 i50).Rev) < 1 then (haulagelaw13_TableForm.j2 k t38 i50 true) else ((table_Table_Rev.f t18.1).bind fun t98 => if t98 < ((rd t38 i50).Rev) then (haulagelaw13_TableForm.j2 k t38 i50 true) else (if 0 < i50 then (if 0 ≤ (IntKind.i64.wrap (i50 - 1)) ∧ (IntKind.i64.wrap (i50 - 1)) < (t38.length : Int) then ((haulagelaw13_comes.f k ((rd t38 (IntKind.i64.wrap (i50 - 1))).Key) ((rd t38 i50).Key)).bind fun t121 => haulagelaw13_TableForm.j2 k t38 i50 (!t121)) else none) else (haulagelaw13_TableForm.j2 k t38 i50 false))))))) else none) else (some (.done (.inl ())))
def haulagelaw13_TableForm.j6 (k : Nat) (a1 : List Int) (t18 : (Option Tab) × Int) : Option Bool := (table_Table_Bytes.f k t18.1).bind fun t178 => (haulagelaw13_same.f k t178 a1).bind fun t188 => if t188 = true then ((table_Table_Size.f k t18.1).bind fun t196 => if t196 = (a1.length : Int) then ((table_Table_Rev.f t18.1).bind fun t204 => some (decide (t204 ≤ 1099511627776))) else (some false)) else (some false)
def haulagelaw13_TableForm.j1 (k : Nat) (a1 : List Int) (t18 : (Option Tab) × Int) (b30 : Bool) : Option Bool := if b30 = true then (if t18.2 = 130 then (some (Option.isNone t18.1)) else (some false)) else ((table_Table_Rows.f t18.1).bind fun t38 => (loop (fun (s_ : Int) => haulagelaw13_TableForm.b5 k t18 t38 s_) k 0).bind fun x_ => match x_ with | .inl y_ => haulagelaw13_TableForm.j6 k a1 t18 | .inr q_ => some q_)
def haulagelaw13_TableForm.f (k : Nat) (a1 : List Int) : Option Bool := (haulagelaw13_awake.f k).bind fun t8 => if t8 = true then ((table_Read.f k a1).bind fun t18 => if t18.2 = 0 then (haulagelaw13_TableForm.j1 k a1 t18 (Option.isNone t18.1)) else (haulagelaw13_TableForm.j1 k a1 t18 true)) else (some false)
/-! haulage/haulagelaw13.TableMade -/
def haulagelaw13_TableMade.j3 (t46 : (List api_Row)) (l129 : List Int) (i133 : Int) (b164 : Bool) : Option (Ctl ((List Int) × Int) (List Int)) := if b164 = true then (if 0 ≤ i133 ∧ i133 < (t46.length : Int) then (if (0 : Int) ≤ (IntKind.i64.wrap ((((rd t46 i133).Key).length : Int) + 1)) ∧ ((IntKind.i64.wrap ((((rd t46 i133).Key).length : Int) + 1)) : Int) ≤ (IntKind.i64.wrap ((((rd t46 i133).Key).length : Int) + 1)) ∧ ((IntKind.i64.wrap ((((rd t46 i133).Key).length : Int) + 1)) : Int) * (1 : Nat) ≤ 140737488355328 then (some (.next ((List.replicate (IntKind.i64.wrap ((((rd t46 i133).Key).length : Int) + 1)).toNat (0 : Int)), IntKind.i64.wrap (i133 + 1)))) else none) else none) else (some (.next (l129, IntKind.i64.wrap (i133 + 1))))
def haulagelaw13_TableMade.b4 (t46 : (List api_Row)) (l129 : List Int) (i133 : Int) : Option (Ctl ((List Int) × Int) (List Int)) := if i133 < (t46.length : Int) then (if 0 ≤ i133 ∧ i133 < (t46.length : Int) then (if (l129.length : Int) ≤ (((rd t46 i133).Key).length : Int) then (haulagelaw13_TableMade.j3 t46 l129 i133 (decide ((l129.length : Int) < 64))) else (haulagelaw13_TableMade.j3 t46 l129 i133 false)) else none) else (some (.done l129))
def haulagelaw13_TableMade.b7 (k : Nat) (t46 : (List api_Row)) (l220 : List Int) (i224 : Int) : Option (Ctl ((List Int) × Int) (List Int)) := if i224 < (t46.length : Int) then (if 0 ≤ i224 ∧ i224 < (t46.length : Int) then ((haulagelaw13_same.f k ((rd t46 i224).Key) l220).bind fun t254 => if t254 = true then (some (.next ([1, 2, 3, 4, 5, 6, 7, 8, 9], IntKind.i64.wrap (i224 + 1)))) else (some (.next (l220, IntKind.i64.wrap (i224 + 1))))) else none) else (some (.done l220))
def haulagelaw13_TableMade.b9 (k : Nat) (t46 : (List api_Row)) (l275 : List Int) (i283 : Int) : Option (Ctl Int (Sum Unit Bool)) := if i283 < (t46.length : Int) then (if 0 ≤ i283 ∧ i283 < (t46.length : Int) then ((haulagelaw13_same.f k ((rd t46 i283).Key) l275).bind fun t313 => if t313 = true then (some (.done (.inr true))) else (some (.next (IntKind.i64.wrap (i283 + 1))))) else none) else (some (.done (.inl ())))
def haulagelaw13_TableMade.b13 (t46 : (List api_Row)) (i590 : Int) (i695 : Int) (i696 : Int) (l700 : List Int) (l704 : List Int) (i705 : Int) : Option (Ctl (Int × Int × (List Int) × (List Int) × Int) (Int × (List Int) × (List Int) × Int)) := if i695 < (t46.length : Int) then (if 0 ≤ i695 ∧ i695 < (t46.length : Int) then (if ((rd t46 i695).Rev) = i590 then (if 0 ≤ i695 ∧ i695 < (t46.length : Int) then (if 0 ≤ i695 ∧ i695 < (t46.length : Int) then ((haulagelaw13_put.f ((rd t46 i695).Key) ((rd t46 i695).Value)).bind fun t434 => some (.next (IntKind.i64.wrap (i695 + 1), t434.Kind, t434.Key, t434.Value, t434.Rev))) else none) else none) else (some (.next (IntKind.i64.wrap (i695 + 1), i696, l700, l704, i705)))) else none) else (some (.done (i696, l700, l704, i705)))
def haulagelaw13_TableMade.j14 (k : Nat) (o589 : Option Tab) (i590 : Int) (i791 : Int) (l793 : List Int) (l797 : List Int) (i800 : Int) : Option (Ctl ((Option Tab) × Int) (Sum (Option Tab) Bool)) := (table_Table_Do.f k o589 (api_Op.mk i791 l793 l797 i800)).bind fun t560 => if t560.2.1 = 0 then (some (.next (t560.2.2, IntKind.i64.wrap (i590 + 1)))) else (some (.done (.inr false)))
def haulagelaw13_TableMade.b15 (k : Nat) (t18 : (Option Tab) × Int) (t46 : (List api_Row)) (l275 : List Int) (o589 : Option Tab) (i590 : Int) : Option (Ctl ((Option Tab) × Int) (Sum (Option Tab) Bool)) := (table_Table_Rev.f t18.1).bind fun t351 => if i590 ≤ t351 then ((loop (fun (s_ : Int × Int × (List Int) × (List Int) × Int) => haulagelaw13_TableMade.b13 t46 i590 s_.1 s_.2.1 s_.2.2.1 s_.2.2.2.1 s_.2.2.2.2) k (0, 3, l275, [], 0)).bind fun x_ => haulagelaw13_TableMade.j14 k o589 i590 x_.1 x_.2.1 x_.2.2.1 x_.2.2.2) else (some (.done (.inl o589)))
def haulagelaw13_TableMade.j16 (k : Nat) (a1 : List Int) (o832 : Option Tab) : Option Bool := (table_Table_Bytes.f k o832).bind fun t837 => (haulagelaw13_same.f k t837 a1).bind fun t847 => some t847
def haulagelaw13_TableMade.j10 (k : Nat) (a1 : List Int) (t18 : (Option Tab) × Int) (t46 : (List api_Row)) (l275 : List Int) : Option Bool := (table_New.f).bind fun t327 => (loop (fun (s_ : (Option Tab) × Int) => haulagelaw13_TableMade.b15 k t18 t46 l275 s_.1 s_.2) k (t327, 1)).bind fun x_ => match x_ with | .inl y_ => haulagelaw13_TableMade.j16 k a1 y_ | .inr q_ => some q_
def haulagelaw13_TableMade.j8 (k : Nat) (a1 : List Int) (t18 : (Option Tab) × Int) (t46 : (List api_Row)) (l275 : List Int) : Option Bool := (loop (fun (s_ : Int) => haulagelaw13_TableMade.b9 k t46 l275 s_) k 0).bind fun x_ => match x_ with | .inl y_ => haulagelaw13_TableMade.j10 k a1 t18 t46 l275 | .inr q_ => some q_
def haulagelaw13_TableMade.j6 (k : Nat) (a1 : List Int) (t18 : (Option Tab) × Int) (t46 : (List api_Row)) (l214 : List Int) : Option Bool := (loop (fun (s_ : (List Int) × Int) => haulagelaw13_TableMade.b7 k t46 s_.1 s_.2) k (l214, 0)).bind fun x_ => haulagelaw13_TableMade.j8 k a1 t18 t46 x_
def haulagelaw13_TableMade.j5 (k : Nat) (a1 : List Int) (t18 : (Option Tab) × Int) (t46 : (List api_Row)) (l197 : List Int) : Option Bool := if 64 < (l197.length : Int) then (if 0 ≤ (64 : Int) ∧ (64 : Int) ≤ (l197.length : Int) then (haulagelaw13_TableMade.j6 k a1 t18 t46 (l197.take (64 : Int).toNat)) else none) else (haulagelaw13_TableMade.j6 k a1 t18 t46 l197)
def haulagelaw13_TableMade.j1 (k : Nat) (a1 : List Int) (t18 : (Option Tab) × Int) (b38 : Bool) : Option Bool := if b38 = true then (if t18.2 = 0 then (some true) else (some (decide (t18.2 = 130)))) else ((table_Table_Rows.f t18.1).bind fun t46 => (loop (fun (s_ : (List Int) × Int) => haulagelaw13_TableMade.b4 t46 s_.1 s_.2) k ([0], 0)).bind fun x_ => haulagelaw13_TableMade.j5 k a1 t18 t46 x_)
def haulagelaw13_TableMade.f (k : Nat) (a1 : List Int) : Option Bool := (haulagelaw13_awake.f k).bind fun t8 => if t8 = true then ((table_Read.f k a1).bind fun t18 => if t18.2 = 0 then (if (Option.isNone t18.1) = true then (haulagelaw13_TableMade.j1 k a1 t18 true) else ((table_Table_Rev.f t18.1).bind fun t31 => haulagelaw13_TableMade.j1 k a1 t18 (decide (300 < t31)))) else (haulagelaw13_TableMade.j1 k a1 t18 true)) else (some false)end Go.Proofs.Ytcolmmjcdlmcoaa.G
namespace Go.Proofs.Ytcolmmjcdlmcoaa.G
open Go Go.RowKit
set_option linter.unusedVariables false
set_option linter.unusedSimpArgs false
def K_table_cell : K table_cell where
  sz := 2
  pos := by decide
  rep := fun i c w cs x => ∃ (A1 : Option Addr) (C2 : Nat), cs = [.slice A1 x.value.length C2, .int .i64 x.rev] ∧ SL false (Kint .u8) i i c w A1 C2 x.value
  ev := fun ⟨A1, C2, h_, h3⟩ E hi => ⟨A1, C2, h_, h3.ev E hi hi⟩
  rc := fun ⟨A1, C2, h_, h3⟩ hr => ⟨A1, C2, h_, h3.rc hr hr⟩
  len := fun ⟨A1, C2, h_, h3⟩ => by rw [h_]; rfl
  one := @fun i c w cs x ⟨A1, C2, h_, h3⟩ u hu => by rw [h_] at hu; exact one_all (us := [.slice A1 x.value.length C2, .int .i64 x.rev]) rfl u hu
def K_api_Op : K api_Op where
  sz := 4
  pos := by decide
  rep := fun i c w cs x => ∃ (A1 : Option Addr) (C2 : Nat) (A4 : Option Addr) (C5 : Nat), cs = [.int .i64 x.Kind, .slice A1 x.Key.length C2, .slice A4 x.Value.length C5, .int .i64 x.Rev] ∧ SL false (Kint .u8) i i c w A1 C2 x.Key ∧ SL false (Kint .u8) i i c w A4 C5 x.Value
  ev := fun ⟨A1, C2, A4, C5, h_, h3, h6⟩ E hi => ⟨A1, C2, A4, C5, h_, h3.ev E hi hi, h6.ev E hi hi⟩
  rc := fun ⟨A1, C2, A4, C5, h_, h3, h6⟩ hr => ⟨A1, C2, A4, C5, h_, h3.rc hr hr, h6.rc hr hr⟩
  len := fun ⟨A1, C2, A4, C5, h_, h3, h6⟩ => by rw [h_]; rfl
  one := @fun i c w cs x ⟨A1, C2, A4, C5, h_, h3, h6⟩ u hu => by rw [h_] at hu; exact one_all (us := [.int .i64 x.Kind, .slice A1 x.Key.length C2, .slice A4 x.Value.length C5, .int .i64 x.Rev]) rfl u hu
def K_api_Answer : K api_Answer where
  sz := 5
  pos := by decide
  rep := fun i c w cs x => ∃ (A1 : Option Addr) (C2 : Nat) (A4 : Option Addr) (C5 : Nat), cs = [.bool x.Done, .slice A1 x.Key.length C2, .slice A4 x.Value.length C5, .int .i64 x.Rev, .int .i64 x.At] ∧ SL false (Kint .u8) i i c w A1 C2 x.Key ∧ SL false (Kint .u8) i i c w A4 C5 x.Value
  ev := fun ⟨A1, C2, A4, C5, h_, h3, h6⟩ E hi => ⟨A1, C2, A4, C5, h_, h3.ev E hi hi, h6.ev E hi hi⟩
  rc := fun ⟨A1, C2, A4, C5, h_, h3, h6⟩ hr => ⟨A1, C2, A4, C5, h_, h3.rc hr hr, h6.rc hr hr⟩
  len := fun ⟨A1, C2, A4, C5, h_, h3, h6⟩ => by rw [h_]; rfl
  one := @fun i c w cs x ⟨A1, C2, A4, C5, h_, h3, h6⟩ u hu => by rw [h_] at hu; exact one_all (us := [.bool x.Done, .slice A1 x.Key.length C2, .slice A4 x.Value.length C5, .int .i64 x.Rev, .int .i64 x.At]) rfl u hu
def K_api_Row : K api_Row where
  sz := 3
  pos := by decide
  rep := fun i c w cs x => ∃ (A1 : Option Addr) (C2 : Nat) (A4 : Option Addr) (C5 : Nat), cs = [.slice A1 x.Key.length C2, .slice A4 x.Value.length C5, .int .i64 x.Rev] ∧ SL false (Kint .u8) i i c w A1 C2 x.Key ∧ SL false (Kint .u8) i i c w A4 C5 x.Value
  ev := fun ⟨A1, C2, A4, C5, h_, h3, h6⟩ E hi => ⟨A1, C2, A4, C5, h_, h3.ev E hi hi, h6.ev E hi hi⟩
  rc := fun ⟨A1, C2, A4, C5, h_, h3, h6⟩ hr => ⟨A1, C2, A4, C5, h_, h3.rc hr hr, h6.rc hr hr⟩
  len := fun ⟨A1, C2, A4, C5, h_, h3, h6⟩ => by rw [h_]; rfl
  one := @fun i c w cs x ⟨A1, C2, A4, C5, h_, h3, h6⟩ u hu => by rw [h_] at hu; exact one_all (us := [.slice A1 x.Key.length C2, .slice A4 x.Value.length C5, .int .i64 x.Rev]) rfl u hu
def TR (j : Nat) (c : Nat → Nat) (w : World) : Option Addr → Tr → Prop
  | p, .nil => p = none
  | p, .node l r k v s d => ∃ (a : Addr) (lp rp : Option Addr) (A1 : Option Addr) (C2 : Nat), p = some a ∧ AT false 0 c w a [.pointer lp, .pointer rp, .string k, .slice A1 v.value.length C2, .int .i64 v.rev, .int .i64 s, .int .i64 d] ∧ SL false (Kint .u8) 0 0 c w A1 C2 v.value ∧ TR j c w lp l ∧ TR j c w rp r
theorem TR.nil {j : Nat} {c : Nat → Nat} {w : World} : TR j c w none .nil := rfl
theorem TR.isNil {j : Nat} {c : Nat → Nat} {w : World} {p : Option Addr} {t : Tr} (h : TR j c w p t) : p.isNone = t.isNil := by
  cases t with
  | nil => have h : p = none := h; rw [h]; rfl
  | node l r k v s d => obtain ⟨a, lp, rp, A1, C2, e, _⟩ := h; rw [e]; rfl
theorem TR.node {c : Nat → Nat} {w : World} {p : Option Addr} {l r : Tr} {k : ByteArray} {v : table_cell} {s d : Int} (h : TR 0 c w p (.node l r k v s d)) : ∃ (a : Addr) (lp rp : Option Addr) (A1 : Option Addr) (C2 : Nat), p = some a ∧ AT false 0 c w a [.pointer lp, .pointer rp, .string k, .slice A1 v.value.length C2, .int .i64 v.rev, .int .i64 s, .int .i64 d] ∧ SL false (Kint .u8) 0 0 c w A1 C2 v.value ∧ TR 0 c w lp l ∧ TR 0 c w rp r := h
theorem TR.mk {c : Nat → Nat} {w : World} {a : Addr} {lp rp : Option Addr} {l r : Tr} {k : ByteArray} {v : table_cell} {s d : Int} {A1 : Option Addr} {C2 : Nat} (hat : AT false 0 c w a [.pointer lp, .pointer rp, .string k, .slice A1 v.value.length C2, .int .i64 v.rev, .int .i64 s, .int .i64 d]) (h3 : SL false (Kint .u8) 0 0 c w A1 C2 v.value) (hl : TR 0 c w lp l) (hr : TR 0 c w rp r) : TR 0 c w (some a) (.node l r k v s d) := ⟨a, lp, rp, A1, C2, rfl, hat, h3, hl, hr⟩
theorem TR.ev {M : Nat → Prop} {j : Nat} {c c' : Nat → Nat} {w w' : World} : ∀ {t : Tr} {p : Option Addr}, TR j c w p t → Ev M c w c' w' → ¬ M j → ¬ M 0 → TR j c' w' p t
  | .nil, _, h, _, _, _ => h
  | .node l r k v s d, _, ⟨a, lp, rp, A1, C2, e, hat, h3, hl, hr⟩, E, hj, h0 => ⟨a, lp, rp, A1, C2, e, hat.ev E h0, h3.ev E h0 h0, TR.ev hl E hj h0, TR.ev hr E hj h0⟩
theorem TR.rc {j j' : Nat} {c c' : Nat → Nat} {w : World} : ∀ {t : Tr} {p : Option Addr}, TR j c w p t → (∀ k, c k = j → c' k = j') → (∀ k, c k = 0 → c' k = 0) → TR j' c' w p t
  | .nil, _, h, _, _ => h
  | .node l r k v s d, _, ⟨a, lp, rp, A1, C2, e, hat, h3, hl, hr⟩, q, h0 => ⟨a, lp, rp, A1, C2, e, hat.rc h0, h3.rc h0 h0, TR.rc hl q h0, TR.rc hr q h0⟩
def ITR (j : Nat) (c : Nat → Nat) (w : World) (v : Value) : It → Prop
  | .all t => ∃ (q : Addr) (p : Option Addr), v = .func (.func 64) #[] #[.pointer (some q)] ∧ AT true j c w q [.pointer p] ∧ TR 0 c w p t
  | .from t k => ∃ (q0 q1 : Addr) (p : Option Addr), v = .func (.func 74) #[] #[.pointer (some q0), .pointer (some q1)] ∧ AT true j c w q0 [.pointer p] ∧ AT true j c w q1 [.string k] ∧ TR 0 c w p t
theorem ITR.ev {M : Nat → Prop} {j : Nat} {c c' : Nat → Nat} {w w' : World} {v : Value} : ∀ {i : It}, ITR j c w v i → Ev M c w c' w' → ¬ M j → ¬ M 0 → ITR j c' w' v i
  | .all t, ⟨q, p, e, h, ht⟩, E, hj, h0 => ⟨q, p, e, h.ev E hj, ht.ev E h0 h0⟩
  | .from t k, ⟨q, q1, p, e, h, h1, ht⟩, E, hj, h0 => ⟨q, q1, p, e, h.ev E hj, h1.ev E hj, ht.ev E h0 h0⟩
theorem ITR.rc {j j' : Nat} {c c' : Nat → Nat} {w : World} {v : Value} : ∀ {i : It}, ITR j c w v i → (∀ k, c k = j → c' k = j') → (∀ k, c k = 0 → c' k = 0) → ITR j' c' w v i
  | .all t, ⟨q, p, e, h, ht⟩, hr, h0 => ⟨q, p, e, h.rc hr, ht.rc h0 h0⟩
  | .from t k, ⟨q, q1, p, e, h, h1, ht⟩, hr, h0 => ⟨q, q1, p, e, h.rc hr, h1.rc hr, ht.rc h0 h0⟩
def WR (j i : Nat) (c : Nat → Nat) (w : World) (p : Option Addr) : Option Wri → Prop
  | none => p = none
  | some t => ∃ (a : Addr) (A1 : Option Addr) (C2 : Nat) (A4 : Option Addr) (C5 : Nat), p = some a ∧ AT true j c w a [.int .i64 t.room, .slice A1 t.b.length C2, .slice A4 t.open_.length C5, .int .i64 t.fault] ∧ SL true (Kint .u8) i 0 c w A1 C2 t.b ∧ SL false (Kint .i64) 0 0 c w A4 C5 t.open_
theorem WR.nil {j i : Nat} {c : Nat → Nat} {w : World} : WR j i c w none none := rfl
theorem WR.some {j i : Nat} {c : Nat → Nat} {w : World} {p : Option Addr} {t : Wri} (h : WR j i c w p (some t)) : ∃ (a : Addr) (A1 : Option Addr) (C2 : Nat) (A4 : Option Addr) (C5 : Nat), p = some a ∧ AT true j c w a [.int .i64 t.room, .slice A1 t.b.length C2, .slice A4 t.open_.length C5, .int .i64 t.fault] ∧ SL true (Kint .u8) i 0 c w A1 C2 t.b ∧ SL false (Kint .i64) 0 0 c w A4 C5 t.open_ := h
theorem WR.isNone {j i : Nat} {c : Nat → Nat} {w : World} {p : Option Addr} {o : Option Wri} (h : WR j i c w p o) : p.isNone = o.isNone := by
  cases o with
  | none => have h : p = none := h; rw [h]; rfl
  | some t => obtain ⟨a, A1, C2, A4, C5, e, _⟩ := h; rw [e]; rfl
theorem WR.ev {M : Nat → Prop} {j i : Nat} {c c' : Nat → Nat} {w w' : World} {p : Option Addr} {o : Option Wri} (h : WR j i c w p o) (E : Ev M c w c' w') (hj : ¬ M j) (hi : ¬ M i) (h0 : ¬ M 0) : WR j i c' w' p o := by
  cases o with
  | none => exact h
  | some t => obtain ⟨a, A1, C2, A4, C5, e, hat, h3, h6⟩ := h; exact ⟨a, A1, C2, A4, C5, e, hat.ev E hj, h3.ev E hi h0, h6.ev E h0 h0⟩
theorem WR.rc {j j' i i' : Nat} {c c' : Nat → Nat} {w : World} {p : Option Addr} {o : Option Wri} (h : WR j i c w p o) (hr : ∀ k, c k = j → c' k = j') (hi : ∀ k, c k = i → c' k = i') (h0 : ∀ k, c k = 0 → c' k = 0) : WR j' i' c' w p o := by
  cases o with
  | none => exact h
  | some t => obtain ⟨a, A1, C2, A4, C5, e, hat, h3, h6⟩ := h; exact ⟨a, A1, C2, A4, C5, e, hat.rc hr, h3.rc hi h0, h6.rc h0 h0⟩
theorem WR.mk {j i : Nat} {c : Nat → Nat} {w : World} {a : Addr} {t : Wri} {A1 : Option Addr} {C2 : Nat} {A4 : Option Addr} {C5 : Nat} (hat : AT true j c w a [.int .i64 t.room, .slice A1 t.b.length C2, .slice A4 t.open_.length C5, .int .i64 t.fault]) (h3 : SL true (Kint .u8) i 0 c w A1 C2 t.b) (h6 : SL false (Kint .i64) 0 0 c w A4 C5 t.open_) : WR j i c w (Option.some a) (Option.some t) := ⟨a, A1, C2, A4, C5, rfl, hat, h3, h6⟩
def TB (j : Nat) (c : Nat → Nat) (w : World) (p : Option Addr) : Option Tab → Prop
  | none => p = none
  | some t => ∃ (a : Addr) (p1 : Option Addr), p = some a ∧ AT true j c w a [.pointer p1, .int .i64 t.rev, .int .i64 t.size] ∧ TR 0 c w p1 t.rows
theorem TB.nil {j : Nat} {c : Nat → Nat} {w : World} : TB j c w none none := rfl
theorem TB.some {j : Nat} {c : Nat → Nat} {w : World} {p : Option Addr} {t : Tab} (h : TB j c w p (some t)) : ∃ (a : Addr) (p1 : Option Addr), p = some a ∧ AT true j c w a [.pointer p1, .int .i64 t.rev, .int .i64 t.size] ∧ TR 0 c w p1 t.rows := h
theorem TB.isNone {j : Nat} {c : Nat → Nat} {w : World} {p : Option Addr} {o : Option Tab} (h : TB j c w p o) : p.isNone = o.isNone := by
  cases o with
  | none => have h : p = none := h; rw [h]; rfl
  | some t => obtain ⟨a, p1, e, _⟩ := h; rw [e]; rfl
theorem TB.ev {M : Nat → Prop} {j : Nat} {c c' : Nat → Nat} {w w' : World} {p : Option Addr} {o : Option Tab} (h : TB j c w p o) (E : Ev M c w c' w') (hj : ¬ M j) (h0 : ¬ M 0) : TB j c' w' p o := by
  cases o with
  | none => exact h
  | some t => obtain ⟨a, p1, e, hat, h2⟩ := h; exact ⟨a, p1, e, hat.ev E hj, h2.ev E h0 h0⟩
theorem TB.rc {j j' : Nat} {c c' : Nat → Nat} {w : World} {p : Option Addr} {o : Option Tab} (h : TB j c w p o) (hr : ∀ k, c k = j → c' k = j') (h0 : ∀ k, c k = 0 → c' k = 0) : TB j' c' w p o := by
  cases o with
  | none => exact h
  | some t => obtain ⟨a, p1, e, hat, h2⟩ := h; exact ⟨a, p1, e, hat.rc hr, h2.rc h0 h0⟩
theorem TB.mk {j : Nat} {c : Nat → Nat} {w : World} {a : Addr} {t : Tab} {p1 : Option Addr} (hat : AT true j c w a [.pointer p1, .int .i64 t.rev, .int .i64 t.size]) (h2 : TR 0 c w p1 t.rows) : TB j c w (Option.some a) (Option.some t) := ⟨a, p1, rfl, hat, h2⟩
def MU (j : Nat) (c : Nat → Nat) (w : World) (p : Option Addr) (o : MpV Bool) : Prop := MP .u64 80 Value.bool Try.prog j c w p o
theorem MU.ev {M : Nat → Prop} {j : Nat} {c c' : Nat → Nat} {w w' : World} {p : Option Addr} {o : MpV Bool} (h : MU j c w p o) (E : Ev M c w c' w') (hj : ¬ M j) (h0 : ¬ M 0) : MU j c' w' p o := MP.ev h E hj
theorem MU.rc {j j' : Nat} {c c' : Nat → Nat} {w : World} {p : Option Addr} {o : MpV Bool} (h : MU j c w p o) (hr : ∀ k, c k = j → c' k = j') (h0 : ∀ k, c k = 0 → c' k = 0) : MU j' c' w p o := MP.rc h hr
def CE (j : Nat) (c : Nat → Nat) (w : World) (p : Option Addr) : Option Cel → Prop
  | none => p = none
  | some t => ∃ (a : Addr) (A1 : Option Addr) (C2 : Nat), p = some a ∧ AT true j c w a [.slice A1 t.value.length C2, .int .i64 t.rev] ∧ SL false (Kint .u8) 0 0 c w A1 C2 t.value
theorem CE.nil {j : Nat} {c : Nat → Nat} {w : World} : CE j c w none none := rfl
theorem CE.some {j : Nat} {c : Nat → Nat} {w : World} {p : Option Addr} {t : Cel} (h : CE j c w p (some t)) : ∃ (a : Addr) (A1 : Option Addr) (C2 : Nat), p = some a ∧ AT true j c w a [.slice A1 t.value.length C2, .int .i64 t.rev] ∧ SL false (Kint .u8) 0 0 c w A1 C2 t.value := h
theorem CE.isNone {j : Nat} {c : Nat → Nat} {w : World} {p : Option Addr} {o : Option Cel} (h : CE j c w p o) : p.isNone = o.isNone := by
  cases o with
  | none => have h : p = none := h; rw [h]; rfl
  | some t => obtain ⟨a, A1, C2, e, _⟩ := h; rw [e]; rfl
theorem CE.ev {M : Nat → Prop} {j : Nat} {c c' : Nat → Nat} {w w' : World} {p : Option Addr} {o : Option Cel} (h : CE j c w p o) (E : Ev M c w c' w') (hj : ¬ M j) (h0 : ¬ M 0) : CE j c' w' p o := by
  cases o with
  | none => exact h
  | some t => obtain ⟨a, A1, C2, e, hat, h3⟩ := h; exact ⟨a, A1, C2, e, hat.ev E hj, h3.ev E h0 h0⟩
theorem CE.rc {j j' : Nat} {c c' : Nat → Nat} {w : World} {p : Option Addr} {o : Option Cel} (h : CE j c w p o) (hr : ∀ k, c k = j → c' k = j') (h0 : ∀ k, c k = 0 → c' k = 0) : CE j' c' w p o := by
  cases o with
  | none => exact h
  | some t => obtain ⟨a, A1, C2, e, hat, h3⟩ := h; exact ⟨a, A1, C2, e, hat.rc hr, h3.rc h0 h0⟩
theorem CE.mk {j : Nat} {c : Nat → Nat} {w : World} {a : Addr} {t : Cel} {A1 : Option Addr} {C2 : Nat} (hat : AT true j c w a [.slice A1 t.value.length C2, .int .i64 t.rev]) (h3 : SL false (Kint .u8) 0 0 c w A1 C2 t.value) : CE j c w (Option.some a) (Option.some t) := ⟨a, A1, C2, rfl, hat, h3⟩
def RD (j : Nat) (c : Nat → Nat) (w : World) (p : Option Addr) : Option Rdr → Prop
  | none => p = none
  | some t => ∃ (a : Addr) (A1 : Option Addr) (C2 : Nat) (A4 : Option Addr) (C5 : Nat), p = some a ∧ AT true j c w a [.slice A1 t.left.length C2, .slice A4 t.outer.length C5, .int .i64 t.fault] ∧ SL false (Kint .u8) 0 0 c w A1 C2 t.left ∧ SL false (Kslice (Kint .u8)) 0 0 c w A4 C5 t.outer
theorem RD.nil {j : Nat} {c : Nat → Nat} {w : World} : RD j c w none none := rfl
theorem RD.some {j : Nat} {c : Nat → Nat} {w : World} {p : Option Addr} {t : Rdr} (h : RD j c w p (some t)) : ∃ (a : Addr) (A1 : Option Addr) (C2 : Nat) (A4 : Option Addr) (C5 : Nat), p = some a ∧ AT true j c w a [.slice A1 t.left.length C2, .slice A4 t.outer.length C5, .int .i64 t.fault] ∧ SL false (Kint .u8) 0 0 c w A1 C2 t.left ∧ SL false (Kslice (Kint .u8)) 0 0 c w A4 C5 t.outer := h
theorem RD.isNone {j : Nat} {c : Nat → Nat} {w : World} {p : Option Addr} {o : Option Rdr} (h : RD j c w p o) : p.isNone = o.isNone := by
  cases o with
  | none => have h : p = none := h; rw [h]; rfl
  | some t => obtain ⟨a, A1, C2, A4, C5, e, _⟩ := h; rw [e]; rfl
theorem RD.ev {M : Nat → Prop} {j : Nat} {c c' : Nat → Nat} {w w' : World} {p : Option Addr} {o : Option Rdr} (h : RD j c w p o) (E : Ev M c w c' w') (hj : ¬ M j) (h0 : ¬ M 0) : RD j c' w' p o := by
  cases o with
  | none => exact h
  | some t => obtain ⟨a, A1, C2, A4, C5, e, hat, h3, h6⟩ := h; exact ⟨a, A1, C2, A4, C5, e, hat.ev E hj, h3.ev E h0 h0, h6.ev E h0 h0⟩
theorem RD.rc {j j' : Nat} {c c' : Nat → Nat} {w : World} {p : Option Addr} {o : Option Rdr} (h : RD j c w p o) (hr : ∀ k, c k = j → c' k = j') (h0 : ∀ k, c k = 0 → c' k = 0) : RD j' c' w p o := by
  cases o with
  | none => exact h
  | some t => obtain ⟨a, A1, C2, A4, C5, e, hat, h3, h6⟩ := h; exact ⟨a, A1, C2, A4, C5, e, hat.rc hr, h3.rc h0 h0, h6.rc h0 h0⟩
theorem RD.mk {j : Nat} {c : Nat → Nat} {w : World} {a : Addr} {t : Rdr} {A1 : Option Addr} {C2 : Nat} {A4 : Option Addr} {C5 : Nat} (hat : AT true j c w a [.slice A1 t.left.length C2, .slice A4 t.outer.length C5, .int .i64 t.fault]) (h3 : SL false (Kint .u8) 0 0 c w A1 C2 t.left) (h6 : SL false (Kslice (Kint .u8)) 0 0 c w A4 C5 t.outer) : RD j c w (Option.some a) (Option.some t) := ⟨a, A1, C2, A4, C5, rfl, hat, h3, h6⟩
theorem Try_hm : Try.prog.follows .mixedOrders = true := by kernel_rfl
theorem ff_98_4 : ∀ q w, (Instr.fieldAt 98 (.pointer (some q)) 4).run Try.prog w = .ok (.pointer (some (q.add 5))) w := fun _ _ => by kernel_rfl
theorem ag_3 : ∀ w, (isAgg 3).run Try.prog w = .ok false w := fun _ => by kernel_rfl
theorem ff_98_5 : ∀ q w, (Instr.fieldAt 98 (.pointer (some q)) 5).run Try.prog w = .ok (.pointer (some (q.add 6))) w := fun _ _ => by kernel_rfl
theorem ag_66 : ∀ w, (isAgg 66).run Try.prog w = .ok true w := fun _ => by kernel_rfl
theorem sz_66 : ∀ w, (sizeOf 66).run Try.prog w = .ok 2 w := fun _ => by kernel_rfl
theorem ff_98_1 : ∀ q w, (Instr.fieldAt 98 (.pointer (some q)) 1).run Try.prog w = .ok (.pointer (some (q.add 1))) w := fun _ _ => by kernel_rfl
theorem ag_68 : ∀ w, (isAgg 68).run Try.prog w = .ok false w := fun _ => by kernel_rfl
theorem ff_98_0 : ∀ q w, (Instr.fieldAt 98 (.pointer (some q)) 0).run Try.prog w = .ok (.pointer (some (q.add 0))) w := fun _ _ => by kernel_rfl
theorem ff_98_2 : ∀ q w, (Instr.fieldAt 98 (.pointer (some q)) 2).run Try.prog w = .ok (.pointer (some (q.add 2))) w := fun _ _ => by kernel_rfl
theorem ag_9 : ∀ w, (isAgg 9).run Try.prog w = .ok false w := fun _ => by kernel_rfl
theorem ff_98_3 : ∀ q w, (Instr.fieldAt 98 (.pointer (some q)) 3).run Try.prog w = .ok (.pointer (some (q.add 3))) w := fun _ _ => by kernel_rfl
theorem zv_66 : ∀ w, (zeroValue 66).run Try.prog w = .ok (.agg #[.slice none 0 0, .int .i64 0]) w := fun _ => by kernel_rfl
theorem ff_66_0 : ∀ q w, (Instr.fieldAt 66 (.pointer (some q)) 0).run Try.prog w = .ok (.pointer (some (q.add 0))) w := fun _ _ => by kernel_rfl
theorem ag_23 : ∀ w, (isAgg 23).run Try.prog w = .ok false w := fun _ => by kernel_rfl
theorem ff_66_1 : ∀ q w, (Instr.fieldAt 66 (.pointer (some q)) 1).run Try.prog w = .ok (.pointer (some (q.add 1))) w := fun _ _ => by kernel_rfl
theorem ff_33_0 : ∀ q w, (Instr.fieldAt 33 (.pointer (some q)) 0).run Try.prog w = .ok (.pointer (some (q.add 0))) w := fun _ _ => by kernel_rfl
theorem ff_33_1 : ∀ q w, (Instr.fieldAt 33 (.pointer (some q)) 1).run Try.prog w = .ok (.pointer (some (q.add 1))) w := fun _ _ => by kernel_rfl
theorem ff_33_2 : ∀ q w, (Instr.fieldAt 33 (.pointer (some q)) 2).run Try.prog w = .ok (.pointer (some (q.add 2))) w := fun _ _ => by kernel_rfl
theorem ff_33_3 : ∀ q w, (Instr.fieldAt 33 (.pointer (some q)) 3).run Try.prog w = .ok (.pointer (some (q.add 3))) w := fun _ _ => by kernel_rfl
theorem zv_9 : ∀ w, (zeroValue 9).run Try.prog w = .ok (.string .empty) w := fun _ => by kernel_rfl
theorem zv_4 : ∀ w, (zeroValue 4).run Try.prog w = .ok (.bool false) w := fun _ => by kernel_rfl
theorem sz_9 : ∀ w, (sizeOf 9).run Try.prog w = .ok 1 w := fun _ => by kernel_rfl
theorem sz_4 : ∀ w, (sizeOf 4).run Try.prog w = .ok 1 w := fun _ => by kernel_rfl
theorem ag_4 : ∀ w, (isAgg 4).run Try.prog w = .ok false w := fun _ => by kernel_rfl
theorem ag_70 : ∀ w, (isAgg 70).run Try.prog w = .ok true w := fun _ => by kernel_rfl
theorem sz_70 : ∀ w, (sizeOf 70).run Try.prog w = .ok 3 w := fun _ => by kernel_rfl
theorem zv_70 : ∀ w, (zeroValue 70).run Try.prog w = .ok (.agg #[.pointer none, .int .i64 0, .int .i64 0]) w := fun _ => by kernel_rfl
theorem ff_70_0 : ∀ q w, (Instr.fieldAt 70 (.pointer (some q)) 0).run Try.prog w = .ok (.pointer (some (q.add 0))) w := fun _ _ => by kernel_rfl
theorem ff_70_2 : ∀ q w, (Instr.fieldAt 70 (.pointer (some q)) 2).run Try.prog w = .ok (.pointer (some (q.add 2))) w := fun _ _ => by kernel_rfl
theorem sz_3 : ∀ w, (sizeOf 3).run Try.prog w = .ok 1 w := fun _ => by kernel_rfl
theorem sz_68 : ∀ w, (sizeOf 68).run Try.prog w = .ok 1 w := fun _ => by kernel_rfl
theorem zv_28 : ∀ w, (zeroValue 28).run Try.prog w = .ok (.agg #[.bool false, .slice none 0 0, .slice none 0 0, .int .i64 0, .int .i64 0]) w := fun _ => by kernel_rfl
theorem ff_70_1 : ∀ q w, (Instr.fieldAt 70 (.pointer (some q)) 1).run Try.prog w = .ok (.pointer (some (q.add 1))) w := fun _ _ => by kernel_rfl
theorem sz_28 : ∀ w, (sizeOf 28).run Try.prog w = .ok 5 w := fun _ => by kernel_rfl
theorem ff_28_1 : ∀ q w, (Instr.fieldAt 28 (.pointer (some q)) 1).run Try.prog w = .ok (.pointer (some (q.add 1))) w := fun _ _ => by kernel_rfl
theorem sz_23 : ∀ w, (sizeOf 23).run Try.prog w = .ok 1 w := fun _ => by kernel_rfl
theorem ff_28_2 : ∀ q w, (Instr.fieldAt 28 (.pointer (some q)) 2).run Try.prog w = .ok (.pointer (some (q.add 2))) w := fun _ _ => by kernel_rfl
theorem ff_28_3 : ∀ q w, (Instr.fieldAt 28 (.pointer (some q)) 3).run Try.prog w = .ok (.pointer (some (q.add 3))) w := fun _ _ => by kernel_rfl
theorem ag_28 : ∀ w, (isAgg 28).run Try.prog w = .ok true w := fun _ => by kernel_rfl
theorem ag_33 : ∀ w, (isAgg 33).run Try.prog w = .ok true w := fun _ => by kernel_rfl
theorem sz_33 : ∀ w, (sizeOf 33).run Try.prog w = .ok 4 w := fun _ => by kernel_rfl
theorem ff_28_0 : ∀ q w, (Instr.fieldAt 28 (.pointer (some q)) 0).run Try.prog w = .ok (.pointer (some (q.add 0))) w := fun _ _ => by kernel_rfl
theorem zv_46 : ∀ w, (zeroValue 46).run Try.prog w = .ok (.slice none 0 0) w := fun _ => by kernel_rfl
theorem ag_46 : ∀ w, (isAgg 46).run Try.prog w = .ok false w := fun _ => by kernel_rfl
theorem et_46 : ET Try.prog 46 50 3 56 (.agg #[.slice none 0 0, .slice none 0 0, .int .i64 0]) := ⟨Try.underlying46, info_parts' (by kernel_rfl), rfl⟩
theorem sz_46 : ∀ w, (sizeOf 46).run Try.prog w = .ok 1 w := fun _ => by kernel_rfl
theorem et_23 : ET Try.prog 23 5 1 1 (.int .u8 0) := ⟨Try.underlying23, info_parts' (by kernel_rfl), rfl⟩
theorem ff_105_3 : ∀ q w, (Instr.fieldAt 105 (.pointer (some q)) 3).run Try.prog w = .ok (.pointer (some (q.add 3))) w := fun _ _ => by kernel_rfl
theorem ag_29 : ∀ w, (isAgg 29).run Try.prog w = .ok false w := fun _ => by kernel_rfl
theorem ff_105_0 : ∀ q w, (Instr.fieldAt 105 (.pointer (some q)) 0).run Try.prog w = .ok (.pointer (some (q.add 0))) w := fun _ _ => by kernel_rfl
theorem ff_105_1 : ∀ q w, (Instr.fieldAt 105 (.pointer (some q)) 1).run Try.prog w = .ok (.pointer (some (q.add 1))) w := fun _ _ => by kernel_rfl
theorem sz_29 : ∀ w, (sizeOf 29).run Try.prog w = .ok 1 w := fun _ => by kernel_rfl
theorem ff_105_2 : ∀ q w, (Instr.fieldAt 105 (.pointer (some q)) 2).run Try.prog w = .ok (.pointer (some (q.add 2))) w := fun _ _ => by kernel_rfl
theorem ag_103 : ∀ w, (isAgg 103).run Try.prog w = .ok false w := fun _ => by kernel_rfl
theorem zv_77 : ∀ w, (zeroValue 77).run Try.prog w = .ok (.pointer none) w := fun _ => by kernel_rfl
theorem sz_77 : ∀ w, (sizeOf 77).run Try.prog w = .ok 1 w := fun _ => by kernel_rfl
theorem ag_77 : ∀ w, (isAgg 77).run Try.prog w = .ok false w := fun _ => by kernel_rfl
theorem ff_112_2 : ∀ q w, (Instr.fieldAt 112 (.pointer (some q)) 2).run Try.prog w = .ok (.pointer (some (q.add 2))) w := fun _ _ => by kernel_rfl
theorem ff_112_0 : ∀ q w, (Instr.fieldAt 112 (.pointer (some q)) 0).run Try.prog w = .ok (.pointer (some (q.add 0))) w := fun _ _ => by kernel_rfl
theorem ff_112_1 : ∀ q w, (Instr.fieldAt 112 (.pointer (some q)) 1).run Try.prog w = .ok (.pointer (some (q.add 1))) w := fun _ _ => by kernel_rfl
theorem ag_59 : ∀ w, (isAgg 59).run Try.prog w = .ok false w := fun _ => by kernel_rfl
theorem sz_5 : ∀ w, (sizeOf 5).run Try.prog w = .ok 1 w := fun _ => by kernel_rfl
theorem ag_5 : ∀ w, (isAgg 5).run Try.prog w = .ok false w := fun _ => by kernel_rfl
theorem ff_50_0 : ∀ q w, (Instr.fieldAt 50 (.pointer (some q)) 0).run Try.prog w = .ok (.pointer (some (q.add 0))) w := fun _ _ => by kernel_rfl
theorem ff_50_1 : ∀ q w, (Instr.fieldAt 50 (.pointer (some q)) 1).run Try.prog w = .ok (.pointer (some (q.add 1))) w := fun _ _ => by kernel_rfl
theorem ff_50_2 : ∀ q w, (Instr.fieldAt 50 (.pointer (some q)) 2).run Try.prog w = .ok (.pointer (some (q.add 2))) w := fun _ _ => by kernel_rfl
theorem ff_28_4 : ∀ q w, (Instr.fieldAt 28 (.pointer (some q)) 4).run Try.prog w = .ok (.pointer (some (q.add 4))) w := fun _ _ => by kernel_rfl
theorem zv_33 : ∀ w, (zeroValue 33).run Try.prog w = .ok (.agg #[.int .i64 0, .slice none 0 0, .slice none 0 0, .int .i64 0]) w := fun _ => by kernel_rfl
theorem et_22 : ET Try.prog 22 33 4 64 (.agg #[.int .i64 0, .slice none 0 0, .slice none 0 0, .int .i64 0]) := ⟨Try.underlying22, info_parts' (by kernel_rfl), rfl⟩
theorem et_41 : ET Try.prog 41 28 5 72 (.agg #[.bool false, .slice none 0 0, .slice none 0 0, .int .i64 0, .int .i64 0]) := ⟨Try.underlying41, info_parts' (by kernel_rfl), rfl⟩
theorem sz_50 : ∀ w, (sizeOf 50).run Try.prog w = .ok 3 w := fun _ => by kernel_rfl
theorem ag_50 : ∀ w, (isAgg 50).run Try.prog w = .ok true w := fun _ => by kernel_rfl
theorem zv_50 : ∀ w, (zeroValue 50).run Try.prog w = .ok (.agg #[.slice none 0 0, .slice none 0 0, .int .i64 0]) w := fun _ => by kernel_rfl
end Go.Proofs.Ytcolmmjcdlmcoaa.G
/-! Told by hand: bytes.Clone. -/
namespace Go.Proofs.Ytcolmmjcdlmcoaa.G
open Go Go.RowKit
set_option linter.unusedVariables false
set_option linter.unusedSimpArgs false
section
variable {P : Program} {a : Act} {N : Nat} {L : List (Nat × Value)} {D : List Deferred} {w w' : World} {v u : Value} {x y : Operand} {d : Option Tmp} {t ty : TypeId} {pos : String} {af : Array Edge} {gd : Option (Nat × Bool)}
theorem r_sleq (F : Fr a N L D) {A : Option Addr} {n c : Nat} {e yt : TypeId} (hu : P.underlying t = some (.slice e)) (hx : ev L x = some (.slice A n c)) (hy : ev L y = some (.slice none 0 0)) : (execOp a.eval { dst := d, op := .binOp .eql t x y yt, type := ty, pos := pos, after := af, guard := gd }).run P w = .ok (.value (.bool A.isNone)) w := by
  have h : (binOp .eql t (.slice A n c) (.slice none 0 0)).run P w = .ok (.bool A.isNone) w := by
    simp only [binOp]
    simp [Op.equal, Op.maxDepth, Lib.run_equalIn_slice_nil w 9999 t e A n c 0 0 hu]
  simp [execOp, F.ev hx, F.ev hy, eqGuard, h]
end
theorem SL.none_nil {α : Type} {e : K α} {own : Bool} {j i : Nat} {c : Nat → Nat} {w : World} {cap : Nat} {xs : List α} (h : SL own e j i c w none cap xs) : xs = [] := by
  obtain ⟨cs, h2, h3, h4, h5, h6⟩ := h
  rcases h5 with h5 | ⟨a, e, _⟩
  · subst h5
    have := e.pos
    have h : cap * e.sz = 0 := h4.symm
    rcases Nat.mul_eq_zero.1 h with h | h
    · exact List.eq_nil_of_length_eq_zero (by omega)
    · omega
  · cases e
theorem bytes_Clone.calls {m : Nat} {c0 : Nat → Nat} {w0 : World} {j1 : Nat} {A2 : Option Addr} {C3 : Nat} {a1 : List Int} (hm0 : 0 < m) (B0 : CB m c0 w0) (h4 : SL false (Kint .u8) j1 0 c0 w0 A2 C3 a1) (bj1 : j1 < m) (jr : Nat) (bjr : jr < m) (r : List Int) (H : bytes_Clone.f a1 = some r) :
    Calls Try.prog 42 #[.slice A2 a1.length C3] w0 (fun e w_ => ∃ (c_ : Nat → Nat) (A0_ : Option Addr) (C0_ : Nat), e = .returned (.slice A0_ r.length C0_) ∧ Ev (fun x => False) c0 w0 c_ w_ ∧ CB m c_ w_ ∧ SL true (Kint .u8) jr 0 c_ w_ A0_ C0_ r) := by
  unfold bytes_Clone.f at H
  obtain ⟨g, H⟩ := ifN H
  have H := Option.some.inj H
  subst H
  have B := B0.mono (show m ≤ m + 2 by omega)
  have E : Ev (fun x => False ∨ m ≤ x) c0 w0 c0 w0 := Ev.refl
  refine enter (N := 8) (l := [.slice A2 a1.length C3]) Try.func42 rfl rfl (Nat.le_of_ble_eq_true rfl) fun a F => ?_
  refine wp_seq_k fun K5 hK5 => ?_
  refine reg ?_
  refine q_val F rfl rfl (by decide) (r_assign F rfl) fun a F => ?_
  refine nil ?_
  refine hK5 _ _ ?_
  refine wp_seq_k fun K6 hK6 => ?_
  refine wp_seq_k fun K7 hK7 => ?_
  refine reg ?_
  refine q_val F rfl rfl (by decide) (r_move F rfl) fun a F => ?_
  refine q_val F rfl rfl (by decide) (r_sleq F Try.underlying23 rfl rfl) fun a F => ?_
  refine nil ?_
  refine hK7 _ _ ?_
  cases A2 with
  | none =>
    have e := h4.none_nil
    subst e
    refine wp_cond_true (F.ev rfl) ?_
    refine wp_seq_k fun K8 hK8 => ?_
    refine reg ?_
    refine q_val F rfl rfl (by decide) (r_assign F rfl) fun a F => ?_
    refine nil ?_
    refine hK8 _ _ ?_
    refine wp_ret ?_
    refine thenR ?_
    refine out1 F rfl rfl ?_
    exact ⟨c0, none, 0, rfl, Ev.refl, B0, SL.nil⟩
  | some q =>
    refine wp_cond_false (F.ev rfl) ?_
    refine wp_skip ?_
    refine hK6 _ _ ?_
    refine wp_seq_k fun K9 hK9 => ?_
    refine reg ?_
    refine q_eff F rfl rfl (by decide) (e_buildSlice (e := 5) (c := c0) (k := Kint .u8) (i := 0) F [] [] ([] : List Int) (by exact trivial) (fun w => by kernel_rfl) rfl (by decide) rfl trivial (fun q => q) (m + 1)) ?_
    rintro v w1 a ⟨c1, A1, C1, rfl, E1, h1, B1⟩ F
    have B := B1 _ B (by omega)
    have h4 := SL.ev h4 E1 (fun q => q.elim) (fun q => q.elim)
    have E := E.trans E1 (fun x q => q.elim)
    refine q_val F rfl rfl (by decide) (r_move F rfl) fun a F => ?_
    refine q_eff F rfl rfl (by decide) (e_append (k := Kint .u8) (xs := []) (ys := a1) (c := c1) (j := m + 1) (i := 0) F et_23 rfl rfl h1 h4 (by simpa using g) (by have g_ := g; unfold maxLen; simp at g_ ⊢; omega) (by omega)) ?_
    rintro v w2 a ⟨c2, A3, C4, rfl, E2, h2, B2⟩ F
    have B := B2 _ B (by omega)
    have E := E.trans E2 (fun x q => by replace q : x = m + 1 := q; show False ∨ m ≤ x; omega)
    refine q_val F rfl rfl (by decide) (r_assign F rfl) fun a F => ?_
    refine nil ?_
    refine hK9 _ _ ?_
    refine wp_ret ?_
    refine out1 F rfl rfl ?_
    rw [List.nil_append] at h2 ⊢
    exact ⟨fun b_ => (fun x_ => if x_ = m + 1 then jr else if x_ < m then x_ else 0) (c2 b_), A3, C4, rfl, E.leave B0 (fun x_ => if x_ = m + 1 then jr else if x_ < m then x_ else 0) (by intro x_ hx_; show (if x_ = m + 1 then jr else if x_ < m then x_ else 0) = x_; ((repeat' split) <;> omega)), (fun b_ hb_ => by show (if (c2 b_) = m + 1 then jr else if (c2 b_) < m then (c2 b_) else 0) < m; ((repeat' split) <;> omega)), SL.rc h2 (fun k_ hk_ => by show (if (c2 k_) = m + 1 then jr else if (c2 k_) < m then (c2 k_) else 0) = _; rw [hk_]; ((repeat' split) <;> omega)) (fun k_ hk_ => by show (if (c2 k_) = m + 1 then jr else if (c2 k_) < m then (c2 k_) else 0) = _; rw [hk_]; ((repeat' split) <;> omega))⟩
end Go.Proofs.Ytcolmmjcdlmcoaa.G
/-! Told by hand: slices.Grow of nothing. -/
namespace Go.Proofs.Ytcolmmjcdlmcoaa.G
open Go Go.RowKit
set_option linter.unusedVariables false
set_option linter.unusedSimpArgs false
set_option maxHeartbeats 1000000 in
theorem slices_Grow.calls {m : Nat} {c0 : Nat → Nat} {w0 : World} {n : Int} (hm0 : 0 < m) (B0 : CB m c0 w0) (h1 : SL false (Kint .u8) 0 0 c0 w0 none 0 ([] : List Int)) (jr : Nat) (bjr : jr < m) (r : List Int) (H : slices_Grow.f [] n = some r) :
    Calls Try.prog 81 #[.slice none 0 0, .int .i64 n] w0 (fun e w_ => ∃ (c_ : Nat → Nat) (A0_ : Option Addr) (C0_ : Nat), e = .returned (.slice A0_ r.length C0_) ∧ Ev (fun x => False) c0 w0 c_ w_ ∧ CB m c_ w_ ∧ SL true (Kint .u8) jr 0 c_ w_ A0_ C0_ r) := by
  unfold slices_Grow.f at H
  obtain ⟨⟨g0, g1, _⟩, H⟩ := ifN H
  have H := Option.some.inj H
  subst H
  have B := B0.mono (show m ≤ m + 2 by omega)
  have E : Ev (fun x => False ∨ m ≤ x) c0 w0 c0 w0 := Ev.refl
  refine enter (N := 27) (l := [.slice none 0 0, .int .i64 n]) Try.func81 rfl rfl (Nat.le_of_ble_eq_true rfl) fun a F => ?_
  refine wp_seq_k fun K1 hK1 => ?_
  refine reg ?_
  refine q_val F rfl rfl (by decide) (r_assign F rfl) fun a F => ?_
  refine nil ?_
  refine hK1 _ _ ?_
  refine wp_seq_k fun K2 hK2 => ?_
  refine wp_seq_k fun K3 hK3 => ?_
  refine reg ?_
  refine q_val F rfl rfl (by decide) (r_move F rfl) fun a F => ?_
  refine q_val F rfl rfl (by decide) (r_lss F rfl rfl) fun a F => ?_
  refine nil ?_
  refine hK3 _ _ ?_
  refine wp_cond_false ((F.ev rfl).trans (congrArg Value.bool (decide_eq_false (by omega)))) ?_
  refine wp_skip ?_
  refine hK2 _ _ ?_
  refine wp_seq_k fun K5 hK5 => ?_
  refine wp_seq_k fun K4 hK4 => ?_
  refine reg ?_
  refine q_val F rfl rfl (by decide) (r_move F rfl) fun a F => ?_
  refine q_val F rfl rfl (by decide) (r_move F rfl) fun a F => ?_
  refine q_val F rfl rfl (by decide) (r_capsl F Try.underlying23 rfl) fun a F => ?_
  refine q_val F rfl rfl (by decide) (r_move F rfl) fun a F => ?_
  refine q_val F rfl rfl (by decide) (r_lensl F Try.underlying23 rfl) fun a F => ?_
  refine q_val F rfl rfl (by decide) (r_sub F rfl rfl) fun a F => ?_
  refine q_val F rfl rfl (by decide) (r_sub F rfl rfl) fun a F => ?_
  have hw : IntKind.i64.wrap (n - IntKind.i64.wrap (((0 : Nat) : Int) - ((0 : Nat) : Int))) = n := by simp only [IntKind.wrap_i64]; omega
  rw [hw] at F
  refine q_val F rfl rfl (by decide) (r_assign F rfl) fun a F => ?_
  refine nil ?_
  refine hK4 _ _ ?_
  refine wp_seq_k fun K6 hK6 => ?_
  refine reg ?_
  refine q_val F rfl rfl (by decide) (r_move F rfl) fun a F => ?_
  refine q_val F rfl rfl (by decide) (r_gtr F rfl rfl) fun a F => ?_
  refine nil ?_
  refine hK6 _ _ ?_
  by_cases hn : 0 < n
  · refine wp_cond_true ((F.ev rfl).trans (congrArg Value.bool (decide_eq_true hn))) ?_
    obtain ⟨k, rfl⟩ := Int.eq_ofNat_of_zero_le g0
    refine reg ?_
    refine q_val F rfl rfl (by decide) (r_move F rfl) fun a F => ?_
    refine q_val F rfl rfl (by decide) (r_move F rfl) fun a F => ?_
    refine q_val F rfl rfl (by decide) (r_capsl F Try.underlying23 rfl) fun a F => ?_
    refine q_val F rfl rfl (by decide) (r_slice (A := none) (xs := ([] : List Int)) (cap := 0) (vl := none) (vh := some (.int .i64 ((0 : Nat) : Int))) (vm := none) F rfl rfl rfl rfl (v := .slice none 0 0) (fun w => by kernel_rfl)) fun a F => ?_
    refine q_val F rfl rfl (by decide) (r_move F rfl) fun a F => ?_
    refine q_eff F rfl rfl (by decide) (e_growz (k := Kint .u8) (x0 := (0 : Int)) (n := k) F et_23 Try.underlying3 rfl rfl (fun _ _ _ => rfl) (by omega) (by omega) (by unfold maxLen; omega) c0 (m + 1) 0) ?_
    rintro v w1 a ⟨c1, A1, C1, rfl, E1, h2, B1⟩ F
    have B := B1 _ B (by omega)
    have E := E.trans E1 (fun x q => q.elim)
    refine q_val F rfl rfl (by decide) (r_move F rfl) fun a F => ?_
    refine q_val F rfl rfl (by decide) (r_lensl F Try.underlying23 rfl) fun a F => ?_
    obtain ⟨A2, C2, hr, h3⟩ := cut_h (kh := .i64) Try.underlying23 sz_5 h2 (h := ((0 : Nat) : Int)) ⟨by omega, by omega⟩
    refine q_val F rfl rfl (by decide) (r_slice (vl := none) (vh := some (.int .i64 ((0 : Nat) : Int))) (vm := none) F rfl rfl rfl rfl hr) fun a F => ?_
    refine q_val F rfl rfl (by decide) (r_assign F rfl) fun a F => ?_
    refine nil ?_
    refine hK5 _ _ ?_
    refine wp_seq_k fun K7 hK7 => ?_
    refine reg ?_
    refine q_val F rfl rfl (by decide) (r_move F rfl) fun a F => ?_
    refine q_val F rfl rfl (by decide) (r_assign F rfl) fun a F => ?_
    refine nil ?_
    refine hK7 _ _ ?_
    refine wp_ret ?_
    refine out1 F rfl rfl ?_
    exact ⟨fun b_ => (fun x_ => if x_ = m + 1 then jr else if x_ < m then x_ else 0) (c1 b_), A2, C2, rfl, E.leave B0 (fun x_ => if x_ = m + 1 then jr else if x_ < m then x_ else 0) (by intro x_ hx_; show (if x_ = m + 1 then jr else if x_ < m then x_ else 0) = x_; ((repeat' split) <;> omega)), (fun b_ hb_ => by show (if (c1 b_) = m + 1 then jr else if (c1 b_) < m then (c1 b_) else 0) < m; ((repeat' split) <;> omega)),
      SL.rc h3 (fun k_ hk_ => by show (if (c1 k_) = m + 1 then jr else if (c1 k_) < m then (c1 k_) else 0) = _; rw [hk_]; ((repeat' split) <;> omega)) (fun k_ hk_ => by show (if (c1 k_) = m + 1 then jr else if (c1 k_) < m then (c1 k_) else 0) = _; rw [hk_]; ((repeat' split) <;> omega))⟩
  · refine wp_cond_false ((F.ev rfl).trans (congrArg Value.bool (decide_eq_false hn))) ?_
    refine wp_skip ?_
    refine hK5 _ _ ?_
    refine wp_seq_k fun K7 hK7 => ?_
    refine reg ?_
    refine q_val F rfl rfl (by decide) (r_move F rfl) fun a F => ?_
    refine q_val F rfl rfl (by decide) (r_assign F rfl) fun a F => ?_
    refine nil ?_
    refine hK7 _ _ ?_
    refine wp_ret ?_
    refine out1 F rfl rfl ?_
    exact ⟨c0, none, 0, rfl, Ev.refl, B0, SL.nil⟩
end Go.Proofs.Ytcolmmjcdlmcoaa.G
/-! Arguments opened: what the reading of an argument says in the words of kinds. -/
namespace Go.Proofs.Ytcolmmjcdlmcoaa.G
open Go Go.ChangeShapes Go.WideShapes
set_option linter.unusedVariables false
set_option linter.unusedSimpArgs false
/-! ### bulk -/
theorem bulk_one {H : Type} (d : DataW H) : 1 ≤ Rows.uptoBulk d := by
  cases d with
  | lit l => cases l <;> simp [Rows.uptoBulk]
  | nil => simp [Rows.uptoBulk]
  | ptr d => simp [Rows.uptoBulk]
  | slice elems spare => simp [Rows.uptoBulk]
  | agg parts => simp [Rows.uptoBulk]
  | iface t d => simp [Rows.uptoBulk]
  | map entries => simp [Rows.uptoBulk]
  | held h => simp [Rows.uptoBulk]
theorem bulk_slice {H : Type} (elems spare : List (DataW H)) : Rows.uptoBulkAll elems + 1 ≤ Rows.uptoBulk (.slice elems spare) := by
  simp only [Rows.uptoBulk]
  omega
theorem bulk_agg {H : Type} (parts : List (DataW H)) : Rows.uptoBulkAll parts + 1 ≤ Rows.uptoBulk (.agg parts) := by
  simp only [Rows.uptoBulk]
  omega
theorem bulk_all {H : Type} : ∀ l : List (DataW H), Rows.uptoBulkAll l = (l.map Rows.uptoBulk).sum
  | [] => by simp [Rows.uptoBulkAll]
  | d :: l => by simp [Rows.uptoBulkAll, bulk_all l]
/-! ### openers -/
def c0 : Nat → Nat := fun _ => 0
def Opens {α : Type} (P : Program) (w : World) (t : TypeId) (e : K α) (wt : α → Nat) (ok : α → Prop) : Prop :=
  ∀ (H : Type) (enc : TypeId × Value → H) (fuel : Nat) (cs : List Value) (x : DataW H × List MemPlace), DataW.trod enc P w 0 (fun _ => true) true fuel t cs = some x → ∃ y, e.rep 0 c0 w cs y ∧ wt y ≤ Rows.uptoBulk x.1 ∧ ok y
section
variable {α : Type} {P : Program} {w : World} {t u : TypeId} {e : K α} {wt : α → Nat} {ok : α → Prop}
theorem opens_int {k : IntKind} (ht : P.underlying t = some (.int k)) : Opens P w t (Kint k) (fun _ => 1) (fun n => (Lit.int k n).wf = true) := by
  intro H enc fuel cs x h
  obtain ⟨n, rfl, rfl, hw⟩ := DataW.trod_int ht h
  exact ⟨n, rfl, bulk_one _, hw⟩
theorem opens_bool (ht : P.underlying t = some .bool) : Opens P w t Kbool (fun _ => 1) (fun _ => True) := by
  intro H enc fuel cs x h
  obtain ⟨n, rfl, rfl⟩ := DataW.trod_bool ht h
  exact ⟨n, rfl, bulk_one _, trivial⟩
theorem at_cell {p : Addr} {v : Value} (h : w.cell? p = some v) : p = ⟨p.block, p.off, none⟩ ∧ ∃ cur ty fz, w.heap[p.block]? = some (.cells cur ty fz) ∧ cur[p.off]? = some v := by
  obtain ⟨b, off, spot⟩ := p
  simp only [World.cell?] at h
  split at h
  · rename_i c ty fz hb
    cases spot with
    | some s => simp at h
    | none => exact ⟨rfl, c, ty, fz, hb, by simpa using h⟩
  · cases h
theorem at_cells {p : Addr} {n : Nat} {cs : List Value} (hn : cs.length = n) (hp : 0 < n) (h : ∀ i, i < n → w.cell? (p.add i) = cs[i]?) : AT false 0 c0 w p cs := by
  have h0 := h 0 hp
  have e0 : p.add 0 = p := by simp [Addr.add]
  rw [e0, List.getElem?_eq_getElem (by omega)] at h0
  obtain ⟨ep, cur, ty, fz, hb, hc⟩ := at_cell h0
  refine ⟨p.block, p.off, cur, ty, fz, ep, hb, rfl, fun k hk => ?_, fun q => by cases q⟩
  have hk' := h k (by omega)
  rw [ep, add_eq] at hk'
  simp only [World.cell?, hb] at hk'
  simpa using hk'
theorem sum_le {β γ : Type} (f : β → Nat) (g : γ → Nat) : ∀ (l : List β) (m : List γ), l.length = m.length → (∀ i (h : i < l.length) (h' : i < m.length), f l[i] ≤ g m[i]) → (l.map f).sum ≤ (m.map g).sum
  | [], [], _, _ => Nat.le_refl _
  | [], _ :: _, h, _ => by simp at h
  | _ :: _, [], h, _ => by simp at h
  | a :: l, b :: m, h, hh => by
    simp only [List.map_cons, List.sum_cons]
    have h0 := hh 0 (by simp) (by simp)
    simp only [List.getElem_cons_zero] at h0
    have := sum_le f g l m (by simpa using h) (fun i h1 h2 => by
      have := hh (i + 1) (by simp; omega) (by simp; omega)
      simpa using this)
    omega
/-- A slice of them. -/
theorem open_sl [Inhabited α] (ht : P.underlying t = some (.slice u)) (hc : P.cellsOf u = e.sz) (hu : Opens P w u e wt ok) {H : Type} {enc : TypeId × Value → H} {fuel : Nat} {cs : List Value} {x : DataW H × List MemPlace}
    (h : DataW.trod enc P w 0 (fun _ => true) true fuel t cs = some x) :
    ∃ A cap xs, cs = [.slice A xs.length cap] ∧ SL false e 0 0 c0 w A cap xs ∧ (xs.map wt).sum + 1 ≤ Rows.uptoBulk x.1 ∧ ∀ y ∈ xs, ok y := by
  rcases Deep.open_slice ht h with ⟨rfl, rfl⟩ | ⟨a, len, cap, m, n, D, Pl, rfl, _, hl, hm, hmm, rfl, hx⟩
  · exact ⟨none, 0, [], rfl, SL.nil, by simp [Rows.uptoBulk], fun y hy => by cases hy⟩
  simp only [if_true] at hmm
  subst hmm
  have hp := e.pos
  rw [hc] at hx
  have each : ∀ i, i < m → ∃ y : List Value × α, (y.1.length = e.sz ∧ ∀ k, k < e.sz → w.cell? ((a.add (i * e.sz)).add k) = y.1[k]?) ∧ e.rep 0 c0 w y.1 y.2 ∧ wt y.2 ≤ Rows.uptoBulk (D i) ∧ ok y.2 := by
    intro i hi
    obtain ⟨cs', h1, h2⟩ := hx i hi
    obtain ⟨_, g1, g2⟩ := World.cells?_some h1
    obtain ⟨y, g3, g4, g5⟩ := hu H enc n cs' _ h2
    exact ⟨(cs', y), ⟨g1, g2⟩, g3, g4, g5⟩
  obtain ⟨y, hy⟩ := Deep.choose_lt each
  let V : Nat → Value := fun q => (y (q / e.sz)).1.getD (q % e.sz) default
  have hV : ∀ i k, k < e.sz → V (i * e.sz + k) = (y i).1.getD k default := by
    intro i k hk
    show (y ((i * e.sz + k) / e.sz)).1.getD ((i * e.sz + k) % e.sz) default = _
    rw [Nat.mul_comm, Nat.mul_add_div hp, Nat.div_eq_of_lt hk, Nat.add_zero, Nat.mul_add_mod, Nat.mod_eq_of_lt hk]
  let cs := (List.range (m * e.sz)).map V
  have hcs : cs.length = m * e.sz := by simp [cs]
  have hcell : ∀ q, q < m * e.sz → w.cell? (a.add q) = cs[q]? := by
    intro q hq
    have hi : q / e.sz < m := (Nat.div_lt_iff_lt_mul hp).2 hq
    have hk : q % e.sz < e.sz := Nat.mod_lt _ hp
    obtain ⟨⟨g1, g2⟩, _⟩ := hy _ hi
    have g := g2 _ hk
    have e1 : (a.add (q / e.sz * e.sz)).add (q % e.sz) = a.add q := by
      have e2 : q / e.sz * e.sz + q % e.sz = q := Nat.div_add_mod' q e.sz
      obtain ⟨b, off, s⟩ := a
      simp only [Addr.add]
      split <;> split <;> split <;> simp_all <;> omega
    rw [e1] at g
    rw [g]
    simp only [cs, List.getElem?_map, List.getElem?_range hq, Option.map_some]
    show _ = some ((y (q / e.sz)).1.getD (q % e.sz) default)
    rw [List.getD_eq_getElem?_getD, List.getElem?_eq_getElem (by omega)]
    rfl
  refine ⟨some a, m, (List.range len).map fun i => (y i).2, by simp, ⟨cs, by simpa using hl, hm, hcs, ?_, fun n hn => ?_⟩, ?_, ?_⟩
  · rcases Nat.eq_zero_or_pos (m * e.sz) with q | q
    · left; exact List.length_eq_zero_iff.1 (by omega)
    · right; exact ⟨a, rfl, at_cells hcs q hcell⟩
  · simp only [List.length_map, List.length_range] at hn
    obtain ⟨⟨g1, _⟩, g3, _, _⟩ := hy n (by omega)
    have e1 : (cs.drop (n * e.sz)).take e.sz = (y n).1 := by
      apply List.ext_getElem?
      intro k
      by_cases hk : k < e.sz
      · have hq : n * e.sz + k < m * e.sz := by
          have : (n + 1) * e.sz ≤ m * e.sz := Nat.mul_le_mul_right _ (by omega)
          rw [Nat.succ_mul] at this; omega
        rw [List.getElem?_take_of_lt hk, List.getElem?_drop]
        simp only [cs, List.getElem?_map, List.getElem?_range hq, Option.map_some]
        rw [hV n k hk, List.getD_eq_getElem?_getD, List.getElem?_eq_getElem (by omega)]
        rfl
      · rw [List.getElem?_eq_none (by simp; omega), List.getElem?_eq_none (by omega)]
    rw [e1]
    simpa using g3
  · refine Nat.le_trans (Nat.succ_le_succ ?_) (bulk_slice _ _)
    rw [bulk_all]
    rw [List.map_map, List.map_map]
    have := sum_le (fun i => wt (y i).2) (fun i => Rows.uptoBulk (D i)) (List.range len) (List.range len) rfl (fun i h1 h2 => by
      simp only [List.length_range] at h1
      simp only [List.getElem_range]
      exact (hy i (by omega)).2.2.1)
    exact this
  · intro z hz
    obtain ⟨i, hi, rfl⟩ := List.mem_map.1 hz
    exact (hy i (by have := List.mem_range.1 hi; omega)).2.2.2
theorem opens_slice [Inhabited α] (ht : P.underlying t = some (.slice u)) (hc : P.cellsOf u = e.sz) (hu : Opens P w u e wt ok) : Opens P w t (Kslice e) (fun xs => (xs.map wt).sum + 1) (fun xs => ∀ y ∈ xs, ok y) := by
  intro H enc fuel cs x h
  obtain ⟨A, cap, xs, h1, h2, h3, h4⟩ := open_sl ht hc hu h
  exact ⟨xs, ⟨A, cap, h1, h2⟩, h3, h4⟩
end
end Go.Proofs.Ytcolmmjcdlmcoaa.G
/-! The arguments of the rows: ops opened. -/
namespace Go.Proofs.Ytcolmmjcdlmcoaa.G
open Go Go.ChangeShapes Go.WideShapes
set_option linter.unusedVariables false
theorem row_own : ownKnob Try.prog.godebug = none := by kernel_rfl
theorem row_laidOut : laidOutB Try.prog = true := by kernel_rfl
theorem cells5 : Try.prog.cellsOf 5 = 1 := by kernel_rfl
theorem cells3 : Try.prog.cellsOf 3 = 1 := by kernel_rfl
theorem cells23 : Try.prog.cellsOf 23 = 1 := by kernel_rfl
theorem cells33 : Try.prog.cellsOf 33 = 4 := by kernel_rfl
def byteok (n : Int) : Prop := (Lit.int .u8 n).wf = true
def bytesok (xs : List Int) : Prop := ∀ n ∈ xs, byteok n
theorem byteok.range {n : Int} (h : byteok n) : 0 ≤ n ∧ n ≤ 255 := by simpa [byteok, Lit.wf, IntKind.min, IntKind.max, IntKind.signed, IntKind.bits] using h
abbrev opwt (o : api_Op) : Nat := o.Key.length + o.Value.length + 1
def opok (o : api_Op) : Prop := bytesok o.Key ∧ bytesok o.Value
theorem sum_one {α : Type} (xs : List α) : (xs.map fun _ => 1).sum = xs.length := by
  induction xs with
  | nil => rfl
  | cons x xs ih => simp [ih]; omega
theorem opens_bytes {w : World} : Opens Try.prog w 23 (Kslice (Kint .u8)) (fun xs => xs.length + 1) bytesok := by
  intro H enc fuel cs x h
  obtain ⟨y, h1, h2, h3⟩ := opens_slice (e := Kint .u8) Try.underlying23 cells5 (opens_int Try.underlying5) H enc fuel cs x h
  have h2' : (y.map fun _ => 1).sum + 1 ≤ Rows.uptoBulk x.1 := h2
  rw [sum_one] at h2'
  exact ⟨y, h1, h2', h3⟩
set_option maxRecDepth 100000 in
theorem opens_op {w : World} : Opens Try.prog w 33 K_api_Op opwt opok := by
  intro H enc fuel cs x h
  obtain ⟨xs, n, rfl, rfl, hl, hxl, hf⟩ := DataW.trod_struct Try.underlying33 h
  rw [cells33] at hl
  match cs, hl with
  | [v0, v1, v2, v3], _ =>
    match xs, hxl with
    | [x0, x1, x2, x3], _ =>
      have g0 : DataW.trod enc Try.prog w 0 (fun _ => true) true n 3 (([v0, v1, v2, v3].drop 0).take (Try.prog.cellsOf 3)) = some x0 := hf 0 _ rfl
      rw [cells3] at g0
      replace g0 : DataW.trod enc Try.prog w 0 (fun _ => true) true n 3 [v0] = some x0 := g0
      have g1 : DataW.trod enc Try.prog w 0 (fun _ => true) true n 23 (([v0, v1, v2, v3].drop 1).take (Try.prog.cellsOf 23)) = some x1 := hf 1 _ rfl
      rw [cells23] at g1
      replace g1 : DataW.trod enc Try.prog w 0 (fun _ => true) true n 23 [v1] = some x1 := g1
      have g2 : DataW.trod enc Try.prog w 0 (fun _ => true) true n 23 (([v0, v1, v2, v3].drop 2).take (Try.prog.cellsOf 23)) = some x2 := hf 2 _ rfl
      rw [cells23] at g2
      replace g2 : DataW.trod enc Try.prog w 0 (fun _ => true) true n 23 [v2] = some x2 := g2
      have g3 : DataW.trod enc Try.prog w 0 (fun _ => true) true n 3 (([v0, v1, v2, v3].drop 3).take (Try.prog.cellsOf 3)) = some x3 := hf 3 _ rfl
      rw [cells3] at g3
      replace g3 : DataW.trod enc Try.prog w 0 (fun _ => true) true n 3 [v3] = some x3 := g3
      obtain ⟨y0, r0, -, -⟩ := opens_int (w := w) Try.underlying3 H enc n _ _ g0
      obtain ⟨y1, ⟨A1, C1, e1, s1⟩, b1, k1⟩ := opens_bytes (w := w) H enc n _ _ g1
      obtain ⟨y2, ⟨A2, C2, e2, s2⟩, b2, k2⟩ := opens_bytes (w := w) H enc n _ _ g2
      obtain ⟨y3, r3, -, -⟩ := opens_int (w := w) Try.underlying3 H enc n _ _ g3
      have r0' : [v0] = [.int .i64 y0] := r0
      have r3' : [v3] = [.int .i64 y3] := r3
      simp only [List.cons.injEq, and_true] at r0' r3' e1 e2
      refine ⟨⟨y0, y1, y2, y3⟩, ⟨A1, C1, A2, C2, by rw [r0', r3', e1, e2], s1, s2⟩, ?_, k1, k2⟩
      refine Nat.le_trans ?_ (bulk_agg _)
      simp only [List.map_cons, List.map_nil, Rows.uptoBulkAll]
      have q0 := bulk_one x0.1; have q3 := bulk_one x3.1
      have b1' : y1.length + 1 ≤ Rows.uptoBulk x1.1 := b1
      have b2' : y2.length + 1 ≤ Rows.uptoBulk x2.1 := b2
      show y1.length + y2.length + 1 ≤ _
      omega
theorem opsum_len : ∀ xs : List api_Op, xs.length ≤ (xs.map opwt).sum
  | [] => Nat.le_refl _
  | o :: xs => by have := opsum_len xs; simp only [List.map_cons, List.sum_cons, List.length_cons, opwt]; omega
/-- an argument of ops -/
theorem arg_ops {H : Type} {enc : TypeId × Value → H} {w : World} {v : Value} {d : DataW H} {p : List MemPlace} (hv : ∃ a len cap, v = .slice a len cap) (h : DataW.Trod enc Try.prog w 0 (fun _ => true) true 22 v d p) :
    ∃ A C xs, v = .slice A xs.length C ∧ SL false K_api_Op 0 0 c0 w A C xs ∧ (xs.map opwt).sum + 1 ≤ Rows.uptoBulk d ∧ ∀ o ∈ xs, opok o := by
  obtain ⟨a, len, cap, rfl⟩ := hv
  obtain ⟨fuel, hf⟩ := h
  obtain ⟨A, C, xs, e, h1, h2, h3⟩ := open_sl (e := K_api_Op) Try.underlying22 cells33 opens_op hf
  refine ⟨A, C, xs, ?_, h1, h2, h3⟩
  have e' : [Value.slice a len cap] = [.slice A xs.length C] := e
  exact List.head_eq_of_cons_eq e'
/-- an argument of bytes -/
theorem arg_bytes {H : Type} {enc : TypeId × Value → H} {w : World} {v : Value} {d : DataW H} {p : List MemPlace} (hv : ∃ a len cap, v = .slice a len cap) (h : DataW.Trod enc Try.prog w 0 (fun _ => true) true 23 v d p) :
    ∃ A C xs, v = .slice A xs.length C ∧ SL false (Kint .u8) 0 0 c0 w A C xs ∧ xs.length + 1 ≤ Rows.uptoBulk d ∧ bytesok xs := by
  obtain ⟨a, len, cap, rfl⟩ := hv
  obtain ⟨fuel, hf⟩ := h
  obtain ⟨A, C, xs, e, h1, h2, h3⟩ := open_sl (e := Kint .u8) Try.underlying23 cells5 (opens_int Try.underlying5) hf
  rw [sum_one] at h2
  refine ⟨A, C, xs, ?_, h1, h2, h3⟩
  have e' : [Value.slice a len cap] = [.slice A xs.length C] := e
  exact List.head_eq_of_cons_eq e'
end Go.Proofs.Ytcolmmjcdlmcoaa.G
