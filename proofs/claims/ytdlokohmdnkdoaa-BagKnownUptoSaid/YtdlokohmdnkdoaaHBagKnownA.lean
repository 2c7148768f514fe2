/- Words, contracts and plain laws on which the row of 'BagKnown' hangs (its '..UptoSaid': inputs of bulk at most 1048576). -/
import GoSem.Claim
import Derived.WalkKit
import Derived.Orders
import Derived.OrdersHeld
import Derived.ArgAppend
import Derived.Lib.Hide
import Derived.Test.YtdlokohmdnkdoaaProg
import Derived.OrdersIn
import Derived.RangeFuncSeq
import Derived.RangeFuncCalls
import Derived.Laws.BytesArg
import Derived.Laws.BytesString
import Derived.Laws.OwnMore
import Derived.Laws.IdiomStrings
import Derived.MapKept
import Derived.Below
import Derived.Laws.Pointers
import Derived.KernelRfl
import Derived.Laws.MakeOwn
import Derived.RangeFuncLeaves
import Derived.RangeFuncNested
import Derived.RangeFuncBound
import Derived.Laws.CopyRow
import Derived.Lib.AppendZerosOnto
import Derived.Maps.OwnSet
import Derived.Laws.StructEq
import Derived.Maps.RangeWalk
import Derived.Shelf.SortM.Plain
import Derived.Shelf.SortM.SortNone
import Derived.Ground.SlgmProg
import Derived.Shelf.SlGeneric
import Derived.Shelf.SlSortCmp.NoneTotal
import Derived.Ground.SlsfProg
import Derived.WalkSpells
/-! Words of the plain side. -/
namespace Go.Proofs.Ytdlokohmdnkdoaa.G
open Go
set_option linter.unusedVariables false
inductive Ctl (S X : Type) where
  | next (s : S)
  | done (x : X)
def loop {S X : Type} (f : S → Option (Ctl S X)) : Nat → S → Option X
  | 0, _ => none
  | n + 1, s => (f s).bind fun
    | .next s' => loop f n s'
    | .done x => some x
theorem loop_some {S X : Type} {f : S → Option (Ctl S X)} {k : Nat} {s : S} {x : X} (h : loop f k s = some x) :
    ∃ n ctl, k = n + 1 ∧ f s = some ctl ∧ (∀ s', ctl = .next s' → loop f n s' = some x) ∧ (∀ x', ctl = .done x' → x' = x) := by
  cases k with
  | zero => cases h
  | succ n =>
    unfold loop at h
    cases hf : f s with
    | none => rw [hf] at h; cases h
    | some ctl =>
      rw [hf] at h
      refine ⟨n, ctl, rfl, rfl, ?_, ?_⟩
      · rintro s' rfl; exact h
      · rintro x' rfl; exact Option.some.inj h
theorem bind_some {α β : Type} {x : Option α} {f : α → Option β} {r : β} (h : x.bind f = some r) : ∃ y, x = some y ∧ f y = some r := by
  cases x with
  | none => cases h
  | some y => exact ⟨y, rfl, h⟩
theorem ifN {β : Type} {p : Prop} [Decidable p] {x : Option β} {r : β} (h : (if p then x else none) = some r) : p ∧ x = some r := by
  split at h
  · exact ⟨by assumption, h⟩
  · cases h
theorem nt {b : Bool} (h : (!b) = true) : b = false := by cases b <;> simp_all
theorem nf {b : Bool} (h : (!b) = false) : b = true := by cases b <;> simp_all
theorem bfalse {b : Bool} (h : ¬ b = true) : b = false := by cases b <;> simp_all
theorem ntrue {b : Bool} (h : b = false) : ¬ b = true := by rw [h]; exact Bool.false_ne_true
/-- the element at a place -/
def rd {α : Type} [Inhabited α] (xs : List α) (k : Int) : α := xs.getD k.toNat default
def sb (s : ByteArray) : List Int := s.data.toList.map fun b => (b.toNat : Int)
def band (k : IntKind) (m n : Int) : Int := k.wrap (BitVec.ofInt k.bits m &&& BitVec.ofInt k.bits n).toNat
def bor (k : IntKind) (m n : Int) : Int := k.wrap (BitVec.ofInt k.bits m ||| BitVec.ofInt k.bits n).toNat
def bxor (k : IntKind) (m n : Int) : Int := k.wrap (BitVec.ofInt k.bits m ^^^ BitVec.ofInt k.bits n).toNat
def shl (k : IntKind) (m n : Int) : Int := k.wrap (m * 2 ^ (min n.toNat k.bits))
def shr (k : IntKind) (m n : Int) : Int := m.fdiv (2 ^ (min n.toNat k.bits))
def bs (l : List Int) : ByteArray := ⟨(l.map fun n => UInt8.ofNat n.toNat).toArray⟩
def Ctl.el {S X β : Type} (t : Ctl S X) (f : S → β) (g : X → β) : β := match t with
  | .next s => f s
  | .done x => g x
/-! ranges over functions -/
def thenC {S X : Type} (y : Option (Ctl S X)) (f : S → Option (Ctl S X)) : Option (Ctl S X) := match y with
  | none => none
  | some (.done x) => some (.done x)
  | some (.next s) => f s
theorem thenC_some {S X : Type} {y : Option (Ctl S X)} {f : S → Option (Ctl S X)} {r : Ctl S X} (h : thenC y f = some r) : ∃ t, y = some t ∧ t.el (fun s => f s = some r) (fun x => Ctl.done x = r) := by
  cases y with
  | none => cases h
  | some t => cases t with
    | next s => exact ⟨_, rfl, h⟩
    | done x => exact ⟨_, rfl, Option.some.inj h⟩
/-- a map, as a function, and how many stores it has seen -/
structure MpV (β : Type) where
  f : Int → Option β
  n : Nat
instance {β : Type} : Inhabited (MpV β) := ⟨⟨fun _ => none, 0⟩⟩
/-- a map whose length is told, too -/
structure MkV (β : Type) where
  f : Int → Option β
  n : Nat
  len : Int
instance {β : Type} : Inhabited (MkV β) := ⟨⟨fun _ => none, 0, 0⟩⟩
def MkV.keys {β : Type} (o : MkV β) (n : Int) : List Int := ((List.range n.toNat).map fun i : Nat => (i : Int)).filter fun i => (o.f i).isSome
def MkV.put {β : Type} (o : MkV β) (k : Int) (x : β) : MkV β := ⟨fun i => if i = k then some x else o.f i, o.n + 1, if (o.f k).isSome then o.len else o.len + 1⟩
def MkV.del {β : Type} (o : MkV β) (k : Int) : MkV β := ⟨fun i => if i = k then none else o.f i, o.n, if (o.f k).isSome then o.len - 1 else o.len⟩
end Go.Proofs.Ytdlokohmdnkdoaa.G
namespace Go.Proofs.Ytdlokohmdnkdoaa.G
open Go
set_option linter.unusedVariables false
set_option linter.unusedSimpArgs false
structure api_Letter where
  Number : Int
  From : Int
  To : Int
  Data : List Int
deriving Inhabited, DecidableEq
structure api_Traffic where
  Sent : Int
  Twice : Int
  Delivered : Int
  Dropped : Int
  Lost : Int
deriving Inhabited, DecidableEq
structure haulagelaw20_Op where
  Who : Int
  Kind : Int
  Number : Int
  To : Int
  Data : List Int
deriving Inhabited, DecidableEq
structure Bag where
  under : MkV api_Letter
  next : Int
  told : api_Traffic
deriving Inhabited
def slices_Clone.f (a1 : List Int) : Option (List Int) := if a1.length * 1 ≤ 140737488355328 then some a1 else none
/-- a map whose keys are numbers below n, each letter with its own: as the bag keeps it -/
def MkV.tidy (o : MkV api_Letter) (n : Int) : Prop := n ≤ 1000000000 ∧ ((o.keys n).length : Int) = o.len ∧ ∀ k ∈ o.keys n, ((o.f k).getD default).Number = k ∧ ((o.f k).getD default).Data.length ≤ 140737488355328
instance (o : MkV api_Letter) (n : Int) : Decidable (o.tidy n) := by unfold MkV.tidy; infer_instance
/-- what waits, by rising numbers -/
def MkV.all (o : MkV api_Letter) (n : Int) : List api_Letter := (o.keys n).map fun k => (o.f k).getD default
def bag_Bag_Waiting.f (o : Option Bag) : Option (List api_Letter) := match o with
  | none => some []
  | some b => if b.under.tidy b.next then some (b.under.all b.next) else none
def bag_Bag_For.f (o : Option Bag) (t : Int) : Option (List Int) := match o with
  | none => some []
  | some b => if b.under.tidy b.next then some ((b.under.keys b.next).filter fun k => decide (((b.under.f k).getD default).To = t)) else none
/-! haulage/bag.own -/
def bag_own.f (a1 : api_Letter) : Option api_Letter := (slices_Clone.f a1.Data).bind fun t21 => some (api_Letter.mk a1.Number a1.From a1.To t21)
/-! haulage/bag.New -/
def bag_New.f : Option (Option Bag) := some (some (Bag.mk (MkV.mk (fun _ => none) 0 0) 0 (api_Traffic.mk 0 0 0 0 0)))
/-! (*haulage/bag.Bag).put -/
def bag_Bag_put.f (a1 : Option Bag) (a6 : api_Letter) : Option (Int × (Option Bag)) := (a1).bind fun ob19 => ((bag_own.f (api_Letter.mk ob19.next a6.From a6.To a6.Data)).bind fun t33 => if (Lit.int .i64 ob19.next).wf = true ∧ ob19.under.n < 140737488355328 then (some (ob19.next, (some (Bag.mk (MkV.put ob19.under ob19.next t33) (IntKind.i64.wrap (ob19.next + 1)) ob19.told)))) else none)
/-! (*haulage/bag.Bag).room -/
def bag_Bag_room.f (a1 : Option Bag) : Option (Int × (Option Bag)) := (a1).bind fun ob9 => (if 65536 ≤ ob9.under.len then (some (201, (some (Bag.mk ob9.under ob9.next (api_Traffic.mk ob9.told.Sent ob9.told.Twice ob9.told.Delivered ob9.told.Dropped (IntKind.i64.wrap (ob9.told.Lost + 1))))))) else (some (0, a1)))
/-! (*haulage/bag.Bag).Send -/
def bag_Bag_Send.j1 (a1 : Option Bag) (a6 : Int) (a7 : Int) (a8 : List Int) (b19 : Bool) : Option (Int × Int × (Option Bag)) := if b19 = true then (some (0, 2, a1)) else (if 524288 < (a8.length : Int) then (some (0, 3, a1)) else ((bag_Bag_room.f a1).bind fun t30 => if t30.1 = 0 then ((t30.2).bind fun ob42 => ((bag_Bag_put.f (some (Bag.mk ob42.under ob42.next (api_Traffic.mk (IntKind.i64.wrap (ob42.told.Sent + 1)) ob42.told.Twice ob42.told.Delivered ob42.told.Dropped ob42.told.Lost))) (api_Letter.mk 0 a6 a7 a8)).bind fun t55 => some (t55.1, 0, t55.2))) else (some (0, t30.1, t30.2))))
def bag_Bag_Send.f (a1 : Option Bag) (a6 : Int) (a7 : Int) (a8 : List Int) : Option (Int × Int × (Option Bag)) := if (Option.isNone a1) = true then (some (0, 1, a1)) else (if a6 < 0 then (bag_Bag_Send.j1 a1 a6 a7 a8 true) else (bag_Bag_Send.j1 a1 a6 a7 a8 (decide (a7 < 0))))
/-! (*haulage/bag.Bag).find -/
def bag_Bag_find.f (a1 : Option Bag) (a6 : Int) : Option (api_Letter × Int) := if (Option.isNone a1) = true then (some (api_Letter.mk 0 0 0 [], 1)) else ((a1).bind fun ob23 => (if (Lit.int .i64 a6).wf = true then (if ((ob23.under.f a6).isSome) = true then (some (((ob23.under.f a6).getD default), 0)) else (some (api_Letter.mk 0 0 0 [], 200))) else none))
/-! (*haulage/bag.Bag).Deliver -/
def bag_Bag_Deliver.f (a1 : Option Bag) (a6 : Int) : Option (api_Letter × Int × (Option Bag)) := (bag_Bag_find.f a1 a6).bind fun t16 => if t16.2 = 0 then ((a1).bind fun ob44 => (if (Lit.int .i64 a6).wf = true then (some (t16.1, 0, (some (Bag.mk (MkV.del ob44.under a6) ob44.next (api_Traffic.mk ob44.told.Sent ob44.told.Twice (IntKind.i64.wrap (ob44.told.Delivered + 1)) ob44.told.Dropped ob44.told.Lost))))) else none)) else (some (api_Letter.mk 0 0 0 [], t16.2, a1))
/-! (*haulage/bag.Bag).Drop -/
def bag_Bag_Drop.f (a1 : Option Bag) (a6 : Int) : Option (Int × (Option Bag)) := (bag_Bag_find.f a1 a6).bind fun t10 => if t10.2 = 0 then ((a1).bind fun ob34 => (if (Lit.int .i64 a6).wf = true then (some (0, (some (Bag.mk (MkV.del ob34.under a6) ob34.next (api_Traffic.mk ob34.told.Sent ob34.told.Twice ob34.told.Delivered (IntKind.i64.wrap (ob34.told.Dropped + 1)) ob34.told.Lost))))) else none)) else (some (t10.2, a1))
/-! (*haulage/bag.Bag).Twice -/
def bag_Bag_Twice.f (a1 : Option Bag) (a6 : Int) : Option (Int × Int × (Option Bag)) := (bag_Bag_find.f a1 a6).bind fun t9 => if t9.2 = 0 then ((bag_Bag_room.f a1).bind fun t35 => if t35.1 = 0 then ((t35.2).bind fun ob47 => ((bag_Bag_put.f (some (Bag.mk ob47.under ob47.next (api_Traffic.mk ob47.told.Sent (IntKind.i64.wrap (ob47.told.Twice + 1)) ob47.told.Delivered ob47.told.Dropped ob47.told.Lost))) t9.1).bind fun t60 => some (t60.1, 0, t60.2))) else (some (0, t35.1, t35.2))) else (some (0, t9.2, a1))
/-! (*haulage/bag.Bag).Len -/
def bag_Bag_Len.f (a1 : Option Bag) : Option Int := if (Option.isNone a1) = true then (some 0) else ((a1).bind fun ob12 => (some ob12.under.len))
/-! (*haulage/bag.Bag).Counts -/
def bag_Bag_Counts.f (a1 : Option Bag) : Option api_Traffic := if (Option.isNone a1) = true then (some (api_Traffic.mk 0 0 0 0 0)) else ((a1).bind fun ob22 => (some ob22.told))
/-! haulage/haulagelaw20.num -/
def haulagelaw20_num.f (a1 : Int) : Option Int := some a1
/-! haulage/haulagelaw20.same -/
def haulagelaw20_same.j2 : Option Bool := some true
def haulagelaw20_same.b1 (a1 : List Int) (a5 : List Int) (i16 : Int) : Option (Ctl Int (Sum Unit Bool)) := if i16 < (a1.length : Int) then (if 0 ≤ i16 ∧ i16 < (a1.length : Int) then (if 0 ≤ i16 ∧ i16 < (a5.length : Int) then (if (rd a1 i16) = (rd a5 i16) then (some (.next (IntKind.i64.wrap (i16 + 1)))) else (some (.done (.inr false)))) else none) else none) else (some (.done (.inl ())))
def haulagelaw20_same.f (k : Nat) (a1 : List Int) (a5 : List Int) : Option Bool := if (a1.length : Int) = (a5.length : Int) then ((loop (fun (s_ : Int) => haulagelaw20_same.b1 a1 a5 s_) k 0).bind fun x_ => match x_ with | .inl y_ => haulagelaw20_same.j2 | .inr q_ => some q_) else (some false)
/-! haulage/haulagelaw20.alike -/
def haulagelaw20_alike.f (k : Nat) (a1 : api_Letter) (a5 : api_Letter) : Option Bool := if a1.Number = a5.Number then (if a1.From = a5.From then (if a1.To = a5.To then ((haulagelaw20_same.f k a1.Data a5.Data).bind fun t28 => some t28) else (some false)) else (some false)) else (some false)
/-! haulage/haulagelaw20.ints -/
def haulagelaw20_ints.j2 : Option Bool := some true
def haulagelaw20_ints.b1 (a1 : List Int) (a5 : List Int) (i16 : Int) : Option (Ctl Int (Sum Unit Bool)) := if i16 < (a1.length : Int) then (if 0 ≤ i16 ∧ i16 < (a1.length : Int) then (if 0 ≤ i16 ∧ i16 < (a5.length : Int) then (if (rd a1 i16) = (rd a5 i16) then (some (.next (IntKind.i64.wrap (i16 + 1)))) else (some (.done (.inr false)))) else none) else none) else (some (.done (.inl ())))
def haulagelaw20_ints.f (k : Nat) (a1 : List Int) (a5 : List Int) : Option Bool := if (a1.length : Int) = (a5.length : Int) then ((loop (fun (s_ : Int) => haulagelaw20_ints.b1 a1 a5 s_) k 0).bind fun x_ => match x_ with | .inl y_ => haulagelaw20_ints.j2 | .inr q_ => some q_) else (some false)
/-! haulage/haulagelaw20.known -/
def haulagelaw20_known.f : Option Bool := (bag_New.f).bind fun t3 => if (Option.isNone t3) = true then (some false) else ((bag_Bag_Send.f t3 0 1 [97]).bind fun t29 => (bag_Bag_Send.f t29.2.2 1 0 [98]).bind fun t50 => (bag_Bag_Send.f t50.2.2 0 1 []).bind fun t59 => (bag_Bag_Twice.f t59.2.2 1).bind fun t68 => if t29.1 = 0 then (if t50.1 = 1 then (if t59.1 = 2 then (if t68.1 = 3 then ((haulagelaw20_num.f t29.2.1).bind fun t81 => if t81 = 0 then ((haulagelaw20_num.f t50.2.1).bind fun t89 => if t89 = 0 then ((haulagelaw20_num.f t59.2.1).bind fun t97 => if t97 = 0 then ((haulagelaw20_num.f t68.2.1).bind fun t105 => if t105 = 0 then ((bag_Bag_Len.f t68.2.2).bind fun t113 => some (decide (t113 = 4))) else (some false)) else (some false)) else (some false)) else (some false)) else (some false)) else (some false)) else (some false)) else (some false))
/-! haulage/haulagelaw20.BagKnown -/
def haulagelaw20_BagKnown.j2 (t267 : Int × Int × (Option Bag)) (b353 : Bool) : Option Bool := if b353 = true then (some false) else ((bag_Bag_Counts.f t267.2.2).bind fun t361 => if t361 = (api_Traffic.mk 3 1 1 1 0) then ((bag_Bag_Send.f none (-1) 0 []).bind fun t372 => (bag_Bag_Deliver.f t372.2.2 0).bind fun t381 => (bag_Bag_Drop.f t381.2.2 0).bind fun t403 => (bag_Bag_Twice.f t403.2 0).bind fun t412 => (haulagelaw20_num.f t372.2.1).bind fun t421 => if t421 = 1 then ((haulagelaw20_num.f t381.2.1).bind fun t429 => if t429 = 1 then ((haulagelaw20_num.f t403.1).bind fun t437 => if t437 = 1 then ((haulagelaw20_num.f t412.2.1).bind fun t445 => if t445 = 1 then ((bag_Bag_Len.f t412.2.2).bind fun t453 => if t453 = 0 then ((bag_Bag_Waiting.f t412.2.2).bind fun t461 => if (t461.length : Int) = 0 then ((bag_Bag_For.f t412.2.2 0).bind fun t472 => if (t472.length : Int) = 0 then ((bag_Bag_Counts.f t412.2.2).bind fun t483 => some (decide (t483 = (api_Traffic.mk 0 0 0 0 0)))) else (some false)) else (some false)) else (some false)) else (some false)) else (some false)) else (some false)) else (some false)) else (some false))
def haulagelaw20_BagKnown.j1 (k : Nat) (t75 : Int × Int × (Option Bag)) (b156 : Bool) : Option Bool := if b156 = true then (some false) else ((bag_Bag_Deliver.f t75.2.2 3).bind fun t163 => (bag_Bag_Deliver.f t163.2.2 3).bind fun t185 => (bag_Bag_Drop.f t185.2.2 0).bind fun t207 => (bag_Bag_Len.f t207.2).bind fun t216 => (bag_Bag_Twice.f t207.2 0).bind fun t224 => (bag_Bag_Send.f t224.2.2 (-1) 0 []).bind fun t233 => if (0 : Int) ≤ 524289 ∧ (524289 : Int) ≤ 524289 ∧ (524289 : Int) * (1 : Nat) ≤ 140737488355328 then ((bag_Bag_Send.f t233.2.2 0 (-1) (List.replicate (524289 : Int).toNat (0 : Int))).bind fun t250 => if (0 : Int) ≤ 524289 ∧ (524289 : Int) ≤ 524289 ∧ (524289 : Int) * (1 : Nat) ≤ 140737488355328 then ((bag_Bag_Send.f t250.2.2 0 0 (List.replicate (524289 : Int).toNat (0 : Int))).bind fun t267 => (haulagelaw20_num.f t163.2.1).bind fun t277 => if t277 = 0 then ((haulagelaw20_alike.f k t163.1 (api_Letter.mk 3 1 0 [98])).bind fun t297 => if t297 = true then ((haulagelaw20_num.f t185.2.1).bind fun t305 => if t305 = 200 then ((haulagelaw20_num.f t207.1).bind fun t313 => if t313 = 0 then (if t216 = 2 then ((haulagelaw20_num.f t224.2.1).bind fun t322 => if t322 = 200 then ((haulagelaw20_num.f t233.2.1).bind fun t330 => if t330 = 2 then ((haulagelaw20_num.f t250.2.1).bind fun t338 => if t338 = 2 then ((haulagelaw20_num.f t267.2.1).bind fun t346 => haulagelaw20_BagKnown.j2 t267 (!decide (t346 = 3))) else (haulagelaw20_BagKnown.j2 t267 true)) else (haulagelaw20_BagKnown.j2 t267 true)) else (haulagelaw20_BagKnown.j2 t267 true)) else (haulagelaw20_BagKnown.j2 t267 true)) else (haulagelaw20_BagKnown.j2 t267 true)) else (haulagelaw20_BagKnown.j2 t267 true)) else (haulagelaw20_BagKnown.j2 t267 true)) else (haulagelaw20_BagKnown.j2 t267 true)) else none) else none)
def haulagelaw20_BagKnown.f (k : Nat) : Option Bool := (haulagelaw20_known.f).bind fun t4 => if t4 = true then ((bag_New.f).bind fun t14 => (bag_Bag_Send.f t14 0 1 [97]).bind fun t36 => (bag_Bag_Send.f t36.2.2 1 0 [98]).bind fun t57 => (bag_Bag_Send.f t57.2.2 0 1 []).bind fun t66 => (bag_Bag_Twice.f t66.2.2 1).bind fun t75 => (bag_Bag_Waiting.f t75.2.2).bind fun t84 => if (t84.length : Int) = 4 then (if 0 ≤ (0 : Int) ∧ (0 : Int) < (t84.length : Int) then (if ((rd t84 0).Number) = 0 then (if 0 ≤ (3 : Int) ∧ (3 : Int) < (t84.length : Int) then (if ((rd t84 3).Number) = 3 then ((bag_Bag_For.f t75.2.2 1).bind fun t121 => (haulagelaw20_ints.f k t121 [0, 2]).bind fun t138 => if t138 = true then ((bag_Bag_For.f t75.2.2 7).bind fun t146 => haulagelaw20_BagKnown.j1 k t75 (!decide ((t146.length : Int) = 0))) else (haulagelaw20_BagKnown.j1 k t75 true)) else (haulagelaw20_BagKnown.j1 k t75 true)) else none) else (haulagelaw20_BagKnown.j1 k t75 true)) else none) else (haulagelaw20_BagKnown.j1 k t75 true)) else (some false)
/-! haulage/haulagelaw20.BagNothingElse -/
def haulagelaw20_BagNothingElse.j8 (i275 : Int) (o523 : Option Bag) (l527 : List api_Letter) (i528 : Int) (i529 : Int) (b563 : Bool) : Option (Ctl ((Option Bag) × (List api_Letter) × Int × Int × Int) (Sum ((Option Bag) × (List api_Letter)) Bool)) := if b563 = true then (some (.done (.inr false))) else (some (.next (o523, l527, i528, i529, IntKind.i64.wrap (i275 + 1))))
def haulagelaw20_BagNothingElse.j7 (i275 : Int) (o523 : Option Bag) (l527 : List api_Letter) (i528 : Int) (i529 : Int) : Option (Ctl ((Option Bag) × (List api_Letter) × Int × Int × Int) (Sum ((Option Bag) × (List api_Letter)) Bool)) := (bag_Bag_Counts.f o523).bind fun t222 => (bag_Bag_Len.f o523).bind fun t242 => if t242 = (IntKind.i64.wrap ((l527.length : Int) - i528)) then (if (IntKind.i64.wrap (t222.Sent + t222.Twice)) = (l527.length : Int) then (if t222.Twice = i529 then (if (IntKind.i64.wrap (t222.Delivered + t222.Dropped)) = i528 then ((bag_Bag_Len.f o523).bind fun t253 => haulagelaw20_BagNothingElse.j8 i275 o523 l527 i528 i529 (!decide ((IntKind.i64.wrap (t222.Sent + t222.Twice)) = (IntKind.i64.wrap ((IntKind.i64.wrap (t222.Delivered + t222.Dropped)) + t253))))) else (haulagelaw20_BagNothingElse.j8 i275 o523 l527 i528 i529 true)) else (haulagelaw20_BagNothingElse.j8 i275 o523 l527 i528 i529 true)) else (haulagelaw20_BagNothingElse.j8 i275 o523 l527 i528 i529 true)) else (haulagelaw20_BagNothingElse.j8 i275 o523 l527 i528 i529 true)
def haulagelaw20_BagNothingElse.j5 (a1 : List haulagelaw20_Op) (t116 : Int × Int × (Option Bag)) (l269 : List api_Letter) (i273 : Int) (i274 : Int) (i275 : Int) (b367 : Bool) : Option (Ctl ((Option Bag) × (List api_Letter) × Int × Int × Int) (Sum ((Option Bag) × (List api_Letter)) Bool)) := if b367 = true then (some (.done (.inr false))) else (if 0 ≤ ((rd a1 i275).Number) ∧ ((rd a1 i275).Number) < (l269.length : Int) then (if (l269.length + [api_Letter.mk t116.1 ((rd l269 ((rd a1 i275).Number)).From) ((rd l269 ((rd a1 i275).Number)).To) ((rd l269 ((rd a1 i275).Number)).Data)].length) * 48 ≤ 140737488355328 then (haulagelaw20_BagNothingElse.j7 i275 t116.2.2 (l269 ++ [api_Letter.mk t116.1 ((rd l269 ((rd a1 i275).Number)).From) ((rd l269 ((rd a1 i275).Number)).To) ((rd l269 ((rd a1 i275).Number)).Data)]) i273 (IntKind.i64.wrap (i274 + 1))) else none) else none)
def haulagelaw20_BagNothingElse.j6 (a1 : List haulagelaw20_Op) (t148 : api_Letter × Int × (Option Bag)) (l269 : List api_Letter) (i273 : Int) (i274 : Int) (i275 : Int) (b467 : Bool) : Option (Ctl ((Option Bag) × (List api_Letter) × Int × Int × Int) (Sum ((Option Bag) × (List api_Letter)) Bool)) := if b467 = true then (some (.done (.inr false))) else ((bag_Bag_Deliver.f t148.2.2 ((rd a1 i275).Number)).bind fun t474 => (haulagelaw20_num.f t474.2.1).bind fun t496 => if t496 = 200 then (haulagelaw20_BagNothingElse.j7 i275 t474.2.2 l269 (IntKind.i64.wrap (i273 + 1)) i274) else (some (.done (.inr false))))
def haulagelaw20_BagNothingElse.b12 (t589 : List api_Letter) (i612 : Int) (t800 : List Int) (i812 : Int) (i813 : Int) : Option (Ctl (Int × Int) Int) := if i813 < (t800.length : Int) then (if 0 ≤ i813 ∧ i813 < (t800.length : Int) then (if 0 ≤ i612 ∧ i612 < (t589.length : Int) then (if (rd t800 i813) = ((rd t589 i612).Number) then (some (.next (IntKind.i64.wrap (i812 + 1), IntKind.i64.wrap (i813 + 1)))) else (some (.next (i812, IntKind.i64.wrap (i813 + 1))))) else none) else none) else (some (.done i812))
def haulagelaw20_BagNothingElse.j13 (i612 : Int) (i853 : Int) : Option (Ctl Int (Sum Unit Bool)) := if i853 = 1 then (some (.next (IntKind.i64.wrap (i612 + 1)))) else (some (.done (.inr false)))
def haulagelaw20_BagNothingElse.j11 (k : Nat) (o580 : Option Bag) (t589 : List api_Letter) (i612 : Int) (b781 : Bool) : Option (Ctl Int (Sum Unit Bool)) := if b781 = true then (some (.done (.inr false))) else (if 0 ≤ i612 ∧ i612 < (t589.length : Int) then ((bag_Bag_For.f o580 ((rd t589 i612).To)).bind fun t800 => (loop (fun (s_ : Int × Int) => haulagelaw20_BagNothingElse.b12 t589 i612 t800 s_.1 s_.2) k (0, 0)).bind fun x_ => haulagelaw20_BagNothingElse.j13 i612 x_) else none)
def haulagelaw20_BagNothingElse.b14 (k : Nat) (o580 : Option Bag) (l582 : List api_Letter) (t589 : List api_Letter) (i612 : Int) : Option (Ctl Int (Sum Unit Bool)) := if i612 < (t589.length : Int) then (if 0 < i612 then (if 0 ≤ i612 ∧ i612 < (t589.length : Int) then (if 0 ≤ (IntKind.i64.wrap (i612 - 1)) ∧ (IntKind.i64.wrap (i612 - 1)) < (t589.length : Int) then (if ((rd t589 i612).Number) ≤ ((rd t589 (IntKind.i64.wrap (i612 - 1))).Number) then (haulagelaw20_BagNothingElse.j11 k o580 t589 i612 true) else (if 0 ≤ i612 ∧ i612 < (t589.length : Int) then (if (l582.length : Int) ≤ ((rd t589 i612).Number) then (haulagelaw20_BagNothingElse.j11 k o580 t589 i612 true) else (if 0 ≤ i612 ∧ i612 < (t589.length : Int) then (if ((rd t589 i612).Number) < 0 then (haulagelaw20_BagNothingElse.j11 k o580 t589 i612 true) else (if 0 ≤ i612 ∧ i612 < (t589.length : Int) then (if 0 ≤ i612 ∧ i612 < (t589.length : Int) then (if 0 ≤ ((rd t589 i612).Number) ∧ ((rd t589 i612).Number) < (l582.length : Int) then ((haulagelaw20_alike.f k (rd t589 i612) (rd l582 ((rd t589 i612).Number))).bind fun t712 => haulagelaw20_BagNothingElse.j11 k o580 t589 i612 (!t712)) else none) else none) else none)) else none)) else none)) else none) else none) else (if 0 ≤ i612 ∧ i612 < (t589.length : Int) then (if (l582.length : Int) ≤ ((rd t589 i612).Number) then (haulagelaw20_BagNothingElse.j11 k o580 t589 i612 true) else (if 0 ≤ i612 ∧ i612 < (t589.length : Int) then (if ((rd t589 i612).Number) < 0 then (haulagelaw20_BagNothingElse.j11 k o580 t589 i612 true) else (if 0 ≤ i612 ∧ i612 < (t589.length : Int) then (if 0 ≤ i612 ∧ i612 < (t589.length : Int) then (if 0 ≤ ((rd t589 i612).Number) ∧ ((rd t589 i612).Number) < (l582.length : Int) then ((haulagelaw20_alike.f k (rd t589 i612) (rd l582 ((rd t589 i612).Number))).bind fun t712 => haulagelaw20_BagNothingElse.j11 k o580 t589 i612 (!t712)) else none) else none) else none)) else none)) else none)) else (some (.done (.inl ())))
def haulagelaw20_BagNothingElse.j15 : Option Bool := some true
def haulagelaw20_BagNothingElse.j10 (k : Nat) (o580 : Option Bag) (l582 : List api_Letter) : Option Bool := (bag_Bag_Waiting.f o580).bind fun t589 => (bag_Bag_Len.f o580).bind fun t601 => if (t589.length : Int) = t601 then ((loop (fun (s_ : Int) => haulagelaw20_BagNothingElse.b14 k o580 l582 t589 s_) k 0).bind fun x_ => match x_ with | .inl y_ => haulagelaw20_BagNothingElse.j15 | .inr q_ => some q_) else (some false)
def haulagelaw20_BagNothingElse.b9 (k : Nat) (a1 : List haulagelaw20_Op) (o268 : Option Bag) (l269 : List api_Letter) (i273 : Int) (i274 : Int) (i275 : Int) : Option (Ctl ((Option Bag) × (List api_Letter) × Int × Int × Int) (Sum ((Option Bag) × (List api_Letter)) Bool)) := if i275 < (a1.length : Int) then (if 0 ≤ i275 ∧ i275 < (a1.length : Int) then (if ((rd a1 i275).Kind) = 0 then ((bag_Bag_Send.f o268 ((rd a1 i275).Number) ((rd a1 i275).To) ((rd a1 i275).Data)).bind fun t76 => (haulagelaw20_num.f t76.2.1).bind fun t86 => if t86 = 0 then (if t76.1 = (l269.length : Int) then (if (l269.length + [api_Letter.mk t76.1 ((rd a1 i275).Number) ((rd a1 i275).To) ((rd a1 i275).Data)].length) * 48 ≤ 140737488355328 then (haulagelaw20_BagNothingElse.j7 i275 t76.2.2 (l269 ++ [api_Letter.mk t76.1 ((rd a1 i275).Number) ((rd a1 i275).To) ((rd a1 i275).Data)]) i273 i274) else none) else (some (.done (.inr false)))) else (some (.next (t76.2.2, l269, i273, i274, IntKind.i64.wrap (i275 + 1))))) else (if ((rd a1 i275).Kind) = 3 then ((bag_Bag_Twice.f o268 ((rd a1 i275).Number)).bind fun t116 => (haulagelaw20_num.f t116.2.1).bind fun t126 => if t126 = 0 then (if t116.1 = (l269.length : Int) then (if ((rd a1 i275).Number) < 0 then (haulagelaw20_BagNothingElse.j5 a1 t116 l269 i273 i274 i275 true) else (haulagelaw20_BagNothingElse.j5 a1 t116 l269 i273 i274 i275 (decide (t116.1 ≤ ((rd a1 i275).Number))))) else (haulagelaw20_BagNothingElse.j5 a1 t116 l269 i273 i274 i275 true)) else (some (.next (t116.2.2, l269, i273, i274, IntKind.i64.wrap (i275 + 1))))) else (if ((rd a1 i275).Kind) = 1 then ((bag_Bag_Deliver.f o268 ((rd a1 i275).Number)).bind fun t148 => (haulagelaw20_num.f t148.2.1).bind fun t171 => if t171 = 0 then (if ((rd a1 i275).Number) < 0 then (haulagelaw20_BagNothingElse.j6 a1 t148 l269 i273 i274 i275 true) else (if (l269.length : Int) ≤ ((rd a1 i275).Number) then (haulagelaw20_BagNothingElse.j6 a1 t148 l269 i273 i274 i275 true) else (if 0 ≤ ((rd a1 i275).Number) ∧ ((rd a1 i275).Number) < (l269.length : Int) then ((haulagelaw20_alike.f k t148.1 (rd l269 ((rd a1 i275).Number))).bind fun t460 => haulagelaw20_BagNothingElse.j6 a1 t148 l269 i273 i274 i275 (!t460)) else none))) else (some (.next (t148.2.2, l269, i273, i274, IntKind.i64.wrap (i275 + 1))))) else (if ((rd a1 i275).Kind) = 2 then ((bag_Bag_Drop.f o268 ((rd a1 i275).Number)).bind fun t193 => (haulagelaw20_num.f t193.1).bind fun t202 => if t202 = 0 then (haulagelaw20_BagNothingElse.j7 i275 t193.2 l269 (IntKind.i64.wrap (i273 + 1)) i274) else (haulagelaw20_BagNothingElse.j7 i275 t193.2 l269 i273 i274)) else (haulagelaw20_BagNothingElse.j7 i275 o268 l269 i273 i274))))) else none) else (some (.done (.inl (o268, l269))))
def haulagelaw20_BagNothingElse.f (k : Nat) (a1 : List haulagelaw20_Op) : Option Bool := (haulagelaw20_known.f).bind fun t8 => if t8 = true then ((bag_New.f).bind fun t18 => (loop (fun (s_ : (Option Bag) × (List api_Letter) × Int × Int × Int) => haulagelaw20_BagNothingElse.b9 k a1 s_.1 s_.2.1 s_.2.2.1 s_.2.2.2.1 s_.2.2.2.2) k (t18, [], 0, 0, 0)).bind fun x_ => match x_ with | .inl y_ => haulagelaw20_BagNothingElse.j10 k y_.1 y_.2 | .inr q_ => some q_) else (some false)end Go.Proofs.Ytdlokohmdnkdoaa.G
/-! Frames told slot by slot; what an operation does, as an equation; plain regions; regions that draw their order. -/
namespace Go.Proofs.Ytdlokohmdnkdoaa.G
open Go
set_option linter.unusedVariables false
set_option linter.unusedSimpArgs false
/-! ### frames -/
def lk : List (Nat × Value) → Nat → Option Value
  | [], _ => none
  | x :: l, t => bif Nat.beq x.1 t then some x.2 else lk l t
def ev (L : List (Nat × Value)) : Operand → Option Value
  | .tmp t => lk L t
  | .const v => some v
  | .global g => some (.pointer (some ⟨g, 0, none⟩))
  | .func f => some (.func (.func f) #[] #[])
structure Fr (a : Act) (N : Nat) (L : List (Nat × Value)) (D : List Deferred := []) : Prop where
  dfr : a.defers = D
  size : a.tmps.size = N
  get : ∀ t v, lk L t = some v → a.tmps.getD t undef = v
section
variable {a : Act} {N : Nat} {L L' : List (Nat × Value)} {v : Value} {x : Operand} {D : List Deferred}
theorem Fr.ev (h : Fr a N L D) (hx : G.ev L x = some v) : a.eval x = v := by
  cases x with
  | tmp t => exact h.get t v hx
  | const u => exact Option.some.inj hx
  | global g => exact Option.some.inj hx
  | func f => exact Option.some.inj hx
theorem Fr.put (h : Fr a N L D) {d : Nat} (v : Value) (hd : d < N) : Fr (a.put (some d) v) N ((d, v) :: L) D := by
  refine ⟨h.dfr, by show (a.tmps.setIfInBounds d v).size = N; rw [Array.size_setIfInBounds]; exact h.size, fun t u hu => ?_⟩
  show (a.tmps.setIfInBounds d v).getD t undef = u
  have hs := h.size
  unfold lk at hu
  cases hb : Nat.beq d t with
  | true =>
    rw [hb] at hu
    have e : d = t := Nat.eq_of_beq_eq_true hb
    subst e
    simp only [cond_true] at hu
    rw [← Option.some.inj hu]
    simp [Array.getD, hs, hd]
  | false =>
    rw [hb] at hu
    simp only [cond_false] at hu
    have e : d ≠ t := Nat.ne_of_beq_eq_false hb
    have hg := h.get t u hu
    rw [← hg]
    simp only [Array.getD_eq_getD_getElem?]
    rw [Array.getElem?_setIfInBounds_ne e]
theorem Fr.put_none (h : Fr a N L D) (v : Value) : Fr (a.put none v) N L D := h
/-- What a list of slots asks of another one. -/
def Sub (L : List (Nat × Value)) : List (Nat × Value) → Prop
  | [] => True
  | x :: l => lk L x.1 = some x.2 ∧ Sub L l
theorem Sub.spec : ∀ {l : List (Nat × Value)}, Sub L l → ∀ t v, lk l t = some v → lk L t = some v
  | [], _, t, v, h => by cases h
  | x :: l, hs, t, v, h => by
    unfold lk at h
    cases hb : Nat.beq x.1 t with
    | true =>
      rw [hb] at h; simp only [cond_true] at h
      have e : x.1 = t := Nat.eq_of_beq_eq_true hb
      rw [← e, ← Option.some.inj h]; exact hs.1
    | false => rw [hb] at h; exact Sub.spec hs.2 t v h
theorem Fr.sub (h : Fr a N L D) (hs : Sub L L') : Fr a N L' D := ⟨h.dfr, h.size, fun t v hv => h.get t v (hs.spec t v hv)⟩
def enum : Nat → List Value → List (Nat × Value)
  | _, [] => []
  | i, v :: l => (i, v) :: enum (i + 1) l
theorem enum_spec : ∀ (l : List Value) (i t : Nat) (v : Value), lk (enum i l) t = some v → i ≤ t ∧ l[t - i]? = some v
  | [], _, _, _, h => by cases h
  | u :: l, i, t, v, h => by
    unfold enum lk at h
    cases hb : Nat.beq i t with
    | true =>
      rw [hb] at h; simp only [cond_true] at h
      have e : i = t := Nat.eq_of_beq_eq_true hb
      subst e
      exact ⟨Nat.le_refl _, by rw [Nat.sub_self]; exact h⟩
    | false =>
      rw [hb] at h; simp only [cond_false] at h
      obtain ⟨h1, h2⟩ := enum_spec l (i + 1) t v h
      exact ⟨by omega, by rw [show t - i = (t - (i + 1)) + 1 by omega]; exact h2⟩
theorem Fr.enter (l : List Value) (n : Nat) (hN : l.length + n = N) : Fr { tmps := l.toArray ++ Array.replicate n undef, defers := [] } N (enum 0 l) := by
  refine ⟨rfl, by simp [hN], fun t v h => ?_⟩
  obtain ⟨_, h2⟩ := enum_spec l 0 t v h
  rw [Nat.sub_zero] at h2
  have hlt : t < l.length := (List.getElem?_eq_some_iff.1 h2).1
  simp only [Array.getD_eq_getD_getElem?]
  rw [Array.getElem?_append_left (by simpa using hlt)]
  simp [h2]
end
/-! ### functions and their ends -/
section
variable {P : Program} {a : Act} {N : Nat} {L : List (Nat × Value)} {w : World}
theorem enter {f : FuncId} {fn : Func} {c : Code} {l : List Value} {R : Ending → World → Prop} (hf : P.funcs[f]? = some fn) (hb : fn.body = some c) (hn : fn.ntmps = N) (hl : l.length ≤ N)
    (h : ∀ a, Fr a N (enum 0 l) → c.wp P (bodyPost P fn R) a w) : Calls P f l.toArray w R := by
  refine calls_of_wp hf hb ?_
  refine h _ ?_
  rw [show l.toArray.size = l.length by simp, hn]
  exact Fr.enter l (N - l.length) (by omega)
theorem out0 {fn : Func} {R : Ending → World → Prop} (F : Fr a N L) (hr : fn.results = #[]) (h : R (.returned (.tuple #[])) w) : bodyPost P fn R .ret a w :=
  ⟨F.dfr, _, results_none hr _ P w, h⟩
theorem out0n {fn : Func} {R : Ending → World → Prop} (F : Fr a N L) (hr : fn.results = #[]) (h : R (.returned (.tuple #[])) w) : bodyPost P fn R .normal a w :=
  ⟨F.dfr, _, results_none hr _ P w, h⟩
theorem out1 {fn : Func} {t : Tmp} {v : Value} {R : Ending → World → Prop} (F : Fr a N L) (hr : fn.results = #[.tmp t]) (hv : lk L t = some v) (h : R (.returned v) w) : bodyPost P fn R .ret a w :=
  ⟨F.dfr, v, by rw [results_tmp hr]; rw [F.get t v hv], h⟩
theorem out2 {fn : Func} {t1 t2 : Tmp} {v1 v2 : Value} {R : Ending → World → Prop} (F : Fr a N L) (hr : fn.results = #[.tmp t1, .tmp t2]) (h1 : lk L t1 = some v1) (h2 : lk L t2 = some v2) (h : R (.returned (.tuple #[v1, v2])) w) : bodyPost P fn R .ret a w :=
  ⟨F.dfr, .tuple #[v1, v2], by rw [results_tmp2 hr]; rw [F.get t1 v1 h1, F.get t2 v2 h2], h⟩
theorem out3 {fn : Func} {t1 t2 t3 : Tmp} {v1 v2 v3 : Value} {R : Ending → World → Prop} (F : Fr a N L) (hr : fn.results = #[.tmp t1, .tmp t2, .tmp t3]) (h1 : lk L t1 = some v1) (h2 : lk L t2 = some v2) (h3 : lk L t3 = some v3) (h : R (.returned (.tuple #[v1, v2, v3])) w) : bodyPost P fn R .ret a w := by
  refine ⟨F.dfr, .tuple #[v1, v2, v3], ?_, h⟩
  simp [results, hr]
  simp only [← Array.getD_eq_getD_getElem?]
  rw [F.get t1 v1 h1, F.get t2 v2 h2, F.get t3 v3 h3]; exact ⟨rfl, rfl, rfl⟩
end
end Go.Proofs.Ytdlokohmdnkdoaa.G
/-! Steps of regions. -/
namespace Go.Proofs.Ytdlokohmdnkdoaa.G
open Go
set_option linter.unusedVariables false
set_option linter.unusedSimpArgs false
/-- Behind an operation, if nothing goes wrong. -/
def upto (P : Program) (o : Oper) (a : Act) (K : Act → World → Prop) : Result Next → Prop
  | .ok (.value v) w' => K (a.put o.dst v) w'
  | .ok .skip w' => K (a.put o.dst undef) w'
  | .ok (.enter f args) w' => Calls P f args w' fun e w'' => ∃ v, e = .returned v ∧ K (a.put o.dst v) w''
  | .ok (.round l f tmps assign body) w' => RoundIn Fence.wide 0 P l f tmps assign body w' fun e w'' => ∃ v, e = .returned v ∧ K (a.put o.dst v) w''
  | _ => False
def OW (P : Program) (o : Oper) (a : Act) (w : World) (K : Act → World → Prop) : Prop := (∀ c, o.op ≠ .defer c) ∧ upto P o a K ((execOp a.eval o).run P w)
theorem OW.mono {P : Program} {o : Oper} {a : Act} {w : World} {K K' : Act → World → Prop} (hK : ∀ a w, K a w → K' a w) (h : OW P o a w K) : OW P o a w K' := by
  refine ⟨h.1, ?_⟩
  have h := h.2
  generalize (execOp a.eval o).run P w = r at *
  cases r with
  | ok n w' =>
    cases n <;> simp only [upto] at h ⊢ <;> first
      | exact hK _ _ h
      | exact Calls.mono h (fun e w'' ⟨v, he, hk⟩ => ⟨v, he, hK _ _ hk⟩)
      | exact RoundIn.mono h (fun e w'' ⟨v, he, hk⟩ => ⟨v, he, hK _ _ hk⟩)
  | halt x w' => simp only [upto] at h
/-- The wide fence, in a round or in none. -/
def Fw (ro : Option Nat) : Fence := { Fence.wide with round := ro }
theorem Fw_none : Fw none = Fence.wide := rfl
theorem Fw_some (l : Nat) : Fw (some l) = Fence.wide.inRound l := rfl
theorem callsIn_Fw {P : Program} {ro : Option Nat} {n : Nat} {f : FuncId} {args : Array Value} {w : World} {R : Ending → World → Prop} (h : Calls P f args w R) : CallsIn (Fw ro) n P f args w R := by
  have h2 : CallsIn Fence.wide n P f args w R := callsIn_wide.2 h
  cases ro with
  | none => exact h2
  | some l => exact h2.inRound l
theorem RoundIn_Fw {P : Program} {ro : Option Nat} {l : Nat} {f : FuncId} {tmps : Array Value} {assign body : Code} {w : World} {R : Ending → World → Prop} (h : RoundIn Fence.wide 0 P l f tmps assign body w R) : RoundIn (Fw ro) 0 P l f tmps assign body w R := by
  refine ⟨trivial, fun c cs hr => ?_⟩
  have := h.2 c cs (room_wide _)
  exact this
theorem OW.wpIn {P : Program} {o : Oper} {a : Act} {w : World} {K : Act → World → Prop} {Q : Exit → Act → World → Prop} {ro : Option Nat} (h : OW P o a w K) : o.wpIn (Fw ro) 0 P a w K Q := by
  obtain ⟨hd, h⟩ := h
  refine ⟨fun _ _ => trivial, ?_⟩
  have e : o.semAt (Fw ro).round a.eval = execOp a.eval o := Oper.semAt_eq _ _ _ hd
  rw [e]
  generalize (execOp a.eval o).run P w = r at *
  cases r with
  | ok n w' =>
    cases n <;> simp only [upto] at h <;> simp only [Oper.uponIn] <;> first
      | exact h
      | exact ⟨fun q => by cases ro <;> simp [Fw, Fence.wide] at q, (callsIn_Fw h).mono (fun e w'' ⟨v, he, hk⟩ => by subst he; exact hk)⟩
      | exact ⟨fun q => by cases ro <;> simp [Fw, Fence.wide] at q, (RoundIn_Fw h).mono (fun e w'' ⟨v, he, hk⟩ => by subst he; exact hk)⟩
  | halt x w' => simp only [upto] at h
/-- a plain region's operations -/
def wL (P : Program) (ops : Array Oper) (K : Act → World → Prop) : List Oper → Act → World → Prop
  | [], a, w => K a w
  | o :: rest, a, w => if Region.wanted o (yielded ops a.tmps) then OW P o a w (wL P ops K rest) else wL P ops K rest (a.put o.dst undef) w
theorem wL_in {P : Program} {ops : Array Oper} {Q : Exit → Act → World → Prop} {ro : Option Nat} : ∀ (l : List Oper) (a : Act) (w : World), wL P ops (Q .normal) l a w → wpListIn (Fw ro) 0 P ops Q l a w
  | [], a, w, h => h
  | o :: rest, a, w, h => by
    unfold wL at h
    unfold wpListIn
    split
    · rename_i hw; rw [if_pos hw] at h
      exact (h.mono (fun a w hk => wL_in rest a w hk)).wpIn
    · rename_i hw; rw [if_neg hw] at h
      exact ⟨fun _ _ => trivial, wL_in rest _ _ h⟩
section
variable {P : Program} {ops : Array Oper} {Q : Exit → Act → World → Prop} {K : Act → World → Prop} {a : Act} {N : Nat} {L : List (Nat × Value)} {D : List Deferred} {w w' : World} {v : Value} {rest : List Oper} {o : Oper} {d : Nat} {ro : Option Nat}
theorem regR {id : Nat} {l : List Oper} (h : wL P l.toArray (Q .normal) l a w) : (Code.region id l.toArray false).wpIn (Fw ro) 0 P Q a w :=
  wpIn_region_lit (wL_in l a w h)
theorem reg {id : Nat} {l : List Oper} (h : wL P l.toArray (Q .normal) l a w) : (Code.region id l.toArray false).wp P Q a w := wpIn_wide.1 (regR (ro := none) h)
theorem nil (h : K a w) : wL P ops K [] a w := h
theorem wL_plain (hg : o.guard = none) (h : OW P o a w (wL P ops K rest)) : wL P ops K (o :: rest) a w := by
  unfold wL; rw [if_pos (by simp [Region.wanted, hg])]; exact h
theorem ow_val (hf : (∀ c, o.op ≠ .defer c)) (hr : (execOp a.eval o).run P w = .ok (.value v) w') (h : K (a.put o.dst v) w') : OW P o a w K := ⟨hf, by rw [hr]; exact h⟩
theorem no_defer {o : Oper} {r : Result Next} (hr : (execOp a.eval o).run P w = r) (hn : ∀ d w', r ≠ .ok (.defer d) w') (hh : ∀ x w', r ≠ .halt x w') : ∀ c, o.op ≠ .defer c := by
  intro c hc
  subst hr
  simp only [execOp, hc, Sem.run_bind] at hn hh
  cases h : (resolve a.eval c o.type).run P w with
  | ok d w1 => rw [h] at hn; exact hn d w1 rfl
  | halt x w1 => rw [h] at hh; exact hh x w1 rfl
theorem ow_value (hr : (execOp a.eval o).run P w = .ok (.value v) w') (h : K (a.put o.dst v) w') : OW P o a w K := ⟨no_defer hr (by simp) (by simp), by rw [hr]; exact h⟩
theorem ow_skip (hr : (execOp a.eval o).run P w = .ok .skip w') (h : K (a.put o.dst undef) w') : OW P o a w K := ⟨no_defer hr (by simp) (by simp), by rw [hr]; exact h⟩
theorem ow_enter {f : FuncId} {args : Array Value} (hr : (execOp a.eval o).run P w = .ok (.enter f args) w') (h : Calls P f args w' fun e w'' => ∃ v, e = .returned v ∧ K (a.put o.dst v) w'') : OW P o a w K := ⟨no_defer hr (by simp) (by simp), by rw [hr]; exact h⟩
theorem ow_yield {l : Nat} {args : Array Value} {R : Ending → World → Prop} (hr : (execOp a.eval o).run P w = (Instr.yield l args).run P w) (hy : YieldAt Fence.wide 0 P l args w R) (h : ∀ e w'', R e w'' → ∃ v, e = .returned v ∧ K (a.put o.dst v) w'') : OW P o a w K := by
  obtain ⟨fn, tmps, as_, body, hr2, hR⟩ := hy
  rw [hr2] at hr
  exact ⟨no_defer hr (by simp) (by simp), by rw [hr]; exact hR.mono h⟩
theorem q_val (F : Fr a N L D) (hg : o.guard = none) (hd : o.dst = some d) (hN : d < N) (hr : (execOp a.eval o).run P w = .ok (.value v) w')
    (k : ∀ a', Fr a' N ((d, v) :: L) D → wL P ops K rest a' w') : wL P ops K (o :: rest) a w :=
  wL_plain hg (ow_value hr (by rw [hd]; exact k _ (F.put v hN)))
theorem q_skip (F : Fr a N L D) (hg : o.guard = none) (hd : o.dst = none) (hr : (execOp a.eval o).run P w = .ok .skip w')
    (k : ∀ a', Fr a' N L D → wL P ops K rest a' w') : wL P ops K (o :: rest) a w :=
  wL_plain hg (ow_skip hr (by rw [hd]; exact k _ F))
theorem q_call (F : Fr a N L D) (hg : o.guard = none) (hd : o.dst = some d) (hN : d < N) {f : FuncId} {args : Array Value} {R : Ending → World → Prop} (hr : (execOp a.eval o).run P w = .ok (.enter f args) w) (hc : Calls P f args w R)
    (k : ∀ e w', R e w' → ∃ v, e = .returned v ∧ ∀ a', Fr a' N ((d, v) :: L) D → wL P ops K rest a' w') : wL P ops K (o :: rest) a w :=
  wL_plain hg (ow_enter hr (hc.mono fun e w' hR => by
    obtain ⟨v, he, hk⟩ := k e w' hR
    exact ⟨v, he, by rw [hd]; exact hk _ (F.put v hN)⟩))
theorem q_call0 (F : Fr a N L D) (hg : o.guard = none) (hd : o.dst = none) {f : FuncId} {args : Array Value} {R : Ending → World → Prop} (hr : (execOp a.eval o).run P w = .ok (.enter f args) w) (hc : Calls P f args w R)
    (k : ∀ e w', R e w' → ∃ v, e = .returned v ∧ ∀ a', Fr a' N L D → wL P ops K rest a' w') : wL P ops K (o :: rest) a w :=
  wL_plain hg (ow_enter hr (hc.mono fun e w' hR => by
    obtain ⟨v, he, hk⟩ := k e w' hR
    exact ⟨v, he, by rw [hd]; exact hk _ F⟩))
theorem yielded_of (F : Fr a N L D) {j dj : Nat} {b : Bool} (hj : (ops[j]?).bind (·.dst) = some dj) (hN : dj < N) (hv : lk L dj = some (.bool b)) : yielded ops a.tmps j = some b := by
  unfold yielded
  have h := F.get dj _ hv
  have hs := F.size
  simp only [Array.getD_eq_getD_getElem?] at h
  rw [hj]
  simp only [Option.bind_some]
  rw [show a.tmps[dj]? = some (a.tmps[dj]'(by omega)) from Array.getElem?_eq_getElem (by omega)] at h ⊢
  simp only [Option.getD_some] at h
  rw [h]
/-- An operation whose guard says yes. -/
theorem q_yes (F : Fr a N L D) {op : Op} {dst : Option Tmp} {ty : TypeId} {pos : String} {af : Array Edge} {j dj : Nat} {b c : Bool} (hj : (ops[j]?).bind (·.dst) = some dj) (hN : dj < N) (hv : lk L dj = some (.bool b)) (hb : b = c)
    (h : wL P ops K ({ dst := dst, op := op, type := ty, pos := pos, after := af, guard := none } :: rest) a w) : wL P ops K ({ dst := dst, op := op, type := ty, pos := pos, after := af, guard := some (j, c) } :: rest) a w := by
  unfold wL at h ⊢
  have hw : Region.wanted { dst := dst, op := op, type := ty, pos := pos, after := af, guard := some (j, c) } (yielded ops a.tmps) = true := by
    simp [Region.wanted, yielded_of F hj hN hv, hb]
  rw [if_pos hw]
  rw [if_pos (by simp [Region.wanted])] at h
  exact h
theorem q_no (F : Fr a N L D) {op : Op} {d : Nat} {ty : TypeId} {pos : String} {af : Array Edge} {j dj : Nat} {b c : Bool} (hj : (ops[j]?).bind (·.dst) = some dj) (hN : dj < N) (hv : lk L dj = some (.bool b)) (hb : b = !c) (hd : d < N)
    (k : ∀ a', Fr a' N ((d, undef) :: L) D → wL P ops K rest a' w) : wL P ops K ({ dst := some d, op := op, type := ty, pos := pos, after := af, guard := some (j, c) } :: rest) a w := by
  unfold wL
  have hw : Region.wanted { dst := some d, op := op, type := ty, pos := pos, after := af, guard := some (j, c) } (yielded ops a.tmps) = false := by
    subst hb; cases c <;> simp [Region.wanted, yielded_of F hj hN hv]
  rw [if_neg (by rw [hw]; simp)]
  exact k _ (F.put undef hd)
/-! ### regions that draw their order -/
variable {S : World → Prop} {fin : Nat}
def wO (P : Program) (ops : Array Oper) (i : Nat) (K : Act → World → Prop) (a : Act) (w : World) : Prop :=
  match ops[i]? with
  | none => K a w
  | some o => if Region.wanted o (yielded ops a.tmps) then OW P o a w K else K (a.put o.dst undef) w
theorem wO_mono {i : Nat} {K K' : Act → World → Prop} (h : ∀ a w, K a w → K' a w) (hh : wO P ops i K a w) : wO P ops i K' a w := by
  unfold wO at *
  split
  · exact h _ _ (by simpa [*] using hh)
  · rename_i o ho
    simp only [ho] at hh
    split
    · rename_i hw; simp only [hw, if_true] at hh; exact hh.mono h
    · rename_i hw; simp only [hw] at hh; exact h _ _ hh
theorem wO_in {i : Nat} {K : Act → World → Prop} (hh : wO P ops i K a w) : wpOpIn (Fw ro) 0 P ops Q i K a w := by
  unfold wO at hh
  unfold wpOpIn
  split
  · rename_i ho; simpa [ho] using hh
  · rename_i o ho
    simp only [ho] at hh
    split
    · rename_i hw; simp only [hw, if_true] at hh; exact hh.wpIn
    · rename_i hw; simp only [hw] at hh; exact ⟨fun _ _ => trivial, hh⟩
def wpD (P : Program) (ops : Array Oper) (K : Act → World → Prop) (S : World → Prop) (fin : Nat) : Nat → Array Bool → Act → World → Prop
  | 0, listed, a, w => Region.ready .any ops listed = [] ∧ K a w
  | fuel + 1, listed, a, w =>
    (Region.ready .any ops listed = [] → K a w) ∧
    ∀ i ∈ Region.ready .any ops listed, wO P ops i (fun a' w' => (i ≠ fin → S w') ∧ wpD P ops K S fin fuel (listed.setIfInBounds i true) a' w') a w
theorem wpAny_of_D : ∀ (fuel : Nat) (listed : Array Bool) (a : Act) (w : World), wpD P ops (Q .normal) S fin fuel listed a w → wpAnyIn (Fw ro) 0 P .any ops Q fuel listed a w
  | 0, _, _, _, h => h
  | fuel + 1, _, _, _, h => ⟨h.1, fun i hi => wpOpIn_mono (fun a' w' h' => wpAny_of_D fuel _ a' w' h'.2) (wO_in (h.2 i hi))⟩
theorem wO_of_yields {i : Nat} {v : Value} {K : Act → World → Prop} (hi : ops[i]? = some o) (hy : YieldsIf P ops S o v a) (hS : S w) (h : K (a.put o.dst v) w) : wO P ops i K a w := by
  unfold wO
  simp only [hi]
  rcases hy with ⟨hw, hv⟩ | ⟨hw, rfl⟩
  · simp only [hw, if_true]; exact ow_value (hv w hS) h
  · simp only [hw, Bool.false_eq_true, if_false]; exact h
theorem wO_putIf {j : Nat} {oi oj : Oper} {v : Value} (hj : ops[j]? = some oj) (hap : oi.apart ops oj = true)
    (hsi : ∀ cs b, oi.op ≠ .select cs b) (hsj : ∀ cs b, oj.op ≠ .select cs b) {K : Act → World → Prop}
    (hy : YieldsIf P ops S oi v a) (h : wO P ops j K (a.put oi.dst v) w) :
    wO P ops j (fun a' w' => YieldsIf P ops S oi v a' ∧ K (a'.put oi.dst v) w') a w := by
  obtain ⟨h1, h2, h3⟩ := Oper.apart_spec hap
  have keep : ∀ (a : Act), YieldsIf P ops S oi v a → ∀ u, YieldsIf P ops S oi v (a.put oj.dst u) := fun a hy u =>
    hy.of_same (execOp_put oi hsi a oj.dst u h3) (wanted_put oi a oj.dst u h3)
  unfold wO at *
  simp only [hj] at *
  rw [wanted_put oj a oi.dst v h1] at h
  split
  · rename_i hw
    simp only [hw, if_true] at h
    refine ⟨h.1, ?_⟩
    have h := h.2
    rw [execOp_put oj hsj a oi.dst v h1] at h
    generalize (execOp a.eval oj).run P w = r at *
    cases r with
    | ok n w' =>
      cases n <;> simp only [upto] at h ⊢
      case value u => exact ⟨keep a hy u, by rw [← Act.put_comm a v u h2]; exact h⟩
      case skip => exact ⟨keep a hy _, by rw [← Act.put_comm a v undef h2]; exact h⟩
      case enter f args => exact Calls.mono h fun e w'' ⟨u, he, hk⟩ => ⟨u, he, keep a hy u, by rw [← Act.put_comm a v u h2]; exact hk⟩
      case round l f tmps as_ body => exact RoundIn.mono h fun e w'' ⟨u, he, hk⟩ => ⟨u, he, keep a hy u, by rw [← Act.put_comm a v u h2]; exact hk⟩
    | halt x w' => simp only [upto] at h
  · rename_i hw
    simp only [hw] at h
    exact ⟨keep a hy _, by rw [← Act.put_comm a v undef h2]; exact h⟩
theorem wpD_first {i : Nat} {oi : Oper} {v : Value} (hi : ops[i]? = some oi) (hsel : ∀ (j : Nat) (o : Oper) cs b, ops[j]? = some o → o.op ≠ .select cs b)
    (hfin : ∀ o, ops[fin]? = some o → fin ≠ i → ∃ e ∈ o.after, Region.binds .any e = true ∧ e.on = i) :
    ∀ (fuel : Nat) (listed : Array Bool) (a : Act) (w : World),
      (∀ j oj, ops[j]? = some oj → j ≠ i → listed.getD j true = false → (∀ e ∈ oj.after, Region.binds .any e = true → e.on ≠ i) → oi.apart ops oj = true) →
      i ∈ Region.ready .any ops listed → YieldsIf P ops S oi v a → S w →
      wpD P ops K S fin fuel (listed.setIfInBounds i true) (a.put oi.dst v) w → wpD P ops K S fin (fuel + 1) listed a w := by
  intro fuel
  induction fuel with
  | zero =>
    intro listed a w _ hr hy hS H
    refine ⟨fun h => (by rw [h] at hr; cases hr), fun j hj => ?_⟩
    by_cases hji : j = i
    · subst hji; exact wO_of_yields hi hy hS ⟨fun _ => hS, H⟩
    · have := ready_mono hj hji
      rw [H.1] at this
      cases this
  | succ fuel ih =>
    intro listed a w hfree hr hy hS H
    refine ⟨fun h => (by rw [h] at hr; cases hr), fun j hj => ?_⟩
    by_cases hji : j = i
    · subst hji; exact wO_of_yields hi hy hS ⟨fun _ => hS, H⟩
    · have h1 := H.2 j (ready_mono hj hji)
      obtain ⟨hjun, oj, hoj, hall⟩ := mem_ready.1 hj
      have hnot : ∀ e ∈ oj.after, Region.binds .any e = true → e.on ≠ i := fun e he hb heq => by
        have h1 := hall e he hb
        have h0 := (mem_ready.1 hr).1
        rw [heq] at h1
        rcases Nat.lt_or_ge i listed.size with h' | h'
        · simp [h'] at h0 h1; rw [h0] at h1; cases h1
        · simp [Array.getElem?_eq_none h'] at h1
      have hjf : j ≠ fin := fun e => by
        subst e
        obtain ⟨e, he, hb, he2⟩ := hfin oj hoj hji
        exact hnot e he hb he2
      have h2 := wO_putIf hoj (hfree j oj hoj hji hjun hnot) (fun cs b => hsel i oi cs b hi) (fun cs b => hsel j oj cs b hoj) hy h1
      have hfree' : ∀ k ok, ops[k]? = some ok → k ≠ i → (listed.setIfInBounds j true).getD k true = false →
          (∀ e ∈ ok.after, Region.binds .any e = true → e.on ≠ i) → oi.apart ops ok = true := fun k ok hk hki hun hno => by
        refine hfree k ok hk hki ?_ hno
        by_cases hjk : j = k
        · subst hjk; exact hjun
        · rw [getD_set_ne true hjk] at hun; exact hun
      refine wO_mono (fun a' w' h3 => ⟨h3.2.1, ih (listed.setIfInBounds j true) a' w' hfree' (ready_mono hr (Ne.symm hji)) h3.1 (h3.2.1 hjf) ?_⟩) h2
      rw [Array.setIfInBounds_comm _ _ hji]
      exact h3.2.2
/-- The order in which a walk takes a drawn region's operations: quiet ones first; those alone ready; or whichever comes. -/
inductive Sch where
  | nil
  | q (i : Nat) (s : Sch)
  | e (i : Nat) (s : Sch)
  | f (i : Nat) (s : Sch) (j : Nat) (t : Sch)
  | g (i : Nat) (s : Sch) (j : Nat) (t : Sch) (k : Nat) (u : Sch)
def finOk (ops : Array Oper) (fin i : Nat) : Bool := fin == i || match ops[fin]? with
  | none => true
  | some o => o.after.any fun e => Region.binds .any e && e.on == i
def cert (ops : Array Oper) (fin : Nat) : Sch → Array Bool → Bool
  | .nil, l => (Region.ready .any ops l) == []
  | .q i s, l => (Region.ready .any ops l).contains i && Region.free .any ops l i && finOk ops fin i && cert ops fin s (l.setIfInBounds i true)
  | .e i s, l => (Region.ready .any ops l) == [i] && cert ops fin s (l.setIfInBounds i true)
  | .f i s j t, l => (Region.ready .any ops l) == [i, j] && cert ops fin s (l.setIfInBounds i true) && cert ops fin t (l.setIfInBounds j true)
  | .g i s j t k u, l => (Region.ready .any ops l) == [i, j, k] && cert ops fin s (l.setIfInBounds i true) && cert ops fin t (l.setIfInBounds j true) && cert ops fin u (l.setIfInBounds k true)
def Sch.len : Sch → Nat
  | .nil => 0
  | .q _ s => s.len + 1
  | .e _ s => s.len + 1
  | .f _ s _ t => max s.len t.len + 1
  | .g _ s _ t _ u => max (max s.len t.len) u.len + 1
def wpS (P : Program) (ops : Array Oper) (K : Act → World → Prop) (S : World → Prop) (fin : Nat) : Sch → Act → World → Prop
  | .nil, a, w => K a w
  | .q i s, a, w => ∃ o v, ops[i]? = some o ∧ YieldsIf P ops S o v a ∧ S w ∧ wpS P ops K S fin s (a.put o.dst v) w
  | .e i s, a, w => wO P ops i (fun a' w' => (i ≠ fin → S w') ∧ wpS P ops K S fin s a' w') a w
  | .f i s j t, a, w => wO P ops i (fun a' w' => (i ≠ fin → S w') ∧ wpS P ops K S fin s a' w') a w ∧ wO P ops j (fun a' w' => (j ≠ fin → S w') ∧ wpS P ops K S fin t a' w') a w
  | .g i s j t k u, a, w => wO P ops i (fun a' w' => (i ≠ fin → S w') ∧ wpS P ops K S fin s a' w') a w ∧ wO P ops j (fun a' w' => (j ≠ fin → S w') ∧ wpS P ops K S fin t a' w') a w ∧ wO P ops k (fun a' w' => (k ≠ fin → S w') ∧ wpS P ops K S fin u a' w') a w
theorem finOk_spec {i : Nat} (h : finOk ops fin i = true) : ∀ o, ops[fin]? = some o → fin ≠ i → ∃ e ∈ o.after, Region.binds .any e = true ∧ e.on = i := by
  intro o ho hne
  simp only [finOk, ho, Bool.or_eq_true, beq_iff_eq, hne, false_or] at h
  obtain ⟨e, he, hb⟩ := Array.any_eq_true'.1 h
  simp only [Bool.and_eq_true, beq_iff_eq] at hb
  exact ⟨e, he, hb.1, hb.2⟩
theorem wpD_done {listed : Array Bool} {a : Act} {w : World} (hr : Region.ready .any ops listed = []) (h : K a w) : ∀ fuel, wpD P ops K S fin fuel listed a w
  | 0 => ⟨hr, h⟩
  | _ + 1 => ⟨fun _ => h, by rw [hr]; simp⟩
theorem wpD_of_S (hsel : Region.noSelect ops = true) : ∀ (s : Sch) (fuel : Nat) (listed : Array Bool) (a : Act) (w : World), s.len ≤ fuel → cert ops fin s listed = true → wpS P ops K S fin s a w → wpD P ops K S fin fuel listed a w
  | .nil, fuel, listed, a, w, hf, hc, h => wpD_done (by simpa [cert] using hc) h fuel
  | .q i s, 0, _, _, _, hf, _, _ => by simp [Sch.len] at hf
  | .q i s, fuel + 1, listed, a, w, hf, hc, h => by
    simp only [cert, Bool.and_eq_true] at hc
    obtain ⟨⟨⟨h1, h2⟩, h3⟩, h4⟩ := hc
    obtain ⟨o, v, ho, hy, hS, hk⟩ := h
    exact wpD_first ho (Region.noSelect_spec hsel) (finOk_spec h3) fuel listed a w (Region.free_spec ho h2) (by simpa using h1) hy hS (wpD_of_S hsel s fuel _ _ _ (by simp [Sch.len] at hf; omega) h4 hk)
  | .e i s, 0, _, _, _, hf, _, _ => by simp [Sch.len] at hf
  | .e i s, fuel + 1, listed, a, w, hf, hc, h => by
    simp only [cert, Bool.and_eq_true, beq_iff_eq] at hc
    simp only [Sch.len] at hf
    refine ⟨fun h0 => absurd (hc.1 ▸ h0) (by simp), fun j hj => ?_⟩
    rw [hc.1] at hj
    simp only [List.mem_singleton] at hj
    subst hj
    exact wO_mono (fun a' w' h' => ⟨h'.1, wpD_of_S hsel s fuel _ _ _ (by omega) hc.2 h'.2⟩) h
  | .f i s j t, 0, _, _, _, hf, _, _ => by simp [Sch.len] at hf
  | .f i s j t, fuel + 1, listed, a, w, hf, hc, h => by
    simp only [cert, Bool.and_eq_true, beq_iff_eq] at hc
    obtain ⟨⟨h1, h2⟩, h3⟩ := hc
    simp only [Sch.len] at hf
    refine ⟨fun h0 => absurd (h1 ▸ h0) (by simp), fun x hx => ?_⟩
    rw [h1] at hx
    simp only [List.mem_cons, List.not_mem_nil, or_false] at hx
    rcases hx with rfl | rfl
    · exact wO_mono (fun a' w' h' => ⟨h'.1, wpD_of_S hsel s fuel _ _ _ (by omega) h2 h'.2⟩) h.1
    · exact wO_mono (fun a' w' h' => ⟨h'.1, wpD_of_S hsel t fuel _ _ _ (by omega) h3 h'.2⟩) h.2
  | .g i s j t k u, 0, _, _, _, hf, _, _ => by simp [Sch.len] at hf
  | .g i s j t k u, fuel + 1, listed, a, w, hf, hc, h => by
    simp only [cert, Bool.and_eq_true, beq_iff_eq] at hc
    obtain ⟨⟨⟨h1, h2⟩, h3⟩, h4⟩ := hc
    simp only [Sch.len] at hf
    refine ⟨fun h0 => absurd (h1 ▸ h0) (by simp), fun x hx => ?_⟩
    rw [h1] at hx
    simp only [List.mem_cons, List.not_mem_nil, or_false] at hx
    rcases hx with rfl | rfl | rfl
    · exact wO_mono (fun a' w' h' => ⟨h'.1, wpD_of_S hsel s fuel _ _ _ (by omega) h2 h'.2⟩) h.1
    · exact wO_mono (fun a' w' h' => ⟨h'.1, wpD_of_S hsel t fuel _ _ _ (by omega) h3 h'.2⟩) h.2.1
    · exact wO_mono (fun a' w' h' => ⟨h'.1, wpD_of_S hsel u fuel _ _ _ (by omega) h4 h'.2⟩) h.2.2
/-- A drawn region: one walk along a tree of orders that a closed look has found whole. -/
theorem regDR {id : Nat} {a : Act} {w : World} (S : World → Prop) (fin : Nat) (s : Sch) (hm : P.follows .mixedOrders = true) (hc : (Region.noSelect ops && cert ops fin s (Array.replicate ops.size false) && Nat.ble s.len ops.size) = true)
    (h : ∀ w1 : World, w1.heap = w.heap → w1.os = w.os → w1.tape = w.tape → w1.output = w.output → wpS P ops (Q .normal) S fin s a w1) : (Code.region id ops true).wpIn (Fw ro) 0 P Q a w := by
  simp only [Bool.and_eq_true] at hc
  obtain ⟨⟨h1, h2⟩, h3⟩ := hc
  exact wpIn_region_any hm (wpAny_of_D (S := S) (fin := fin) _ _ _ _ (wpD_of_S h1 s _ _ _ _ (Nat.le_of_ble_eq_true h3) h2 (h _ rfl rfl rfl rfl)))
theorem regD {id : Nat} {a : Act} {w : World} (S : World → Prop) (fin : Nat) (s : Sch) (hm : P.follows .mixedOrders = true) (hc : (Region.noSelect ops && cert ops fin s (Array.replicate ops.size false) && Nat.ble s.len ops.size) = true)
    (h : ∀ w1 : World, w1.heap = w.heap → w1.os = w.os → w1.tape = w.tape → w1.output = w.output → wpS P ops (Q .normal) S fin s a w1) : (Code.region id ops true).wp P Q a w := wpIn_wide.1 (regDR (ro := none) S fin s hm hc h)
/-! the steps -/
theorem d_nil (h : K a w) : wpS P ops K S fin .nil a w := h
theorem d_q {i : Nat} {s : Sch} (F : Fr a N L D) (ho : ops[i]? = some o) (hg : o.guard = none) (hd : o.dst = some d) (hN : d < N) (hr : ∀ w, S w → (execOp a.eval o).run P w = .ok (.value v) w) (hS : S w)
    (k : ∀ a', Fr a' N ((d, v) :: L) D → wpS P ops K S fin s a' w) : wpS P ops K S fin (.q i s) a w :=
  ⟨o, v, ho, .inl ⟨by simp [Region.wanted, hg], hr⟩, hS, by rw [hd]; exact k _ (F.put v hN)⟩
theorem wanted_yes (F : Fr a N L D) {j dj : Nat} {b c : Bool} (hg : o.guard = some (j, c)) (hj : (ops[j]?).bind (·.dst) = some dj) (hN : dj < N) (hv : lk L dj = some (.bool b)) (hb : b = c) : Region.wanted o (yielded ops a.tmps) = true := by
  simp [Region.wanted, hg, yielded_of F hj hN hv, hb]
theorem wanted_no (F : Fr a N L D) {j dj : Nat} {b c : Bool} (hg : o.guard = some (j, c)) (hj : (ops[j]?).bind (·.dst) = some dj) (hN : dj < N) (hv : lk L dj = some (.bool b)) (hb : b = !c) : Region.wanted o (yielded ops a.tmps) = false := by
  subst hb; cases c <;> simp [Region.wanted, hg, yielded_of F hj hN hv]
/-- a quiet one whose guard says yes -/
theorem d_qy {i : Nat} {s : Sch} (F : Fr a N L D) {j dj : Nat} {b c : Bool} (ho : ops[i]? = some o) (hg : o.guard = some (j, c)) (hj : (ops[j]?).bind (·.dst) = some dj) (hjN : dj < N) (hv : lk L dj = some (.bool b)) (hb : b = c) (hd : o.dst = some d) (hN : d < N) (hr : ∀ w, S w → (execOp a.eval o).run P w = .ok (.value v) w) (hS : S w)
    (k : ∀ a', Fr a' N ((d, v) :: L) D → wpS P ops K S fin s a' w) : wpS P ops K S fin (.q i s) a w :=
  ⟨o, v, ho, .inl ⟨wanted_yes F hg hj hjN hv hb, hr⟩, hS, by rw [hd]; exact k _ (F.put v hN)⟩
/-- any whose guard says no -/
theorem d_qn {i : Nat} {s : Sch} (F : Fr a N L D) {j dj : Nat} {b c : Bool} (ho : ops[i]? = some o) (hg : o.guard = some (j, c)) (hj : (ops[j]?).bind (·.dst) = some dj) (hjN : dj < N) (hv : lk L dj = some (.bool b)) (hb : b = !c) (hd : o.dst = some d) (hN : d < N) (hS : S w)
    (k : ∀ a', Fr a' N ((d, undef) :: L) D → wpS P ops K S fin s a' w) : wpS P ops K S fin (.q i s) a w :=
  ⟨o, undef, ho, .inr ⟨wanted_no F hg hj hjN hv hb, rfl⟩, hS, by rw [hd]; exact k _ (F.put undef hN)⟩
theorem o_val {i : Nat} {K : Act → World → Prop} (F : Fr a N L D) (ho : ops[i]? = some o) (hg : o.guard = none) (hd : o.dst = some d) (hN : d < N) (hr : (execOp a.eval o).run P w = .ok (.value v) w') (k : ∀ a', Fr a' N ((d, v) :: L) D → K a' w') : wO P ops i K a w := by
  unfold wO; simp only [ho]
  rw [if_pos (by simp [Region.wanted, hg])]
  exact ow_value hr (by rw [hd]; exact k _ (F.put v hN))
theorem o_skip {i : Nat} {K : Act → World → Prop} (F : Fr a N L D) (ho : ops[i]? = some o) (hg : o.guard = none) (hd : o.dst = none) (hr : (execOp a.eval o).run P w = .ok .skip w') (k : ∀ a', Fr a' N L D → K a' w') : wO P ops i K a w := by
  unfold wO; simp only [ho]
  rw [if_pos (by simp [Region.wanted, hg])]
  exact ow_skip hr (by rw [hd]; exact k _ F)
theorem o_call {i : Nat} {K : Act → World → Prop} (F : Fr a N L D) (ho : ops[i]? = some o) (hg : Region.wanted o (yielded ops a.tmps) = true) (hd : o.dst = some d) (hN : d < N) {f : FuncId} {args : Array Value} {R : Ending → World → Prop} (hr : (execOp a.eval o).run P w = .ok (.enter f args) w) (hc : Calls P f args w R)
    (k : ∀ e w', R e w' → ∃ v, e = .returned v ∧ ∀ a', Fr a' N ((d, v) :: L) D → K a' w') : wO P ops i K a w := by
  unfold wO; simp only [ho]
  rw [if_pos hg]
  exact ow_enter hr (hc.mono fun e w' hR => by
    obtain ⟨v, he, hk⟩ := k e w' hR
    exact ⟨v, he, by rw [hd]; exact hk _ (F.put v hN)⟩)
theorem o_call0 {i : Nat} {K : Act → World → Prop} (F : Fr a N L D) (ho : ops[i]? = some o) (hg : Region.wanted o (yielded ops a.tmps) = true) (hd : o.dst = none) {f : FuncId} {args : Array Value} {R : Ending → World → Prop} (hr : (execOp a.eval o).run P w = .ok (.enter f args) w) (hc : Calls P f args w R)
    (k : ∀ e w', R e w' → ∃ v, e = .returned v ∧ ∀ a', Fr a' N L D → K a' w') : wO P ops i K a w := by
  unfold wO; simp only [ho]
  rw [if_pos hg]
  exact ow_enter hr (hc.mono fun e w' hR => by
    obtain ⟨v, he, hk⟩ := k e w' hR
    exact ⟨v, he, by rw [hd]; exact hk _ F⟩)
/-- a call of the loop's own round -/
theorem o_yield {i : Nat} {K : Act → World → Prop} (F : Fr a N L D) (ho : ops[i]? = some o) (hg : Region.wanted o (yielded ops a.tmps) = true) (hd : o.dst = some d) (hN : d < N) {l : Nat} {args : Array Value} {R : Ending → World → Prop} (hr : (execOp a.eval o).run P w = (Instr.yield l args).run P w) (hy : YieldAt Fence.wide 0 P l args w R)
    (k : ∀ e w', R e w' → ∃ v, e = .returned v ∧ ∀ a', Fr a' N ((d, v) :: L) D → K a' w') : wO P ops i K a w := by
  unfold wO; simp only [ho]
  rw [if_pos hg]
  exact ow_yield hr hy (fun e w' hR => by
    obtain ⟨v, he, hk⟩ := k e w' hR
    exact ⟨v, he, by rw [hd]; exact hk _ (F.put v hN)⟩)
theorem wanted_none {ops : Array Oper} {tm : Array Value} (hg : o.guard = none) : Region.wanted o (yielded ops tm) = true := by simp [Region.wanted, hg]
/-! ### loops -/
theorem loop_fuel {c : Code} (I : Nat → Act → World → Prop) {k : Nat} (h0 : I k a w)
    (hs : ∀ k (X : Act → World → Prop), (∀ j a w, j < k → I j a w → X a w) → ∀ a w, I k a w → c.wp P (Exit.then X Q) a w) : (Code.loop c).wp P Q a w := by
  intro b todo cs
  have key : ∀ k a w, I k a w → ∃ e a' w', Q e a' w' ∧ Arrives P (lone (b.at a (.code c :: .inLoop c :: todo)) cs w) b todo cs e a' w' := by
    intro k
    induction k using Nat.strongRecOn with
    | _ k ih =>
      intro a w hI
      obtain ⟨e, a₁, w₁, hq, harr⟩ := hs k (fun a w => ∃ j, j < k ∧ I j a w) (fun j a w hj h => ⟨j, hj, h⟩) a w hI b (.inLoop c :: todo) cs
      cases e with
      | normal =>
        obtain ⟨j, hj, hI₁⟩ := hq
        obtain ⟨e₂, a₂, w₂, hq₂, harr₂⟩ := ih j hj a₁ w₁ hI₁
        exact ⟨e₂, a₂, w₂, hq₂, .of_steps (Steps.trans harr (.one step_inLoop)) harr₂⟩
      | exit id => exact ⟨_, a₁, w₁, hq, .pass (x := .inLoop c) rfl (fun _ _ => .inl (by simp)) harr⟩
      | goto l => exact ⟨_, a₁, w₁, hq, .pass (x := .inLoop c) rfl (fun _ _ => .inl (by simp)) harr⟩
      | ret => exact ⟨_, a₁, w₁, hq, .pass (x := .inLoop c) rfl (fun _ _ => .inl (by simp)) harr⟩
      | panic ch => exact ⟨_, a₁, w₁, hq, .pass (x := .inLoop c) rfl (fun _ _ => .inl (by simp)) harr⟩
      | outgrown => exact ⟨_, a₁, w₁, hq, .pass (x := .inLoop c) rfl (fun _ _ => .inl (by simp)) harr⟩
  obtain ⟨e, a', w', hq, harr⟩ := key k a w h0
  exact ⟨e, a', w', hq, .of_steps (.one step_loop) harr⟩
end
end Go.Proofs.Ytdlokohmdnkdoaa.G
/-! Memory told by colours: every block has one; what is of a colour that nobody writes stays as it is. -/
namespace Go.Proofs.Ytdlokohmdnkdoaa.G
open Go Go.RowKit
set_option linter.unusedVariables false
set_option linter.unusedSimpArgs false
/-! ### what a stretch of a walk may have turned -/
structure Ev (M : Nat → Prop) (c : Nat → Nat) (w : World) (c' : Nat → Nat) (w' : World) : Prop where
  os : w'.os = w.os
  tape : w'.tape = w.tape
  out : w'.output = w.output
  size : w.heap.size ≤ w'.heap.size
  col : ∀ k, k < w.heap.size → c' k = c k
  blk : ∀ k, k < w.heap.size → ¬ M (c k) → w'.heap[k]? = w.heap[k]?
/-- Nothing that was there. -/
def No : Nat → Prop := fun _ => False
def CB (m : Nat) (c : Nat → Nat) (w : World) : Prop := ∀ k, k < w.heap.size → c k < m
section
variable {M M' : Nat → Prop} {c c' c1 : Nat → Nat} {w w' w1 : World} {m j : Nat}
theorem Ev.refl : Ev M c w c w := ⟨rfl, rfl, rfl, Nat.le_refl _, fun _ _ => rfl, fun _ _ _ => rfl⟩
theorem Ev.trans (h : Ev M c w c1 w1) (h2 : Ev M' c1 w1 c' w') (hM : ∀ k, M' k → M k) : Ev M c w c' w' :=
  ⟨h2.os.trans h.os, h2.tape.trans h.tape, h2.out.trans h.out, Nat.le_trans h.size h2.size, fun k hk => (h2.col k (Nat.lt_of_lt_of_le hk h.size)).trans (h.col k hk),
   fun k hk hm => (h2.blk k (Nat.lt_of_lt_of_le hk h.size) (by rw [h.col k hk]; exact fun q => hm (hM _ q))).trans (h.blk k hk hm)⟩
theorem Ev.mono (h : Ev M c w c' w') (hM : ∀ k, M k → M' k) : Ev M' c w c' w' := ⟨h.os, h.tape, h.out, h.size, h.col, fun k hk hm => h.blk k hk (fun q => hm (hM _ q))⟩
theorem Ev.same (h1 : w1.heap = w.heap) (h2 : w1.os = w.os) (h3 : w1.tape = w.tape) (h4 : w1.output = w.output) : Ev M c w c w1 :=
  ⟨h2, h3, h4, by rw [h1]; exact Nat.le_refl _, fun _ _ => rfl, fun _ _ _ => by rw [h1]⟩
theorem CB.mono (h : CB m c w) {n : Nat} (hn : m ≤ n) : CB n c w := fun k hk => Nat.lt_of_lt_of_le (h k hk) hn
theorem CB.same (h : CB m c w) (h1 : w1.heap = w.heap) : CB m c w1 := fun k hk => h k (by rw [← h1]; exact hk)
/-- What a function has turned, told to its caller: the colours are made anew for what is new. -/
theorem Ev.leave (h : Ev (fun k => M k ∨ m ≤ k) c w c1 w1) (hB : CB m c w) (r : Nat → Nat) (hr : ∀ x, x < m → r x = x) : Ev M c w (fun k => r (c1 k)) w1 :=
  ⟨h.os, h.tape, h.out, h.size, fun k hk => by show r (c1 k) = c k; rw [h.col k hk]; exact hr _ (hB k hk), fun k hk hm => h.blk k hk (fun q => q.elim hm (fun q => absurd (hB k hk) (by omega)))⟩
theorem Ev.freeze {x : Nat} (h : Ev (fun k => M k ∨ m ≤ k) c w c1 w1) (hB : CB m c w) (hx : m ≤ x) : Ev (fun k => M k ∨ m ≤ k) c w (fun k => if c1 k = x then 0 else c1 k) w1 := by
  refine ⟨h.os, h.tape, h.out, h.size, fun k hk => ?_, h.blk⟩
  have e := h.col k hk
  have := hB k hk
  show (if c1 k = x then 0 else c1 k) = c k
  rw [e, if_neg (by omega)]
theorem CB.freeze {x n : Nat} (h : CB n c w) (hx : 0 < n) : CB n (fun k => if c k = x then 0 else c k) w := fun k hk => by
  show (if c k = x then 0 else c k) < n
  have := h k hk
  split <;> omega
theorem Ev.below (h : Ev No c w c' w') : Below w.heap.size w w' := ⟨h.os, h.tape, h.out, h.size, fun k hk => h.blk k hk (fun q => q)⟩
end
/-! ### colours that part -/
theorem ne_mm {m a b : Nat} (h : a ≠ b) : ¬ (m + a = m + b) := by omega
theorem ne_m0 {m b : Nat} : ¬ (m = m + (b + 1)) := by omega
theorem ne_0m {m b : Nat} : ¬ (m + (b + 1) = m) := by omega
theorem ne_z {x : Nat} (h : 0 < x) : ¬ (0 = x) := by omega
theorem ne_s {x : Nat} (h : 0 < x) : ¬ (x = 0) := by omega
theorem ne_zm {m b : Nat} : ¬ (0 = m + (b + 1)) := by omega
theorem ne_mz {m b : Nat} : ¬ (m + (b + 1) = 0) := by omega
theorem ne_pm {m b j : Nat} (h : j < m) : ¬ (j = m + b) := by omega
theorem ne_pm0 {m j : Nat} (h : j < m) : ¬ (j = m) := by omega
theorem ne_mp {m b j : Nat} (h : j < m) : ¬ (m + b = j) := by omega
theorem ne_mp0 {m j : Nat} (h : j < m) : ¬ (m = j) := by omega
theorem nor {p q : Prop} (h : ¬ p) (h' : ¬ q) : ¬ (p ∨ q) := fun x => x.elim h h'
theorem le_col {x m k : Nat} (q : x = m + k) : m ≤ x := by omega
theorem le_col0 {x m : Nat} (q : x = m) : m ≤ x := by omega
theorem len_ok {n B : Nat} (h : n * (B + 1) ≤ 140737488355328) : n ≤ maxLen := by
  have : n * 1 ≤ n * (B + 1) := Nat.mul_le_mul_left _ (by omega)
  unfold maxLen; omega
theorem len_ok0 {α : Type} {n B : Nat} (h : n * (B + 1) ≤ 140737488355328) : ([] : List α).length + n ≤ maxLen := by
  rw [List.length_nil, Nat.zero_add]; exact len_ok h
theorem ap0 {α : Type} {n B C : Nat} (h : n * B ≤ C) : (([] : List α).length + n) * B ≤ C := by rw [List.length_nil, Nat.zero_add]; exact h
theorem n_ok {n : Nat} (h : n < 140737488355328) : n < maxLen := by unfold maxLen; omega
/-! ### cells that lie somewhere -/
def AT (own : Bool) (j : Nat) (c : Nat → Nat) (w : World) (p : Addr) (cs : List Value) : Prop :=
  ∃ b off cur ty fz, p = ⟨b, off, none⟩ ∧ w.heap[b]? = some (.cells cur ty fz) ∧ c b = j ∧ (∀ k, k < cs.length → cur[off + k]? = cs[k]?) ∧ (own = true → ∀ k, k < cs.length → ¬ (fz.1 ≤ off + k ∧ off + k < fz.2))
section
variable {M : Nat → Prop} {c c' : Nat → Nat} {w w' : World} {j j' : Nat} {own : Bool} {p : Addr} {cs : List Value}
theorem lt_of_get {b : Nat} {o : Obj} (h : w.heap[b]? = some o) : b < w.heap.size := (Array.getElem?_eq_some_iff.1 h).1
theorem AT.ev (h : AT own j c w p cs) (E : Ev M c w c' w') (hj : ¬ M j) : AT own j c' w' p cs := by
  obtain ⟨b, off, cur, ty, fz, e, hb, hc, h1, h2⟩ := h
  exact ⟨b, off, cur, ty, fz, e, (E.blk b (lt_of_get hb) (by rw [hc]; exact hj)).trans hb, (E.col b (lt_of_get hb)).trans hc, h1, h2⟩
theorem AT.rc (h : AT own j c w p cs) (hr : ∀ k, c k = j → c' k = j') : AT own j' c' w p cs := by
  obtain ⟨b, off, cur, ty, fz, e, hb, hc, h1, h2⟩ := h
  exact ⟨b, off, cur, ty, fz, e, hb, hr b hc, h1, h2⟩
theorem AT.r (h : AT own j c w p cs) : AT false j c w p cs := by
  obtain ⟨b, off, cur, ty, fz, e, hb, hc, h1, h2⟩ := h
  exact ⟨b, off, cur, ty, fz, e, hb, hc, h1, fun q => by cases q⟩
theorem add_eq (b off n : Nat) : (⟨b, off, none⟩ : Addr).add n = ⟨b, off + n, none⟩ := by
  unfold Addr.add; split
  · subst_vars; rfl
  · rfl
theorem AT.cell (h : AT own j c w p cs) {n : Nat} {v : Value} (hv : cs[n]? = some v) : w.cell? (p.add n) = some v := by
  obtain ⟨b, off, cur, ty, fz, rfl, hb, hc, h1, h2⟩ := h
  rw [add_eq]
  simp only [World.cell?, hb]
  rw [if_neg (by simp), h1 n (List.getElem?_eq_some_iff.1 hv).1, hv]
theorem AT.cell0 (h : AT own j c w p cs) {v : Value} (hv : cs[0]? = some v) : w.cell? p = some v := by
  have := h.cell hv
  obtain ⟨b, off, cur, ty, fz, rfl, hb, hc, h1, h2⟩ := h
  rwa [add_eq, Nat.add_zero] at this
theorem AT.free (h : AT true j c w p cs) {n : Nat} (hn : n < cs.length) : w.frozen? (p.add n) = false := by
  obtain ⟨b, off, cur, ty, fz, rfl, hb, hc, h1, h2⟩ := h
  rw [add_eq]
  simp only [World.frozen?, hb]
  have := h2 rfl n hn
  obtain ⟨lo, hi⟩ := fz
  simp only [Bool.and_eq_false_iff, decide_eq_false_iff_not]
  simp only at this
  omega
theorem AT.sub (h : AT own j c w p cs) (n m : Nat) (hn : n + m ≤ cs.length) : AT own j c w (p.add n) ((cs.drop n).take m) := by
  obtain ⟨b, off, cur, ty, fz, rfl, hb, hc, h1, h2⟩ := h
  refine ⟨b, off + n, cur, ty, fz, add_eq b off n, hb, hc, fun k hk => ?_, fun q k hk => ?_⟩
  · simp only [List.length_take, List.length_drop] at hk
    rw [Nat.add_assoc, h1 (n + k) (by omega), List.getElem?_take_of_lt (by omega), List.getElem?_drop]
  · simp only [List.length_take, List.length_drop] at hk
    have := h2 q (n + k) (by omega)
    rw [Nat.add_assoc]; exact this
/-- The world behind a store. -/
theorem AT.set (h : AT true j c w p cs) {n : Nat} (hn : n < cs.length) (u : Value) : Ev (fun k => k = j) c w c (w.setCell (p.add n) u) ∧ AT true j c (w.setCell (p.add n) u) p (cs.set n u) ∧ (w.setCell (p.add n) u).heap.size = w.heap.size := by
  obtain ⟨b, off, cur, ty, fz, rfl, hb, hc, h1, h2⟩ := h
  rw [add_eq]
  have hz : (w.setCell ⟨b, off + n, none⟩ u).heap.size = w.heap.size := World.size_setCell ..
  refine ⟨⟨rfl, rfl, rfl, by rw [hz]; exact Nat.le_refl _, fun _ _ => rfl, fun k hk hm => ?_⟩, ⟨b, off, cur.setIfInBounds (off + n) u, ty, fz, rfl, ?_, hc, fun k hk => ?_, fun q k hk => h2 q k (by simpa using hk)⟩, hz⟩
  · have hne : k ≠ b := fun e => hm (by rw [e]; exact hc)
    simp only [World.setCell]
    rw [Array.getElem?_modify, if_neg (Ne.symm hne)]
  · simp only [World.setCell]
    rw [Array.getElem?_modify, if_pos rfl, hb]
    simp
  · rw [List.length_set] at hk
    rw [Array.getElem?_setIfInBounds, List.getElem?_set]
    have hsz := h1 n hn
    by_cases q : n = k
    · subst q
      rw [if_pos rfl, if_pos rfl, if_pos hn]
      have : off + n < cur.size := by
        rcases Nat.lt_or_ge (off + n) cur.size with g | g
        · exact g
        · rw [Array.getElem?_eq_none g, List.getElem?_eq_getElem hn] at hsz; cases hsz
      rw [if_pos this]
    · rw [if_neg (by omega), if_neg q]; exact h1 k hk
theorem CB.size {m : Nat} (h : CB m c w) (hs : w'.heap.size = w.heap.size) : CB m c w' := fun k hk => h k (by omega)
/-- The colouring with one block more. -/
def cset (c : Nat → Nat) (b x : Nat) : Nat → Nat := fun k => if k = b then x else c k
theorem alloc_new (c : Nat → Nat) (w : World) (cells : Array Value) (ty : TypeId) (fz : Nat × Nat) (x : Nat) (own : Bool) (hf : own = true → ∀ k, k < cells.size → ¬ (fz.1 ≤ k ∧ k < fz.2)) :
    Ev M c w (cset c w.heap.size x) (w.alloc (.cells cells ty fz)) ∧ AT own x (cset c w.heap.size x) (w.alloc (.cells cells ty fz)) ⟨w.heap.size, 0, none⟩ cells.toList ∧ (∀ m, CB m c w → x < m → CB m (cset c w.heap.size x) (w.alloc (.cells cells ty fz))) := by
  have hz : (w.alloc (.cells cells ty fz)).heap.size = w.heap.size + 1 := World.size_alloc ..
  have hk := MapKept.heap_alloc w (.cells cells ty fz)
  refine ⟨⟨rfl, rfl, rfl, by omega, fun k hk => by unfold cset; rw [if_neg (by omega)], fun k hlt _ => hk.2 k hlt⟩, ⟨w.heap.size, 0, cells, ty, fz, rfl, hk.1, by unfold cset; rw [if_pos rfl], fun k hk => by rw [Nat.zero_add]; exact Array.getElem?_toList.symm, fun q k hk => ?_⟩, fun m hm hx k hk => ?_⟩
  · rw [Nat.zero_add]; exact hf q k (by simpa using hk)
  · unfold cset
    split
    · exact hx
    · exact hm k (by omega)
end
/-! ### kinds -/
structure K (α : Type) where
  sz : Nat
  pos : 0 < sz
  rep : Nat → (Nat → Nat) → World → List Value → α → Prop
  ev : ∀ {M : Nat → Prop} {i c w c' w' cs x}, rep i c w cs x → Ev M c w c' w' → ¬ M i → rep i c' w' cs x
  rc : ∀ {i i' c c' w cs x}, rep i c w cs x → (∀ k, c k = i → c' k = i') → rep i' c' w cs x
  len : ∀ {i c w cs x}, rep i c w cs x → cs.length = sz
  one : ∀ {i c w cs x}, rep i c w cs x → ∀ v ∈ cs, v.oneCell' = true
def inK (k : IntKind) (x : Int) : Prop := k.min ≤ x ∧ x ≤ k.max
def Kint (k : IntKind) : K Int where
  sz := 1
  pos := by decide
  rep := fun _ _ _ cs x => cs = [.int k x]
  ev := fun h _ _ => h
  rc := fun h _ => h
  len := fun h => by rw [h]; rfl
  one := fun h v hv => by rw [h] at hv; simp at hv; subst hv; rfl
def Kbool : K Bool where
  sz := 1
  pos := by decide
  rep := fun _ _ _ cs x => cs = [.bool x]
  ev := fun h _ _ => h
  rc := fun h _ => h
  len := fun h => by rw [h]; rfl
  one := fun h v hv => by rw [h] at hv; simp at hv; subst hv; rfl
def Kstr : K ByteArray where
  sz := 1
  pos := by decide
  rep := fun _ _ _ cs x => cs = [.string x]
  ev := fun h _ _ => h
  rc := fun h _ => h
  len := fun h => by rw [h]; rfl
  one := fun h v hv => by rw [h] at hv; simp at hv; subst hv; rfl
section
variable {α : Type} {M : Nat → Prop} {c c' : Nat → Nat} {w w' : World} {j j' i i' : Nat} {own : Bool} {e : K α} {v : Value} {xs : List α}
def Row (own : Bool) (j : Nat) (c : Nat → Nat) (w : World) (A : Option Addr) (cs : List Value) : Prop := cs = [] ∨ ∃ a, A = some a ∧ AT own j c w a cs
/-- A slice: own: it may be written; j: its block's colour; i: that of what its elements lead to. -/
def SL (own : Bool) (e : K α) (j i : Nat) (c : Nat → Nat) (w : World) (A : Option Addr) (cap : Nat) (xs : List α) : Prop :=
  ∃ cs, xs.length ≤ cap ∧ cap ≤ maxLen ∧ cs.length = cap * e.sz ∧ Row own j c w A cs ∧ ∀ n (h : n < xs.length), e.rep i c w ((cs.drop (n * e.sz)).take e.sz) xs[n]
variable {A : Option Addr} {cap : Nat}
theorem Row.ev {A : Option Addr} {cs : List Value} (h : Row own j c w A cs) (E : Ev M c w c' w') (hj : ¬ M j) : Row own j c' w' A cs := h.imp id (fun ⟨a, e, h⟩ => ⟨a, e, h.ev E hj⟩)
theorem SL.ev (h : SL own e j i c w A cap xs) (E : Ev M c w c' w') (hj : ¬ M j) (hi : ¬ M i) : SL own e j i c' w' A cap xs := by
  obtain ⟨cs, h2, h3, h4, h5, h6⟩ := h
  exact ⟨cs, h2, h3, h4, h5.ev E hj, fun n hn => e.ev (h6 n hn) E hi⟩
theorem SL.rc (h : SL own e j i c w A cap xs) (hj : ∀ k, c k = j → c' k = j') (hi : ∀ k, c k = i → c' k = i') : SL own e j' i' c' w A cap xs := by
  obtain ⟨cs, h2, h3, h4, h5, h6⟩ := h
  exact ⟨cs, h2, h3, h4, h5.imp id (fun ⟨a, e, h⟩ => ⟨a, e, h.rc hj⟩), fun n hn => e.rc (h6 n hn) hi⟩
theorem SL.r (h : SL own e j i c w A cap xs) : SL false e j i c w A cap xs := by
  obtain ⟨cs, h2, h3, h4, h5, h6⟩ := h
  exact ⟨cs, h2, h3, h4, h5.imp id (fun ⟨a, e, h⟩ => ⟨a, e, h.r⟩), h6⟩
theorem SL.nil : SL own e j i c w none 0 [] := ⟨[], Nat.le_refl _, Nat.zero_le _, by simp, .inl rfl, fun n hn => absurd hn (by simp)⟩
theorem SL.lenB (h : SL own e j i c w A cap xs) : xs.length ≤ maxLen := by
  obtain ⟨cs, h2, h3, h4, h5, h6⟩ := h; omega
theorem SL.at [Inhabited α] (h : SL own e j i c w A cap xs) (k : Int) (h0 : 0 ≤ k) (h1 : k < xs.length) :
    ∃ a cs, A = some a ∧ AT own j c w (a.add (k.toNat * e.sz)) cs ∧ e.rep i c w cs (rd xs k) := by
  obtain ⟨cs, h2, h3, h4, h5, h6⟩ := h
  have hk : k.toNat < xs.length := by omega
  have hle : (k.toNat + 1) * e.sz ≤ cap * e.sz := Nat.mul_le_mul_right _ (by omega)
  have hle2 : k.toNat * e.sz + e.sz ≤ cs.length := by rw [h4, ← Nat.succ_mul]; exact hle
  have hp := e.pos
  rcases h5 with h5 | ⟨a, rfl, h5⟩
  · subst h5; simp at hle2; omega
  · refine ⟨a, (cs.drop (k.toNat * e.sz)).take e.sz, rfl, h5.sub _ _ hle2, ?_⟩
    have := h6 k.toNat hk
    unfold rd
    rw [List.getD_eq_getElem?_getD, List.getElem?_eq_getElem hk]
    exact this
/-- A part of a slice. -/
theorem SL.cut (h : SL own e j i c w A cap xs) (l r m : Nat) (hl : l ≤ r) (hr : r ≤ xs.length) (hm : m ≤ cap) (hrm : r ≤ m) :
    SL own e j i c w (if m = l then A else A.map fun a => a.add (l * e.sz)) (m - l) ((xs.take r).drop l) := by
  obtain ⟨cs, h2, h3, h4, h5, h6⟩ := h
  have hp := e.pos
  have hsz : m * e.sz ≤ cap * e.sz := Nat.mul_le_mul_right _ hm
  have hml : l * e.sz + (m - l) * e.sz = m * e.sz := by rw [← Nat.add_mul]; congr 1; omega
  refine ⟨(cs.drop (l * e.sz)).take ((m - l) * e.sz), by simp; omega, by omega, by simp; omega, ?_, fun n hn => ?_⟩
  · by_cases q : m = l
    · subst q; left; simp
    · rw [if_neg q]
      rcases h5 with h5 | ⟨a, rfl, h5⟩
      · left; subst h5; simp
      · right; exact ⟨_, rfl, h5.sub _ _ (by omega)⟩
  · simp only [List.length_drop, List.length_take] at hn
    have h7 := h6 (l + n) (by omega)
    have hle : (l + n) * e.sz + e.sz ≤ m * e.sz := by rw [← Nat.succ_mul]; exact Nat.mul_le_mul_right _ (by omega)
    rw [Nat.add_mul] at hle
    have he : (((cs.drop (l * e.sz)).take ((m - l) * e.sz)).drop (n * e.sz)).take e.sz = (cs.drop ((l + n) * e.sz)).take e.sz := by
      rw [List.drop_take, List.take_take, List.drop_drop, Nat.add_mul]
      congr 1
      omega
    rw [he]
    have hx : ((xs.take r).drop l)[n]'(by simp; omega) = xs[l + n]'(by omega) := by simp
    rw [hx]; exact h7
end
def Kslice {α : Type} (e : K α) : K (List α) where
  sz := 1
  pos := by decide
  rep := fun i c w cs x => ∃ A cap, cs = [.slice A x.length cap] ∧ SL false e i i c w A cap x
  ev := fun ⟨A, cap, h, h2⟩ E hi => ⟨A, cap, h, h2.ev E hi hi⟩
  rc := fun ⟨A, cap, h, h2⟩ hr => ⟨A, cap, h, h2.rc hr hr⟩
  len := fun ⟨A, cap, h, _⟩ => by rw [h]; rfl
  one := fun ⟨A, cap, h, h2⟩ u hu => by rw [h] at hu; simp at hu; subst hu; rfl
end Go.Proofs.Ytdlokohmdnkdoaa.G
/-! What each operation comes to. -/
namespace Go.Proofs.Ytdlokohmdnkdoaa.G
open Go Go.RowKit
set_option linter.unusedVariables false
set_option linter.unusedSimpArgs false
section
variable {P : Program} {a : Act} {N : Nat} {L : List (Nat × Value)} {D : List Deferred} {w w' : World} {v u : Value} {x y : Operand} {d : Option Tmp} {t ty : TypeId} {pos : String} {af : Array Edge} {gd : Option (Nat × Bool)}
theorem r_move (F : Fr a N L D) (hx : ev L x = some v) : (execOp a.eval { dst := d, op := .move x, type := ty, pos := pos, after := af, guard := gd }).run P w = .ok (.value v) w := by
  simp [execOp, F.ev hx]
theorem r_assign (F : Fr a N L D) (hx : ev L x = some v) : (execOp a.eval { dst := d, op := .assign x, type := ty, pos := pos, after := af, guard := gd }).run P w = .ok (.value v) w := by
  simp [execOp, F.ev hx]
theorem r_pick_t (F : Fr a N L D) {z : Operand} {b : Bool} (hc : ev L z = some (.bool b)) (hb : b = true) (hx : ev L x = some v) : (execOp a.eval { dst := d, op := .pick z x y, type := ty, pos := pos, after := af, guard := gd }).run P w = .ok (.value v) w := by
  subst hb; simp [execOp, F.ev hx, F.ev hc, asBool]
theorem r_pick_f (F : Fr a N L D) {z : Operand} {b : Bool} (hc : ev L z = some (.bool b)) (hb : b = false) (hy : ev L y = some v) : (execOp a.eval { dst := d, op := .pick z x y, type := ty, pos := pos, after := af, guard := gd }).run P w = .ok (.value v) w := by
  subst hb; simp [execOp, F.ev hy, F.ev hc, asBool]
theorem r_nil (F : Fr a N L D) {p : Addr} (hx : ev L x = some (.pointer (some p))) : (execOp a.eval { dst := d, op := .nilCheck x, type := ty, pos := pos, after := af, guard := gd }).run P w = .ok (.value (.pointer (some p))) w := by
  simp [execOp, F.ev hx]
theorem r_fieldAddr (F : Fr a N L D) {p : Addr} {f off : Nat} (hx : ev L x = some (.pointer (some p))) (hf : ∀ q w, (Instr.fieldAt t (.pointer (some q)) f).run P w = .ok (.pointer (some (q.add off))) w) :
    (execOp a.eval { dst := d, op := .fieldAddr t x f, type := ty, pos := pos, after := af, guard := gd }).run P w = .ok (.value (.pointer (some (p.add off)))) w := by
  simp [execOp, F.ev hx, hf]
theorem r_load (F : Fr a N L D) {p : Addr} (hx : ev L x = some (.pointer (some p))) (ha : ∀ w, (isAgg t).run P w = .ok false w) (hc : w.cell? p = some v) :
    (execOp a.eval { dst := d, op := .load t x, type := ty, pos := pos, after := af, guard := gd }).run P w = .ok (.value v) w := by
  simp [execOp, F.ev hx, Instr.loadAt, Instr.sureAddr, loadVar, ha, run_load, hc]
theorem r_loads (F : Fr a N L D) {p : Addr} {cs : List Value} {own : Bool} {j : Nat} {c : Nat → Nat} (hx : ev L x = some (.pointer (some p))) (ha : ∀ w, (isAgg t).run P w = .ok true w) (hs : ∀ w, (sizeOf t).run P w = .ok cs.length w) (hc : AT own j c w p cs) :
    (execOp a.eval { dst := d, op := .load t x, type := ty, pos := pos, after := af, guard := gd }).run P w = .ok (.value (.agg cs.toArray)) w := by
  have h := run_loadCells_list (P := P) w p cs (fun j v hj => hc.cell hj)
  simp [execOp, F.ev hx, Instr.loadAt, Instr.sureAddr, loadVar, ha, hs, h]
theorem r_add (F : Fr a N L D) {k : IntKind} {m n : Int} {yt : TypeId} (hx : ev L x = some (.int k m)) (hy : ev L y = some (.int k n)) : (execOp a.eval { dst := d, op := .binOp .add t x y yt, type := ty, pos := pos, after := af, guard := gd }).run P w = .ok (.value (.int k (k.wrap (m + n)))) w := by
  simp [execOp, F.ev hx, F.ev hy, binOp, Op.intArith, eqGuard]
theorem r_sub (F : Fr a N L D) {k : IntKind} {m n : Int} {yt : TypeId} (hx : ev L x = some (.int k m)) (hy : ev L y = some (.int k n)) : (execOp a.eval { dst := d, op := .binOp .sub t x y yt, type := ty, pos := pos, after := af, guard := gd }).run P w = .ok (.value (.int k (k.wrap (m - n)))) w := by
  simp [execOp, F.ev hx, F.ev hy, binOp, Op.intArith, eqGuard]
theorem r_mul (F : Fr a N L D) {k : IntKind} {m n : Int} {yt : TypeId} (hx : ev L x = some (.int k m)) (hy : ev L y = some (.int k n)) : (execOp a.eval { dst := d, op := .binOp .mul t x y yt, type := ty, pos := pos, after := af, guard := gd }).run P w = .ok (.value (.int k (k.wrap (m * n)))) w := by
  simp [execOp, F.ev hx, F.ev hy, binOp, Op.intArith, eqGuard]
theorem r_quo (F : Fr a N L D) {k : IntKind} {m n : Int} {yt : TypeId} (hx : ev L x = some (.int k m)) (hy : ev L y = some (.int k n)) (h0 : n ≠ 0) : (execOp a.eval { dst := d, op := .binOp .quo t x y yt, type := ty, pos := pos, after := af, guard := gd }).run P w = .ok (.value (.int k (k.wrap (m.tdiv n)))) w := by
  simp [execOp, F.ev hx, F.ev hy, binOp, Op.intDiv, eqGuard, h0]
theorem r_rem (F : Fr a N L D) {k : IntKind} {m n : Int} {yt : TypeId} (hx : ev L x = some (.int k m)) (hy : ev L y = some (.int k n)) (h0 : n ≠ 0) : (execOp a.eval { dst := d, op := .binOp .rem t x y yt, type := ty, pos := pos, after := af, guard := gd }).run P w = .ok (.value (.int k (m.tmod n))) w := by
  simp [execOp, F.ev hx, F.ev hy, binOp, Op.intDiv, eqGuard, h0]
theorem r_and (F : Fr a N L D) {k : IntKind} {m n : Int} {yt : TypeId} (hx : ev L x = some (.int k m)) (hy : ev L y = some (.int k n)) : (execOp a.eval { dst := d, op := .binOp .and t x y yt, type := ty, pos := pos, after := af, guard := gd }).run P w = .ok (.value (.int k (band k m n))) w := by
  simp [execOp, F.ev hx, F.ev hy, binOp, Op.intBits, eqGuard, band]
theorem r_or (F : Fr a N L D) {k : IntKind} {m n : Int} {yt : TypeId} (hx : ev L x = some (.int k m)) (hy : ev L y = some (.int k n)) : (execOp a.eval { dst := d, op := .binOp .or t x y yt, type := ty, pos := pos, after := af, guard := gd }).run P w = .ok (.value (.int k (bor k m n))) w := by
  simp [execOp, F.ev hx, F.ev hy, binOp, Op.intBits, eqGuard, bor]
theorem r_xor (F : Fr a N L D) {k : IntKind} {m n : Int} {yt : TypeId} (hx : ev L x = some (.int k m)) (hy : ev L y = some (.int k n)) : (execOp a.eval { dst := d, op := .binOp .xor t x y yt, type := ty, pos := pos, after := af, guard := gd }).run P w = .ok (.value (.int k (bxor k m n))) w := by
  simp [execOp, F.ev hx, F.ev hy, binOp, Op.intBits, eqGuard, bxor]
theorem r_shl (F : Fr a N L D) {k k' : IntKind} {m n : Int} {yt : TypeId} (hx : ev L x = some (.int k m)) (hy : ev L y = some (.int k' n)) (h0 : 0 ≤ n) : (execOp a.eval { dst := d, op := .binOp .shl t x y yt, type := ty, pos := pos, after := af, guard := gd }).run P w = .ok (.value (.int k (shl k m n))) w := by
  have : ¬ n < 0 := by omega
  simp [execOp, F.ev hx, F.ev hy, binOp, Op.shift, eqGuard, shl, this]
theorem r_shr (F : Fr a N L D) {k k' : IntKind} {m n : Int} {yt : TypeId} (hx : ev L x = some (.int k m)) (hy : ev L y = some (.int k' n)) (h0 : 0 ≤ n) : (execOp a.eval { dst := d, op := .binOp .shr t x y yt, type := ty, pos := pos, after := af, guard := gd }).run P w = .ok (.value (.int k (shr k m n))) w := by
  have : ¬ n < 0 := by omega
  simp [execOp, F.ev hx, F.ev hy, binOp, Op.shift, eqGuard, shr, this]
theorem r_lss (F : Fr a N L D) {k : IntKind} {m n : Int} {yt : TypeId} (hx : ev L x = some (.int k m)) (hy : ev L y = some (.int k n)) : (execOp a.eval { dst := d, op := .binOp .lss t x y yt, type := ty, pos := pos, after := af, guard := gd }).run P w = .ok (.value (.bool (decide (m < n)))) w := by
  simp [execOp, F.ev hx, F.ev hy, binOp, Op.intCmp, eqGuard]
theorem r_leq (F : Fr a N L D) {k : IntKind} {m n : Int} {yt : TypeId} (hx : ev L x = some (.int k m)) (hy : ev L y = some (.int k n)) : (execOp a.eval { dst := d, op := .binOp .leq t x y yt, type := ty, pos := pos, after := af, guard := gd }).run P w = .ok (.value (.bool (decide (m ≤ n)))) w := by
  simp [execOp, F.ev hx, F.ev hy, binOp, Op.intCmp, eqGuard]
theorem r_gtr (F : Fr a N L D) {k : IntKind} {m n : Int} {yt : TypeId} (hx : ev L x = some (.int k m)) (hy : ev L y = some (.int k n)) : (execOp a.eval { dst := d, op := .binOp .gtr t x y yt, type := ty, pos := pos, after := af, guard := gd }).run P w = .ok (.value (.bool (decide (n < m)))) w := by
  simp [execOp, F.ev hx, F.ev hy, binOp, Op.intCmp, eqGuard]
theorem r_geq (F : Fr a N L D) {k : IntKind} {m n : Int} {yt : TypeId} (hx : ev L x = some (.int k m)) (hy : ev L y = some (.int k n)) : (execOp a.eval { dst := d, op := .binOp .geq t x y yt, type := ty, pos := pos, after := af, guard := gd }).run P w = .ok (.value (.bool (decide (n ≤ m)))) w := by
  simp [execOp, F.ev hx, F.ev hy, binOp, Op.intCmp, eqGuard]
theorem r_eql (F : Fr a N L D) {k : IntKind} {m n : Int} {yt : TypeId} (hx : ev L x = some (.int k m)) (hy : ev L y = some (.int k n)) : (execOp a.eval { dst := d, op := .binOp .eql t x y yt, type := ty, pos := pos, after := af, guard := gd }).run P w = .ok (.value (.bool (decide (m = n)))) w := by
  simp [execOp, F.ev hx, F.ev hy, binOp, Op.intCmp, eqGuard]; rfl
theorem r_neq (F : Fr a N L D) {k : IntKind} {m n : Int} {yt : TypeId} (hx : ev L x = some (.int k m)) (hy : ev L y = some (.int k n)) : (execOp a.eval { dst := d, op := .binOp .neq t x y yt, type := ty, pos := pos, after := af, guard := gd }).run P w = .ok (.value (.bool (!decide (m = n)))) w := by
  simp [execOp, F.ev hx, F.ev hy, binOp, Op.intCmp, eqGuard, bne]; rfl
theorem r_beql (F : Fr a N L D) {m n : Bool} {yt : TypeId} (hu : P.underlying t = some .bool) (hx : ev L x = some (.bool m)) (hy : ev L y = some (.bool n)) : (execOp a.eval { dst := d, op := .binOp .eql t x y yt, type := ty, pos := pos, after := af, guard := gd }).run P w = .ok (.value (.bool (m == n))) w := by
  have h := run_equal_bool (P := P) (w := w) t m n hu
  simp [execOp, F.ev hx, F.ev hy, binOp, eqGuard, h]
theorem r_seql (F : Fr a N L D) {m n : ByteArray} {yt : TypeId} (hx : ev L x = some (.string m)) (hy : ev L y = some (.string n)) : (execOp a.eval { dst := d, op := .binOp .eql t x y yt, type := ty, pos := pos, after := af, guard := gd }).run P w = .ok (.value (.bool (m.toList == n.toList))) w := by
  simp [execOp, F.ev hx, F.ev hy, binOp, Op.stringOp, eqGuard]
theorem r_sneq (F : Fr a N L D) {m n : ByteArray} {yt : TypeId} (hx : ev L x = some (.string m)) (hy : ev L y = some (.string n)) : (execOp a.eval { dst := d, op := .binOp .neq t x y yt, type := ty, pos := pos, after := af, guard := gd }).run P w = .ok (.value (.bool (!(m.toList == n.toList)))) w := by
  simp [execOp, F.ev hx, F.ev hy, binOp, Op.stringOp, eqGuard]
theorem r_slss (F : Fr a N L D) {m n : ByteArray} {yt : TypeId} (hx : ev L x = some (.string m)) (hy : ev L y = some (.string n)) : (execOp a.eval { dst := d, op := .binOp .lss t x y yt, type := ty, pos := pos, after := af, guard := gd }).run P w = .ok (.value (.bool (Op.bytesLess m.toList n.toList))) w := by
  simp [execOp, F.ev hx, F.ev hy, binOp, Op.stringOp, eqGuard]
theorem r_sgtr (F : Fr a N L D) {m n : ByteArray} {yt : TypeId} (hx : ev L x = some (.string m)) (hy : ev L y = some (.string n)) : (execOp a.eval { dst := d, op := .binOp .gtr t x y yt, type := ty, pos := pos, after := af, guard := gd }).run P w = .ok (.value (.bool (!(Op.bytesLess m.toList n.toList || m.toList == n.toList)))) w := by
  simp [execOp, F.ev hx, F.ev hy, binOp, Op.stringOp, eqGuard]
theorem r_peql (F : Fr a N L D) {p : Option Addr} {yt : TypeId} (hu : P.underlying t = some (.pointer (P.pointee t))) (hx : ev L x = some (.pointer p)) (hy : ev L y = some (.pointer none)) : (execOp a.eval { dst := d, op := .binOp .eql t x y yt, type := ty, pos := pos, after := af, guard := gd }).run P w = .ok (.value (.bool p.isNone)) w := by
  have h := run_eql_pointer_nil (P := P) (w := w) t p hu
  simp [execOp, F.ev hx, F.ev hy, eqGuard, h]
theorem r_pneq (F : Fr a N L D) {p : Option Addr} {yt : TypeId} (hu : P.underlying t = some (.pointer (P.pointee t))) (hx : ev L x = some (.pointer p)) (hy : ev L y = some (.pointer none)) : (execOp a.eval { dst := d, op := .binOp .neq t x y yt, type := ty, pos := pos, after := af, guard := gd }).run P w = .ok (.value (.bool (!p.isNone))) w := by
  have h := run_neq_pointer_nil (P := P) (w := w) t p hu
  simp [execOp, F.ev hx, F.ev hy, eqGuard, h]
theorem r_not (F : Fr a N L D) {b : Bool} (hx : ev L x = some (.bool b)) : (execOp a.eval { dst := d, op := .unOp .not t x, type := ty, pos := pos, after := af, guard := gd }).run P w = .ok (.value (.bool (!b))) w := by
  simp [execOp, F.ev hx, Op.unary]
theorem r_neg (F : Fr a N L D) {k : IntKind} {n : Int} (hx : ev L x = some (.int k n)) : (execOp a.eval { dst := d, op := .unOp .neg t x, type := ty, pos := pos, after := af, guard := gd }).run P w = .ok (.value (.int k (k.wrap (0 - n)))) w := by
  simp [execOp, F.ev hx, Op.unary, Op.intArith]
theorem r_extract (F : Fr a N L D) {vs : Array Value} {n : Nat} (hx : ev L x = some (.tuple vs)) (hv : vs[n]? = some v) : (execOp a.eval { dst := d, op := .extract x n, type := ty, pos := pos, after := af, guard := gd }).run P w = .ok (.value v) w := by
  simp [execOp, F.ev hx, Instr.extract, hv]
theorem r_field (F : Fr a N L D) {f : Nat} (hx : ev L x = some u) (hf : ∀ w, (Instr.field t u f).run P w = .ok v w) : (execOp a.eval { dst := d, op := .field t x f, type := ty, pos := pos, after := af, guard := gd }).run P w = .ok (.value v) w := by
  simp [execOp, F.ev hx, hf]
theorem r_convi (F : Fr a N L D) {k k' : IntKind} {n : Int} {s : TypeId} (hd : P.underlying t = some (.int k')) (hs : (P.underlying s).isSome = true) (hx : ev L x = some (.int k n)) : (execOp a.eval { dst := d, op := .convert s t x, type := ty, pos := pos, after := af, guard := gd }).run P w = .ok (.value (.int k' (k'.wrap n))) w := by
  obtain ⟨q, hq⟩ := Option.isSome_iff_exists.1 hs
  simp [execOp, F.ev hx, convert, run_underlying hq, run_underlying hd, Conv.intToInt]
theorem r_lensl (F : Fr a N L D) {A : Option Addr} {n cap : Nat} {e : TypeId} (hu : P.underlying t = some (.slice e)) (hx : ev L x = some (.slice A n cap)) : (execOp a.eval { dst := d, op := .call { callee := .builtin .len, args := #[x], argTypes := #[t] }, type := ty, pos := pos, after := af, guard := gd }).run P w = .ok (.value (.int .i64 n)) w := by
  simp [execOp, resolve, invoke, builtin, F.ev hx, Builtin.len_, run_underlying hu, goInt]
theorem r_lenstr (F : Fr a N L D) {s : ByteArray} (hu : P.underlying t = some .string) (hx : ev L x = some (.string s)) : (execOp a.eval { dst := d, op := .call { callee := .builtin .len, args := #[x], argTypes := #[t] }, type := ty, pos := pos, after := af, guard := gd }).run P w = .ok (.value (.int .i64 s.size)) w := by
  simp [execOp, resolve, invoke, builtin, F.ev hx, Builtin.len_, run_underlying hu, goInt]
theorem r_indexAddr (F : Fr a N L D) {A : Addr} {n cap sz : Nat} {k : IntKind} {i : Int} {e : TypeId} (hu : P.underlying t = some (.slice e)) (hs : ∀ w, (sizeOf e).run P w = .ok sz w) (hx : ev L x = some (.slice (some A) n cap)) (hy : ev L y = some (.int k i)) (h0 : 0 ≤ i) (h1 : i < n) :
    (execOp a.eval { dst := d, op := .indexAddr t x y, type := ty, pos := pos, after := af, guard := gd }).run P w = .ok (.value (.pointer (some (A.add (i.toNat * sz))))) w := by
  simp [execOp, F.ev hx, F.ev hy, Instr.indexAt, asIntOf, run_underlying hu, hs, h0, h1]
theorem r_indexStr (F : Fr a N L D) {s : ByteArray} {k : IntKind} {i : Int} (hu : P.underlying t = some .string) (hx : ev L x = some (.string s)) (hy : ev L y = some (.int k i)) (h0 : 0 ≤ i) (h1 : i < s.size) :
    (execOp a.eval { dst := d, op := .index t x y, type := ty, pos := pos, after := af, guard := gd }).run P w = .ok (.value (.int .u8 (s.get! i.toNat).toNat)) w := by
  have h := run_index_string (P := P) w t s k i hu
  rw [dif_pos ⟨h0, h1⟩] at h
  simp only [execOp, F.ev hx, F.ev hy, Sem.run_bind, h, Result.andThen_ok]
  have e : s.get! i.toNat = s[i.toNat]'(by omega) := by
    show s.data[i.toNat]! = s.data[i.toNat]'(by show i.toNat < s.size; omega)
    rw [getElem!_pos]
  rw [e]; rfl
theorem oz_eval (F : Fr a N L D) {oz : Array Operand} {vs : List Value} (hv : oz.toList.map (ev L) = vs.map some) : oz.map a.eval = vs.toArray := by
  apply Array.toList_inj.1
  simp only [Array.toList_map]
  generalize oz.toList = l at hv ⊢
  induction l generalizing vs with
  | nil => cases vs with
    | nil => rfl
    | cons _ _ => simp at hv
  | cons t ts ih => cases vs with
    | nil => simp at hv
    | cons v vs =>
      simp only [List.map_cons, List.cons.injEq] at hv
      simp only [List.map_cons]
      rw [F.ev hv.1, ih hv.2]
theorem r_makeFunc (F : Fr a N L D) {f : FuncId} {oz : Array Operand} {vs : List Value} (hv : oz.toList.map (ev L) = vs.map some) :
    (execOp a.eval { dst := d, op := .makeFunc (.func f) #[] oz, type := ty, pos := pos, after := af, guard := gd }).run P w = .ok (.value (.func (.func f) #[] vs.toArray)) w := by
  have e := oz_eval F hv
  simp [execOp, e, Instr.makeFunc, Sem.run_bind, Sem.run_pure, Result.andThen]
theorem r_call (F : Fr a N L D) {f : FuncId} {fn : Func} {oz : Array Operand} {ats : Array TypeId} {vs : List Value} (hf : P.funcs[f]? = some fn) (hb : fn.body.isNone = false) (hn : (fn.name == "runtime.NumGoroutine") = false) (hv : oz.toList.map (ev L) = vs.map some) :
    (execOp a.eval { dst := d, op := .call { callee := .value (.func f), args := oz, argTypes := ats }, type := ty, pos := pos, after := af, guard := gd }).run P w = .ok (.enter f vs.toArray) w := by
  have e : oz.map a.eval = vs.toArray := by
    apply Array.toList_inj.1
    simp only [Array.toList_map]
    clear hf hb hn
    generalize oz.toList = l at hv ⊢
    induction l generalizing vs with
    | nil => cases vs with
      | nil => rfl
      | cons _ _ => simp at hv
    | cons t ts ih => cases vs with
      | nil => simp at hv
      | cons v vs =>
        simp only [List.map_cons, List.cons.injEq] at hv
        simp only [List.map_cons]
        rw [F.ev hv.1, ih hv.2]
  have ef : a.eval (.func f) = .func (.func f) #[] #[] := rfl
  have hn' : ¬ fn.name = "runtime.NumGoroutine" := by simpa using hn
  have hb' : ¬ fn.body = none := by intro q; rw [q] at hb; cases hb
  simp [execOp, resolve, Deferred.ofValue, ef, e, invoke, callFunc, hf, hb', hn']
end
end Go.Proofs.Ytdlokohmdnkdoaa.G
/-! Operations that turn the world. -/
namespace Go.Proofs.Ytdlokohmdnkdoaa.G
open Go Go.RowKit
set_option linter.unusedVariables false
set_option linter.unusedSimpArgs false
section
variable {P : Program} {ops : Array Oper} {Q : Exit → Act → World → Prop} {K : Act → World → Prop} {a : Act} {N : Nat} {L : List (Nat × Value)} {D : List Deferred} {w w' : World} {rest : List Oper} {o : Oper} {d : Nat} {R : Value → World → Prop} {R0 : World → Prop}
theorem q_eff (F : Fr a N L D) (hg : o.guard = none) (hd : o.dst = some d) (hN : d < N) (h : ∃ v w', (execOp a.eval o).run P w = .ok (.value v) w' ∧ R v w')
    (k : ∀ v w' a', R v w' → Fr a' N ((d, v) :: L) D → wL P ops K rest a' w') : wL P ops K (o :: rest) a w := by
  obtain ⟨v, w', hr, hR⟩ := h
  exact q_val F hg hd hN hr fun a' F' => k v w' a' hR F'
theorem q_eff0 (F : Fr a N L D) (hg : o.guard = none) (hd : o.dst = none) (h : ∃ w', (execOp a.eval o).run P w = .ok .skip w' ∧ R0 w')
    (k : ∀ w' a', R0 w' → Fr a' N L D → wL P ops K rest a' w') : wL P ops K (o :: rest) a w := by
  obtain ⟨w', hr, hR⟩ := h
  exact q_skip F hg hd hr fun a' F' => k w' a' hR F'
theorem o_eff {i : Nat} {K : Act → World → Prop} (F : Fr a N L D) (ho : ops[i]? = some o) (hg : o.guard = none) (hd : o.dst = some d) (hN : d < N) (h : ∃ v w', (execOp a.eval o).run P w = .ok (.value v) w' ∧ R v w')
    (k : ∀ v w' a', R v w' → Fr a' N ((d, v) :: L) D → K a' w') : wO P ops i K a w := by
  obtain ⟨v, w', hr, hR⟩ := h
  exact o_val F ho hg hd hN hr fun a' F' => k v w' a' hR F'
theorem o_eff0 {i : Nat} {K : Act → World → Prop} (F : Fr a N L D) (ho : ops[i]? = some o) (hg : o.guard = none) (hd : o.dst = none) (h : ∃ w', (execOp a.eval o).run P w = .ok .skip w' ∧ R0 w')
    (k : ∀ w' a', R0 w' → Fr a' N L D → K a' w') : wO P ops i K a w := by
  obtain ⟨w', hr, hR⟩ := h
  exact o_skip F ho hg hd hr fun a' F' => k w' a' hR F'
end
section
variable {P : Program} {a : Act} {N : Nat} {L : List (Nat × Value)} {D : List Deferred} {w w' : World} {v u : Value} {x y : Operand} {d : Option Tmp} {t ty : TypeId} {pos : String} {af : Array Edge} {gd : Option (Nat × Bool)} {c : Nat → Nat} {j i : Nat}
/-- What something new leaves: a pointer to its cells. -/
def New (cs : List Value) (c : Nat → Nat) (w : World) (j : Nat) (v : Value) (w' : World) : Prop :=
  ∃ c' p, v = .pointer (some p) ∧ Ev No c w c' w' ∧ AT true j c' w' p cs ∧ ∀ m, CB m c w → j < m → CB m c' w'
theorem e_alloc (F : Fr a N L D) {e : TypeId} {z : Value} (hz : ∀ w, (zeroValue e).run P w = .ok z w) (c : Nat → Nat) (j : Nat) :
    ∃ v w', (execOp a.eval { dst := d, op := .alloc e, type := ty, pos := pos, after := af, guard := gd }).run P w = .ok (.value v) w' ∧ New z.cells.toList c w j v w' := by
  obtain ⟨h1, h2, h3⟩ := alloc_new (M := No) c w z.cells e (0, 0) j true (fun _ k _ => by simp)
  refine ⟨_, _, ?_, _, _, rfl, h1, h2, h3⟩
  simp [execOp, Instr.alloc, hz, newVar, newRow]
theorem e_box (F : Fr a N L D) {e : TypeId} (hx : ev L x = some v) (c : Nat → Nat) (j : Nat) :
    ∃ v' w', (execOp a.eval { dst := d, op := .box e x, type := ty, pos := pos, after := af, guard := gd }).run P w = .ok (.value v') w' ∧ New v.cells.toList c w j v' w' := by
  obtain ⟨h1, h2, h3⟩ := alloc_new (M := No) c w v.cells e (0, 0) j true (fun _ k _ => by simp)
  refine ⟨_, _, ?_, _, _, rfl, h1, h2, h3⟩
  simp [execOp, Instr.box, F.ev hx, newVar, newRow]
/-- the operands of a build -/
def evs (L : List (Nat × Value)) : List (Nat × Operand) → List (Nat × Value) → Prop
  | [], [] => True
  | (i, x) :: l, (k, v) :: m => i = k ∧ ev L x = some v ∧ evs L l m
  | _, _ => False
theorem evs_map (F : Fr a N L D) : ∀ {l : List (Nat × Operand)} {m : List (Nat × Value)}, evs L l m → l.map (fun p => (p.1, a.eval p.2)) = m
  | [], [], _ => rfl
  | (i, x) :: l, (k, v) :: m, ⟨h1, h2, h3⟩ => by
    simp only [List.map_cons, evs_map F h3, F.ev h2, h1]
  | [], _ :: _, h => h.elim
  | _ :: _, [], h => h.elim
theorem r_build (F : Fr a N L D) {ps : List (Nat × Operand)} (vs : List (Nat × Value)) (hv : evs L ps vs) (hb : ∀ w, (Instr.build t vs.toArray).run P w = .ok v w) :
    (execOp a.eval { dst := d, op := .build t ps.toArray, type := ty, pos := pos, after := af, guard := gd }).run P w = .ok (.value v) w := by
  have e : (ps.toArray.map fun (i, x) => (i, a.eval x)) = vs.toArray := by
    rw [← evs_map F hv]; simp
  simp only [execOp]
  rw [e]
  simp [hb]
/-- What a new slice leaves. -/
def NewS {α : Type} (k : K α) (xs : List α) (c : Nat → Nat) (w : World) (j i : Nat) (v : Value) (w' : World) : Prop :=
  ∃ c' A cap, v = .slice A xs.length cap ∧ Ev No c w c' w' ∧ SL true k j i c' w' A cap xs ∧ ∀ m, CB m c w → j < m → CB m c' w'
def Els {α : Type} (k : K α) (i : Nat) (c : Nat → Nat) (w : World) : List Value → List α → Prop
  | _, [] => True
  | cs, x :: xs => k.rep i c w (cs.take k.sz) x ∧ Els k i c w (cs.drop k.sz) xs
theorem Els.spec {α : Type} {k : K α} : ∀ {xs : List α} {cs : List Value}, Els k i c w cs xs → ∀ n (h : n < xs.length), k.rep i c w ((cs.drop (n * k.sz)).take k.sz) xs[n]
  | [], _, _, n, h => absurd h (by simp)
  | x :: xs, cs, ⟨h1, h2⟩, 0, _ => by simpa using h1
  | x :: xs, cs, ⟨h1, h2⟩, n + 1, h => by
    have := Els.spec h2 n (by simpa using h)
    rw [List.drop_drop] at this
    rw [show (n + 1) * k.sz = k.sz + n * k.sz by rw [Nat.add_mul, Nat.one_mul, Nat.add_comm]]
    simpa using this
theorem e_buildSlice {α : Type} {k : K α} (F : Fr a N L D) {n : Nat} {e : TypeId} {ps : List (Nat × Operand)} (vs : List (Nat × Value)) (cs : List Value) (xs : List α) (hv : evs L ps vs)
    (hb : ∀ w, (Instr.buildSlice t n vs.toArray).run P w = .ok (.slice (some ⟨w.heap.size, 0, none⟩) n n) (w.alloc (.cells cs.toArray e (0, 0)))) (hn : n = xs.length) (hm : n ≤ maxLen) (hl : cs.length = n * k.sz) (hr : Els k i c w cs xs) (hi : ¬ No i) (j : Nat) :
    ∃ v' w', (execOp a.eval { dst := d, op := .buildSlice t n ps.toArray, type := ty, pos := pos, after := af, guard := gd }).run P w = .ok (.value v') w' ∧ NewS k xs c w j i v' w' := by
  subst hn
  obtain ⟨h1, h2, h3⟩ := alloc_new (M := No) c w cs.toArray e (0, 0) j true (fun _ k _ => by simp)
  have e : (ps.toArray.map fun (i, x) => (i, a.eval x)) = vs.toArray := by
    rw [← evs_map F hv]; simp
  refine ⟨_, _, ?_, _, _, _, rfl, h1, ⟨cs, Nat.le_refl _, hm, hl, .inr ⟨_, rfl, by simpa using h2⟩, fun n hn => k.ev (hr.spec n hn) h1 hi⟩, h3⟩
  simp only [execOp]
  rw [e]
  simp [hb]
theorem oneCell_cells {v : Value} (h : v.oneCell' = true) : v.cells = #[v] := by
  cases v <;> first | rfl | (simp [Value.oneCell'] at h)
theorem run_store1 {p : Addr} {cs : List Value} {n : Nat} (h : AT true j c w p cs) (hn : n < cs.length) (hu : u.oneCell' = true) : (store (p.add n) u).run P w = .ok () (w.setCell (p.add n) u) := by
  rw [run_store P w _ _ _ hu]
  have h1 := h.cell (List.getElem?_eq_getElem hn)
  rw [h1]
  simp [h.free hn]
theorem e_store (F : Fr a N L D) {p : Addr} {cs : List Value} {n : Nat} (hx : ev L x = some (.pointer (some (p.add n)))) (hy : ev L y = some u) (hs : ∀ w, (sizeOf t).run P w = .ok 1 w) (h : AT true j c w p cs) (hn : n < cs.length) (hu : u.oneCell' = true) :
    ∃ w', (execOp a.eval { dst := d, op := .store t x y, type := ty, pos := pos, after := af, guard := gd }).run P w = .ok .skip w' ∧ (Ev (fun k => k = j) c w c w' ∧ AT true j c w' p (cs.set n u) ∧ w'.heap.size = w.heap.size) := by
  refine ⟨_, ?_, h.set hn u⟩
  have h1 := run_store1 (P := P) h hn hu
  have h0 : ((p.add n).add 0) = p.add n := by simp [Addr.add]
  simp [execOp, F.ev hx, F.ev hy, Instr.storeAt, Instr.sureAddr, storeVar, hs, oneCell_cells hu, storeCells, h0, h1]
/-- cells laid over others -/
def lay (cs : List Value) (n : Nat) (us : List Value) : List Value := cs.take n ++ us ++ cs.drop (n + us.length)
theorem lay_length {cs us : List Value} {n : Nat} (h : n + us.length ≤ cs.length) : (lay cs n us).length = cs.length := by simp [lay]; omega
theorem lay_cons {cs us : List Value} {n : Nat} {u : Value} (h : n + (us.length + 1) ≤ cs.length) : lay (cs.set n u) (n + 1) us = lay cs n (u :: us) := by
  apply List.ext_getElem?
  intro k
  simp only [lay, List.getElem?_append, List.length_append, List.length_take, List.length_set, List.getElem?_take, List.getElem?_drop, List.getElem?_set, List.length_cons]
  by_cases h1 : k < n
  · simp [h1, show k < n + 1 by omega, show k < cs.length by omega, show ¬ n = k by omega, show min n cs.length = n by omega, show min (n+1) cs.length = n+1 by omega, show k < n + (us.length + 1) by omega, show k < n + 1 + us.length by omega]
  · by_cases h2 : k = n
    · subst h2
      simp [show min k cs.length = k by omega, show min (k+1) cs.length = k+1 by omega, show k < cs.length by omega]
      intro q; omega
    · by_cases h3 : k < n + (us.length + 1)
      · obtain ⟨q, rfl⟩ : ∃ q, k = n + 1 + q := ⟨k - (n + 1), by omega⟩
        have e1 : n + 1 + q - n = q + 1 := by omega
        have e2 : n + 1 + q - (n + 1) = q := by omega
        have e3 : min n cs.length = n := by omega
        have e4 : min (n + 1) cs.length = n + 1 := by omega
        simp [e1, e2, e3, e4, show ¬ n + 1 + q < n by omega, show n + 1 + q < n + (us.length + 1) by omega, show n + 1 + q < n + 1 + us.length by omega, show ¬ (n + 1 + q < n + 1) by omega]
      · have e1 : min n cs.length = n := by omega
        have e2 : min (n + 1) cs.length = n + 1 := by omega
        have e3 : ∀ z, ¬ n = n + 1 + us.length + z := by intro z; omega
        simp [e1, e2, h3, show ¬ k < n + 1 + us.length by omega, e3]
        congr 1; omega
theorem run_lay {p : Addr} : ∀ {us : List Value} {cs : List Value} {w : World} {n : Nat}, AT true j c w p cs → n + us.length ≤ cs.length → (∀ u ∈ us, u.oneCell' = true) → ∃ w', (storeCells (p.add n) us).run P w = .ok () w' ∧ Ev (fun k => k = j) c w c w' ∧ AT true j c w' p (lay cs n us) ∧ w'.heap.size = w.heap.size := by
  have key : ∀ (us : List Value) (cs : List Value) (w : World) (n q : Nat), AT true j c w p cs → n + q + us.length ≤ cs.length → (∀ u ∈ us, u.oneCell' = true) → ∃ w', (storeCells (p.add n) us q).run P w = .ok () w' ∧ Ev (fun k => k = j) c w c w' ∧ AT true j c w' p (lay cs (n + q) us) ∧ w'.heap.size = w.heap.size := by
    intro us
    induction us with
    | nil => intro cs w n q h hl _; exact ⟨w, rfl, Ev.refl, by simpa [lay] using h, rfl⟩
    | cons u us ih =>
      intro cs w n q h hl hu
      simp only [List.length_cons] at hl
      obtain ⟨E, h2, hz⟩ := h.set (n := n + q) (by omega) u
      have hs := run_store1 (P := P) (n := n + q) h (by omega) (hu u (by simp))
      obtain ⟨w', hr, E2, h3, hz2⟩ := ih (cs.set (n + q) u) (w.setCell (p.add (n + q)) u) n (q + 1) h2 (by simp; omega) (fun x hx => hu x (by simp [hx]))
      refine ⟨w', ?_, E.trans E2 (fun _ h => h), ?_, hz2.trans hz⟩
      · have e : (p.add n).add q = p.add (n + q) := by
          obtain ⟨b, off, cur, ty, fz, rfl, _⟩ := h
          rw [add_eq, add_eq, add_eq, Nat.add_assoc]
        simp only [storeCells, Sem.run_bind, e, hs, Result.andThen_ok, hr]
      · rw [← Nat.add_assoc, lay_cons (by omega)] at h3; exact h3
  intro us cs w n h hl hu
  exact key us cs w n 0 h (by omega) hu
theorem e_storeN (F : Fr a N L D) {p : Addr} {cs us : List Value} {n : Nat} (hx : ev L x = some (.pointer (some (p.add n)))) (hy : ev L y = some (.agg us.toArray)) (hs : ∀ w, (sizeOf t).run P w = .ok us.length w) (h : AT true j c w p cs) (hn : n + us.length ≤ cs.length) (hu : ∀ u ∈ us, u.oneCell' = true) :
    ∃ w', (execOp a.eval { dst := d, op := .store t x y, type := ty, pos := pos, after := af, guard := gd }).run P w = .ok .skip w' ∧ (Ev (fun k => k = j) c w c w' ∧ AT true j c w' p (lay cs n us) ∧ w'.heap.size = w.heap.size) := by
  obtain ⟨w', hr, h1⟩ := run_lay (P := P) h hn hu
  refine ⟨w', ?_, h1⟩
  simp [execOp, F.ev hx, F.ev hy, Instr.storeAt, Instr.sureAddr, storeVar, hs, Value.cells, hr]
end
end Go.Proofs.Ytdlokohmdnkdoaa.G
/-! append; parts of slices; bytes and strings. -/
namespace Go.Proofs.Ytdlokohmdnkdoaa.G
open Go Go.RowKit
set_option linter.unusedVariables false
set_option linter.unusedSimpArgs false
/-- What is known of a slice's type. -/
structure ET (P : Program) (t e : TypeId) (sz bytes : Nat) (z : Value) : Prop where
  ht : P.underlying t = some (.slice e)
  hi : ∃ i, P.info? e = some i ∧ i.zero = some z ∧ i.size = sz ∧ i.bytes = bytes
  hz : z.cells.size = sz
theorem blk_old {cs r : List Value} {n sz q : Nat} (hq : q < n) (hn : n * sz ≤ cs.length) : ((cs.take (n * sz) ++ r).drop (q * sz)).take sz = (cs.drop (q * sz)).take sz := by
  have h1 : (q + 1) * sz ≤ n * sz := Nat.mul_le_mul_right _ (by omega)
  rw [Nat.add_mul, Nat.one_mul] at h1
  rw [List.drop_append_of_le_length (by simp; omega), List.take_append_of_le_length (by simp; omega), List.drop_take, List.take_take]
  congr 1; omega
theorem blk_new {os ds r : List Value} {n m sz q : Nat} (ho : os.length = n * sz) (hq : q < m) (hm : m * sz ≤ ds.length) : ((os ++ (ds.take (m * sz) ++ r)).drop ((n + q) * sz)).take sz = (ds.drop (q * sz)).take sz := by
  rw [Nat.add_mul, ← ho, ← List.drop_drop, List.drop_left]
  exact blk_old hq hm
section
variable {P : Program} {w w' : World} {c : Nat → Nat} {j j2 i : Nat} {own own2 : Bool} {A B : Option Addr} {cap cap2 : Nat} {t e ty : TypeId} {bytes : Nat} {z : Value} {α : Type} {k : K α} {xs ys : List α}
theorem run_first {sz n len : Nat} {cs : List Value} (h : Row own j c w A cs) (hl : cs.length = cap * sz) (hn : n ≤ cap) (w1 : World) (hw : w1.heap = w.heap) :
    (Builtin.firstCells sz n (.slice A len cap)).run P w1 = .ok (cs.take (n * sz)).toArray w1 := by
  have hle : n * sz ≤ cap * sz := Nat.mul_le_mul_right _ hn
  rcases h with h | ⟨a, rfl, h⟩
  · subst h
    simp at hl
    have h0 : n * sz = 0 := by omega
    cases A with
    | none => rw [run_firstCells_none]; simp
    | some a => exact run_firstCells_some w1 sz n a len cap _ (by simp [h0]) (fun j v hj => by simp at hj)
  · refine run_firstCells_some w1 sz n a len cap _ (by simp; omega) (fun q v hq => ?_)
    have hlt : q < n * sz := by have := (List.getElem?_eq_some_iff.1 hq).1; simp at this; omega
    rw [List.getElem?_take_of_lt hlt] at hq
    have := h.cell hq
    simp only [World.cell?, hw] at this ⊢
    exact this
theorem run_append (T : ET P t e k.sz bytes z) (h1 : SL true k j i c w A cap xs) (h2 : SL own2 k j2 i c w B cap2 ys) (hb : (xs.length + ys.length) * bytes ≤ 140737488355328) (hm : xs.length + ys.length ≤ maxLen) (hij : i ≠ j) :
    ∃ A' cap' w', (Builtin.append_ #[t, t] ty #[.slice A xs.length cap, .slice B ys.length cap2]).run P w = .ok (.slice A' (xs ++ ys).length cap') w' ∧
      ∃ c', Ev (fun x => x = j) c w c' w' ∧ SL true k j i c' w' A' cap' (xs ++ ys) ∧ ∀ m, CB m c w → j < m → CB m c' w' := by
  obtain ⟨cs, a1, a2, a3, a4, a5⟩ := h1
  obtain ⟨ds, b1, b2, b3, b4, b5⟩ := h2
  obtain ⟨inf, hi, hz, hs, hby⟩ := T.hi
  subst hby
  have hp := k.pos
  have xl : xs.length * k.sz ≤ cs.length := by rw [a3]; exact Nat.mul_le_mul_right _ a1
  have yl : ys.length * k.sz ≤ ds.length := by rw [b3]; exact Nat.mul_le_mul_right _ b1
  have hlen : (xs ++ ys).length = xs.length + ys.length := by simp
  have reps : ∀ (c' : Nat → Nat) (w' : World) (r : List Value), Ev (fun x => x = j) c w c' w' → ∀ n (h : n < (xs ++ ys).length), k.rep i c' w' (((cs.take (xs.length * k.sz) ++ (ds.take (ys.length * k.sz) ++ r)).drop (n * k.sz)).take k.sz) (xs ++ ys)[n] := by
    intro c' w' r E n hn
    by_cases q : n < xs.length
    · rw [blk_old q xl, List.getElem_append_left q]; exact k.ev (a5 n q) E hij
    · obtain ⟨q', rfl⟩ : ∃ q', n = xs.length + q' := ⟨n - xs.length, by omega⟩
      have hq' : q' < ys.length := by simp at hn; omega
      rw [blk_new (by simp; omega) hq' yl, List.getElem_append_right (by omega)]
      simp only [Nat.add_sub_cancel_left]
      exact k.ev (b5 q' hq') E hij
  have f2 := fun w1 hw => run_first (P := P) (len := ys.length) (n := ys.length) b4 b3 b1 w1 hw
  by_cases room : xs.length + ys.length ≤ cap
  · rcases a4 with a4 | ⟨a, rfl, a4⟩
    · have hc0 : cap = 0 := by
        subst a4
        have h : cap * k.sz = 0 := a3.symm
        rcases Nat.mul_eq_zero.1 h with h | h
        · exact h
        · omega
      have x0 : xs = [] := List.eq_nil_of_length_eq_zero (by omega)
      have y0 : ys = [] := List.eq_nil_of_length_eq_zero (by omega)
      subst x0 y0 hc0
      refine ⟨A, 0, w, ?_, c, Ev.refl, ⟨cs, by simp, by simp, a3, .inl a4, fun n hn => by simp at hn⟩, fun m hm _ => hm⟩
      have f3 := f2 w rfl
      simp at f3
      cases A <;> simp [Builtin.append_, run_underlying T.ht, sizeOf, typeInfo, hi, hs, Builtin.lenOf, f3, storeCells]
    · obtain ⟨w1, hr, E, hat, hsz⟩ := run_lay (P := P) (n := xs.length * k.sz) (us := ds.take (ys.length * k.sz)) a4 (by
          have : (xs.length + ys.length) * k.sz ≤ cap * k.sz := Nat.mul_le_mul_right _ room
          rw [Nat.add_mul] at this
          simp; omega) (fun u hu => by
          obtain ⟨q, hq, rfl⟩ := List.getElem_of_mem hu
          simp at hq
          have hlt : q / k.sz < ys.length := Nat.div_lt_of_lt_mul (by rw [Nat.mul_comm]; omega)
          have hone := k.one (b5 (q / k.sz) hlt)
          apply hone
          rw [List.getElem_take]
          have e1 : ((ds.drop (q / k.sz * k.sz)).take k.sz)[q % k.sz]? = some ds[q] := by
            rw [List.getElem?_take_of_lt (Nat.mod_lt _ hp), List.getElem?_drop, Nat.div_add_mod' q k.sz, List.getElem?_eq_getElem]
          exact List.mem_of_getElem? e1)
      refine ⟨some a, cap, w1, ?_, c, E, ⟨lay cs (xs.length * k.sz) (ds.take (ys.length * k.sz)), by rw [hlen]; exact room, a2, ?_, .inr ⟨a, rfl, hat⟩, fun n hn => ?_⟩, fun m hm _ => hm.size hsz⟩
      · have f3 := f2 w rfl
        simp only [Builtin.append_, Sem.run_bind]
        simp [run_underlying T.ht, sizeOf, typeInfo, hi, hs, Builtin.lenOf, room, f3, hr]
      · rw [lay_length]
        · exact a3
        · have : (xs.length + ys.length) * k.sz ≤ cap * k.sz := Nat.mul_le_mul_right _ room
          rw [Nat.add_mul] at this
          simp; omega
      · have := reps c w1 (cs.drop (xs.length * k.sz + (ds.take (ys.length * k.sz)).length)) E n hn
        unfold lay
        rw [List.append_assoc]; exact this
  · have f1 := fun w1 hw => run_first (P := P) (len := xs.length) (n := xs.length) a4 a3 a1 w1 hw
    have hg : cap < xs.length + ys.length := by omega
    have h63' : ¬ (9223372036854775807 < ((xs.length : Int) + (ys.length : Int))) := by simp only [maxLen] at hm; omega
    have h48' : ¬ (281474976710656 < Builtin.nextslicecap (xs.length + ys.length) cap * inf.bytes) := by have := growslice_fits hg hb; omega
    have g1 := grownCap_ge w (xs.length + ys.length) cap e
    have g2 := grownCap_le_maxLen w (xs.length + ys.length) cap e hm
    have e1 := f1 w.drew rfl
    have e2 := f2 w.drew rfl
    obtain ⟨n1, n2, n3⟩ := alloc_new (M := fun x => x = j) c w.drew ((cs.take (xs.length * k.sz)).toArray ++ (ds.take (ys.length * k.sz)).toArray ++ Builtin.zeroCells z.cells (grownCap w (xs.length + ys.length) cap e - (xs.length + ys.length))) e (0, 0) j true (fun _ k _ => by simp)
    refine ⟨some ⟨w.heap.size, 0, none⟩, grownCap w (xs.length + ys.length) cap e, _, ?_, _, ⟨n1.os, n1.tape, n1.out, n1.size, n1.col, n1.blk⟩, ⟨_, by rw [hlen]; exact g1, g2, ?_, .inr ⟨_, rfl, n2⟩, fun n hn => ?_⟩, fun m hm hj => n3 m (fun k hk => hm k hk) hj⟩
    · rw [hlen]
      simp [Builtin.append_, run_underlying T.ht, sizeOf, typeInfo, zeroValue, hi, hz, hs, Builtin.lenOf, room, h63', h48', Question.forced, e1, e2, newRow, grownCap]
      congr 2
      apply Array.ext'
      simp [List.append_assoc]
    · have hzz : (Builtin.zeroCells z.cells (grownCap w (xs.length + ys.length) cap e - (xs.length + ys.length))).size = (grownCap w (xs.length + ys.length) cap e - (xs.length + ys.length)) * k.sz := by rw [← T.hz]; simp [Builtin.zeroCells]
      simp [hzz]
      rw [Nat.min_eq_left xl, Nat.min_eq_left yl, ← Nat.add_mul, ← Nat.add_mul]
      congr 1; omega
    · have := reps _ _ (Builtin.zeroCells z.cells (grownCap w (xs.length + ys.length) cap e - (xs.length + ys.length))).toList (⟨n1.os, n1.tape, n1.out, n1.size, n1.col, n1.blk⟩ : Ev (fun x => x = j) c w _ _) n hn
      simpa [List.append_assoc] using this
end
section
variable {P : Program} {a : Act} {N : Nat} {L : List (Nat × Value)} {D : List Deferred} {w w' : World} {v u : Value} {x y : Operand} {d : Option Tmp} {t e ty : TypeId} {pos : String} {af : Array Edge} {gd : Option (Nat × Bool)} {c : Nat → Nat} {j j2 i : Nat} {own own2 : Bool} {A B : Option Addr} {cap cap2 : Nat} {bytes : Nat} {z : Value} {α : Type} {k : K α} {xs ys : List α}
/-- What an append leaves. -/
def NewA {α : Type} (k : K α) (xs : List α) (c : Nat → Nat) (w : World) (j i : Nat) (v : Value) (w' : World) : Prop :=
  ∃ c' A cap, v = .slice A xs.length cap ∧ Ev (fun x => x = j) c w c' w' ∧ SL true k j i c' w' A cap xs ∧ ∀ m, CB m c w → j < m → CB m c' w'
theorem e_append (F : Fr a N L D) (T : ET P t e k.sz bytes z) (hx : ev L x = some (.slice A xs.length cap)) (hy : ev L y = some (.slice B ys.length cap2)) (h1 : SL true k j i c w A cap xs) (h2 : SL own2 k j2 i c w B cap2 ys) (hb : (xs.length + ys.length) * bytes ≤ 140737488355328) (hm : xs.length + ys.length ≤ maxLen) (hij : i ≠ j) :
    ∃ v w', (execOp a.eval { dst := d, op := .call { callee := .builtin .append, args := #[x, y], argTypes := #[t, t] }, type := ty, pos := pos, after := af, guard := gd }).run P w = .ok (.value v) w' ∧ NewA k (xs ++ ys) c w j i v w' := by
  obtain ⟨A', cap', w1, hr, c', h⟩ := run_append (ty := ty) T h1 h2 hb hm hij
  refine ⟨_, w1, ?_, c', A', cap', rfl, h⟩
  simp [execOp, resolve, invoke, builtin, F.ev hx, F.ev hy, hr]
theorem r_slice (F : Fr a N L D) {lo hi mx : Option Operand} {vl vh vm : Option Value} (hx : ev L x = some (.slice A xs.length cap)) (h1 : lo.map (ev L) = vl.map some) (h2 : hi.map (ev L) = vh.map some) (h3 : mx.map (ev L) = vm.map some)
    (hr : ∀ w, (Instr.sliceAt t (.slice A xs.length cap) vl vh vm).run P w = .ok v w) :
    (execOp a.eval { dst := d, op := .slice t x lo hi mx, type := ty, pos := pos, after := af, guard := gd }).run P w = .ok (.value v) w := by
  have e1 : lo.map a.eval = vl := by
    cases lo <;> cases vl <;> simp at h1 ⊢; rw [F.ev h1]
  have e2 : hi.map a.eval = vh := by
    cases hi <;> cases vh <;> simp at h2 ⊢; rw [F.ev h2]
  have e3 : mx.map a.eval = vm := by
    cases mx <;> cases vm <;> simp at h3 ⊢; rw [F.ev h3]
  simp [execOp, F.ev hx, e1, e2, e3, hr]
theorem run_cut {n l r m : Nat} {e : TypeId} {sz : Nat} (hu : P.underlying t = some (.slice e)) (hs : ∀ w, (sizeOf e).run P w = .ok sz w) (vl vh vm : Option Value)
    (hb : ∀ w, (Instr.sliceBounds true n cap vl vh vm).run P w = .ok (l, r, m) w) : ∀ w, (Instr.sliceAt t (.slice A n cap) vl vh vm).run P w = .ok (.slice (if m = l then A else A.map fun a => a.add (l * sz)) (r - l) (m - l)) w := by
  intro w
  simp [Instr.sliceAt, run_underlying hu, Instr.slice, hb, hs]
theorem sb_lh {n : Nat} {kl kh : IntKind} {l h : Int} (h0 : 0 ≤ l) (h1 : l ≤ h) (h2 : h ≤ cap) : ∀ w, (Instr.sliceBounds true n cap (some (.int kl l)) (some (.int kh h)) none).run P w = .ok (l.toNat, h.toNat, cap) w := by
  intro w
  obtain ⟨l, rfl⟩ := Int.eq_ofNat_of_zero_le h0
  obtain ⟨h, rfl⟩ := Int.eq_ofNat_of_zero_le (show 0 ≤ h by omega)
  have g1 : l ≤ h := by omega
  have g2 : h ≤ cap := by omega
  simp [Instr.sliceBounds, Instr.sliceBound, asIntOf, g1, g2]
theorem sb_h {n : Nat} {kh : IntKind} {h : Int} (h1 : 0 ≤ h) (h2 : h ≤ cap) : ∀ w, (Instr.sliceBounds true n cap none (some (.int kh h)) none).run P w = .ok (0, h.toNat, cap) w := by
  intro w
  simp [Instr.sliceBounds, Instr.sliceBound, asIntOf, h1, h2]
theorem sb_l {n : Nat} {kl : IntKind} {l : Int} (h0 : 0 ≤ l) (h1 : l ≤ n) : ∀ w, (Instr.sliceBounds true n cap (some (.int kl l)) none none).run P w = .ok (l.toNat, n, cap) w := by
  intro w
  simp [Instr.sliceBounds, Instr.sliceBound, asIntOf, h0, h1]
theorem sb_all {n : Nat} : ∀ w, (Instr.sliceBounds true n cap none none none).run P w = .ok (0, n, cap) w := by
  intro w
  simp [Instr.sliceBounds]
theorem sb_lhm {n : Nat} {kl kh km : IntKind} {l h m : Int} (h0 : 0 ≤ l) (h1 : l ≤ h) (h2 : h ≤ m) (h3 : m ≤ cap) : ∀ w, (Instr.sliceBounds true n cap (some (.int kl l)) (some (.int kh h)) (some (.int km m))).run P w = .ok (l.toNat, h.toNat, m.toNat) w := by
  intro w
  obtain ⟨l, rfl⟩ := Int.eq_ofNat_of_zero_le h0
  obtain ⟨h, rfl⟩ := Int.eq_ofNat_of_zero_le (show 0 ≤ h by omega)
  obtain ⟨m, rfl⟩ := Int.eq_ofNat_of_zero_le (show 0 ≤ m by omega)
  have g1 : l ≤ h := by omega
  have g2 : h ≤ m := by omega
  have g3 : m ≤ cap := by omega
  simp [Instr.sliceBounds, Instr.sliceBound, asIntOf, g1, g2, g3]
theorem r_bytesStr (F : Fr a N L D) {s e : TypeId} {l : List Int} (hs : P.underlying s = some (.slice e)) (he : P.underlying e = some (.int .u8)) (hd : P.underlying t = some .string) (hx : ev L x = some (.slice A l.length cap)) (h : SL own (Kint .u8) j i c w A cap l) :
    (execOp a.eval { dst := d, op := .convert s t x, type := ty, pos := pos, after := af, guard := gd }).run P w = .ok (.value (.string (bs l))) w := by
  obtain ⟨cs, a1, a2, a3, a4, a5⟩ := h
  have a3' : cs.length = cap := by rw [a3]; show cap * 1 = cap; omega
  rcases a4 with a4 | ⟨p, rfl, b, off, cur, tt, fz, rfl, hb, hc, h1, h2⟩
  · subst a4
    have h0 : cap = 0 := by simpa using a3'.symm
    have l0 : l = [] := List.eq_nil_of_length_eq_zero (by omega)
    subst l0
    cases A with
    | none => simp [execOp, F.ev hx, run_convert_bytes_string w s t e none _ _ hs he hd, Conv.bytesToString, bs, strOfNums]; rfl
    | some q =>
      have hl := run_loadCells_list (P := P) w q [] (fun j v hj => by simp at hj)
      have hr := run_bytesToString (P := P) w q 0 cap [] (by simpa using hl)
      simp [execOp, F.ev hx, run_convert_bytes_string w s t e (some q) _ _ hs he hd, hr, bs, strOfNums]; rfl
  · have hr := run_convert_bytes_arg (P := P) (w := w) s e hs he b off l.length cap l rfl (fun q hq => by
      have h5 := (a5 q hq)
      have h5 : (cs.drop (q * (Kint .u8).sz)).take (Kint .u8).sz = [.int .u8 l[q]] := h5
      have h6 := h1 q (by omega)
      have e1 : (Kint .u8).sz = 1 := rfl
      rw [e1, Nat.mul_one] at h5
      have h7 : cs[q]? = some (.int .u8 l[q]) := by
        have := congrArg (fun z => z[0]?) h5
        simpa [List.getElem?_take, List.getElem?_drop] using this
      simp only [World.cell?, hb]
      rw [if_neg (by simp), h6, h7]
      simp [hq]) t hd
    simp [execOp, F.ev hx, hr, bs, strOfNums]
theorem sb_length (s : ByteArray) : (sb s).length = s.size := by simp [sb]
theorem e_strBytes (F : Fr a N L D) {s e : TypeId} {l : ByteArray} (hs : P.underlying s = some .string) (hd : P.underlying t = some (.slice e)) (he : P.underlying e = some (.int .u8)) (hx : ev L x = some (.string l)) (hm : l.size ≤ maxLen) (c : Nat → Nat) (j i : Nat) :
    ∃ v w', (execOp a.eval { dst := d, op := .convert s t x, type := ty, pos := pos, after := af, guard := gd }).run P w = .ok (.value v) w' ∧ NewS (Kint .u8) (sb l) c w j i v w' := by
  have hr := run_bytes_of_string (P := P) w s t e l hs hd he
  have g1 := grownCap_ge w l.size 0 e
  have g2 := grownCap_le_maxLen w l.size 0 e hm
  obtain ⟨n1, n2, n3⟩ := alloc_new (M := No) c w.drew (bytesRow l (grownCap w l.size 0 e)) e ((bytesRow l (grownCap w l.size 0 e)).size, (bytesRow l (grownCap w l.size 0 e)).size + 1) j true (fun _ k hk => by simp; omega)
  have hsz : (bytesRow l (grownCap w l.size 0 e)).size = grownCap w l.size 0 e := by simp [bytesRow]; omega
  refine ⟨.slice (some ⟨w.heap.size, 0, none⟩) l.size (grownCap w l.size 0 e), _, by simp [execOp, F.ev hx, hr], _, _, _, by rw [sb_length]; rfl, ⟨n1.os, n1.tape, n1.out, n1.size, n1.col, n1.blk⟩, ⟨_, by rw [sb_length]; exact g1, g2, by simp [hsz]; show _ = _ * 1; omega, .inr ⟨_, rfl, n2⟩, fun n hn => ?_⟩, fun m hm hj => n3 m (fun k hk => hm k hk) hj⟩
  rw [sb_length] at hn
  have e1 : ((bytesRow l (grownCap w l.size 0 e)).toList.drop (n * 1)).take 1 = [.int .u8 ((sb l)[n]'(by rw [sb_length]; exact hn))] := by
    rw [Nat.mul_one]
    apply List.ext_getElem?
    intro q
    cases q with
    | zero =>
      rw [List.getElem?_take_of_lt (by omega), List.getElem?_drop, Nat.add_zero]
      have hn2 : n < l.data.size := hn
      have hn3 : n < (List.map (fun b : UInt8 => Value.int IntKind.u8 (b.toNat : Int)) l.data.toList).length := by simpa using hn2
      simp only [bytesRow, Array.toList_append, Array.toList_map, Array.toList_replicate]
      rw [List.getElem?_append_left hn3]
      simp [sb, hn2]
      exact ⟨_, Array.getElem?_eq_getElem hn2, rfl⟩
    | succ q => simp; omega
  exact e1
end
end Go.Proofs.Ytdlokohmdnkdoaa.G
/-! Small words of the printed proofs. -/
namespace Go.Proofs.Ytdlokohmdnkdoaa.G
open Go Go.RowKit
set_option linter.unusedVariables false
set_option linter.unusedSimpArgs false
section
variable {P : Program} {ops : Array Oper} {Q : Exit → Act → World → Prop} {K : Act → World → Prop} {a : Act} {N : Nat} {L : List (Nat × Value)} {D : List Deferred} {w w' : World} {v u : Value} {x y : Operand} {d : Option Tmp} {t ty : TypeId} {pos : String} {af : Array Edge} {gd : Option (Nat × Bool)} {c : Nat → Nat} {j i : Nat} {own : Bool} {id id' : Nat}
theorem thenE (h : Q (.exit id) a w) : Exit.then K Q (.exit id) a w := h
theorem thenR (h : Q .ret a w) : Exit.then K Q .ret a w := h
theorem inbR (h : Q .ret a w) : Exit.inBlock id Q .ret a w := h
theorem inbE (h : Q .normal a w) : Exit.inBlock id Q (.exit id) a w := by simp only [Exit.inBlock, if_true]; exact h
theorem inbNe (hn : id' ≠ id) (h : Q (.exit id') a w) : Exit.inBlock id Q (.exit id') a w := by simp only [Exit.inBlock, if_neg hn]; exact h
theorem d_e {S : World → Prop} {fin i : Nat} {s : Sch} (h : wO P ops i (fun a' w' => (i ≠ fin → S w') ∧ wpS P ops K S fin s a' w') a w) : wpS P ops K S fin (.e i s) a w := h
theorem d_f {S : World → Prop} {fin i k : Nat} {s s' : Sch} (h : wO P ops i (fun a' w' => (i ≠ fin → S w') ∧ wpS P ops K S fin s a' w') a w) (h' : wO P ops k (fun a' w' => (k ≠ fin → S w') ∧ wpS P ops K S fin s' a' w') a w) : wpS P ops K S fin (.f i s k s') a w := ⟨h, h'⟩
theorem d_g {S : World → Prop} {fin i k l : Nat} {s s' s'' : Sch} (h : wO P ops i (fun a' w' => (i ≠ fin → S w') ∧ wpS P ops K S fin s a' w') a w) (h' : wO P ops k (fun a' w' => (k ≠ fin → S w') ∧ wpS P ops K S fin s' a' w') a w) (h'' : wO P ops l (fun a' w' => (l ≠ fin → S w') ∧ wpS P ops K S fin s'' a' w') a w) : wpS P ops K S fin (.g i s k s' l s'') a w := ⟨h, h', h''⟩
theorem o_no {i : Nat} {o : Oper} {d : Nat} (F : Fr a N L D) {j dj : Nat} {b c : Bool} (ho : ops[i]? = some o) (hg : o.guard = some (j, c)) (hj : (ops[j]?).bind (·.dst) = some dj) (hjN : dj < N) (hv : lk L dj = some (.bool b)) (hb : b = !c) (hd : o.dst = some d) (hN : d < N)
    (k : ∀ a', Fr a' N ((d, undef) :: L) D → K a' w) : wO P ops i K a w := by
  unfold wO; simp only [ho]
  rw [if_neg (by rw [wanted_no F hg hj hjN hv hb]; simp)]
  rw [hd]; exact k _ (F.put undef hN)
theorem yielded_nu (F : Fr a N L D) {j dj : Nat} (hj : (ops[j]?).bind (·.dst) = some dj) (hN : dj < N) (hv : lk L dj = some undef) : yielded ops a.tmps j = none := by
  unfold yielded
  have h := F.get dj _ hv
  have hs := F.size
  simp only [Array.getD_eq_getD_getElem?] at h
  rw [hj]
  simp only [Option.bind_some]
  rw [show a.tmps[dj]? = some (a.tmps[dj]'(by omega)) from Array.getElem?_eq_getElem (by omega)] at h ⊢
  simp only [Option.getD_some] at h
  rw [h]; rfl
theorem wanted_nu {o : Oper} (F : Fr a N L D) {j dj : Nat} {c : Bool} (hg : o.guard = some (j, c)) (hj : (ops[j]?).bind (·.dst) = some dj) (hN : dj < N) (hv : lk L dj = some undef) : Region.wanted o (yielded ops a.tmps) = false := by
  cases c <;> simp [Region.wanted, hg, yielded_nu F hj hN hv]
/-- an operation whose guard was not come to -/
theorem q_nu {rest : List Oper} (F : Fr a N L D) {op : Op} {d : Nat} {ty : TypeId} {pos : String} {af : Array Edge} {j dj : Nat} {c : Bool} (hj : (ops[j]?).bind (·.dst) = some dj) (hN : dj < N) (hv : lk L dj = some undef) (hd : d < N)
    (k : ∀ a', Fr a' N ((d, undef) :: L) D → wL P ops K rest a' w) : wL P ops K ({ dst := some d, op := op, type := ty, pos := pos, after := af, guard := some (j, c) } :: rest) a w := by
  unfold wL
  rw [if_neg (by rw [wanted_nu F rfl hj hN hv]; simp)]
  exact k _ (F.put undef hd)
theorem d_qnu {i fin : Nat} {S : World → Prop} {s : Sch} {o : Oper} {d : Nat} (F : Fr a N L D) {j dj : Nat} {c : Bool} (ho : ops[i]? = some o) (hg : o.guard = some (j, c)) (hj : (ops[j]?).bind (·.dst) = some dj) (hjN : dj < N) (hv : lk L dj = some undef) (hd : o.dst = some d) (hN : d < N) (hS : S w)
    (k : ∀ a', Fr a' N ((d, undef) :: L) D → wpS P ops K S fin s a' w) : wpS P ops K S fin (.q i s) a w :=
  ⟨o, undef, ho, .inr ⟨wanted_nu F hg hj hjN hv, rfl⟩, hS, by rw [hd]; exact k _ (F.put undef hN)⟩
theorem o_nu {i : Nat} {o : Oper} {d : Nat} (F : Fr a N L D) {j dj : Nat} {c : Bool} (ho : ops[i]? = some o) (hg : o.guard = some (j, c)) (hj : (ops[j]?).bind (·.dst) = some dj) (hjN : dj < N) (hv : lk L dj = some undef) (hd : o.dst = some d) (hN : d < N)
    (k : ∀ a', Fr a' N ((d, undef) :: L) D → K a' w) : wO P ops i K a w := by
  unfold wO; simp only [ho]
  rw [if_neg (by rw [wanted_nu F hg hj hjN hv]; simp)]
  rw [hd]; exact k _ (F.put undef hN)
/-- What a drawn region leaves alone. -/
def SB (M : Nat → Prop) (c : Nat → Nat) (w w' : World) : Prop := Ev M c w c w'
variable {M : Nat → Prop} {p : Addr} {cs : List Value}
theorem Ev.sb {c' : Nat → Nat} (E : Ev M c w c' w') : SB M c w w' := ⟨E.os, E.tape, E.out, E.size, fun _ _ => rfl, E.blk⟩
theorem AT.sb (h : AT own j c w p cs) (hS : SB M c w w') (hj : ¬ M j) : AT own j c w' p cs := h.ev hS hj
theorem AT.sub0 (h : AT own j c w p cs) (m : Nat) (hn : m ≤ cs.length) : AT own j c w p (cs.take m) := by
  have := h.sub 0 m (by omega)
  obtain ⟨b, off, cur, ty, fz, rfl, _⟩ := h
  rwa [add_eq, Nat.add_zero, List.drop_zero] at this
theorem one_all {us : List Value} (h : us.all (·.oneCell') = true) : ∀ u ∈ us, u.oneCell' = true := fun u hu => List.all_eq_true.1 h u hu
theorem r_fieldAddr2 (F : Fr a N L D) {n f off : Nat} (h : AT own j c w' p cs) (hx : ev L x = some (.pointer (some (p.add n)))) (hf : ∀ q w, (Instr.fieldAt t (.pointer (some q)) f).run P w = .ok (.pointer (some (q.add off))) w) :
    (execOp a.eval { dst := d, op := .fieldAddr t x f, type := ty, pos := pos, after := af, guard := gd }).run P w = .ok (.value (.pointer (some (p.add (n + off))))) w := by
  have e : (p.add n).add off = p.add (n + off) := by
    obtain ⟨b, o, cur, ty, fz, rfl, _⟩ := h
    rw [add_eq, add_eq, add_eq, Nat.add_assoc]
  rw [r_fieldAddr F hx hf, e]
theorem r_peqlA (F : Fr a N L D) {q : Option Addr} {yt : TypeId} {b : Bool} (hu : P.underlying t = some (.pointer (P.pointee t))) (hx : ev L x = some (.pointer q)) (hy : ev L y = some (.pointer none)) (hb : q.isNone = b) : (execOp a.eval { dst := d, op := .binOp .eql t x y yt, type := ty, pos := pos, after := af, guard := gd }).run P w = .ok (.value (.bool b)) w := by
  rw [r_peql F hu hx hy, hb]
theorem r_pneqA (F : Fr a N L D) {q : Option Addr} {yt : TypeId} {b : Bool} (hu : P.underlying t = some (.pointer (P.pointee t))) (hx : ev L x = some (.pointer q)) (hy : ev L y = some (.pointer none)) (hb : q.isNone = b) : (execOp a.eval { dst := d, op := .binOp .neq t x y yt, type := ty, pos := pos, after := af, guard := gd }).run P w = .ok (.value (.bool (!b))) w := by
  rw [r_pneq F hu hx hy, hb]
theorem r_bneq (F : Fr a N L D) {m n : Bool} {yt : TypeId} (hu : P.underlying t = some .bool) (hx : ev L x = some (.bool m)) (hy : ev L y = some (.bool n)) : (execOp a.eval { dst := d, op := .binOp .neq t x y yt, type := ty, pos := pos, after := af, guard := gd }).run P w = .ok (.value (.bool (!(m == n)))) w := by
  have h := run_equal_bool (P := P) (w := w) t m n hu
  simp [execOp, F.ev hx, F.ev hy, binOp, eqGuard, h]
theorem e_store0 (F : Fr a N L D) (hx : ev L x = some (.pointer (some p))) (hy : ev L y = some u) (hs : ∀ w, (sizeOf t).run P w = .ok 1 w) (h : AT true j c w p cs) (hn : 0 < cs.length) (hu : u.oneCell' = true) :
    ∃ w', (execOp a.eval { dst := d, op := .store t x y, type := ty, pos := pos, after := af, guard := gd }).run P w = .ok .skip w' ∧ (Ev (fun k => k = j) c w c w' ∧ AT true j c w' p (cs.set 0 u) ∧ w'.heap.size = w.heap.size) := by
  have e : p.add 0 = p := by simp [Addr.add]
  exact e_store F (by rw [e]; exact hx) hy hs h hn hu
theorem e_storeN0 (F : Fr a N L D) {us : List Value} (hx : ev L x = some (.pointer (some p))) (hy : ev L y = some (.agg us.toArray)) (hs : ∀ w, (sizeOf t).run P w = .ok us.length w) (h : AT true j c w p cs) (hn : 0 + us.length ≤ cs.length) (hu : ∀ u ∈ us, u.oneCell' = true) :
    ∃ w', (execOp a.eval { dst := d, op := .store t x y, type := ty, pos := pos, after := af, guard := gd }).run P w = .ok .skip w' ∧ (Ev (fun k => k = j) c w c w' ∧ AT true j c w' p (lay cs 0 us) ∧ w'.heap.size = w.heap.size) := by
  have e : p.add 0 = p := by simp [Addr.add]
  exact e_storeN F (by rw [e]; exact hx) hy hs h hn hu
theorem r_indexAddr' (F : Fr a N L D) {A : Option Addr} {A' q : Addr} {n cap sz : Nat} {k : IntKind} {i : Int} {e : TypeId} (hu : P.underlying t = some (.slice e)) (hs : ∀ w, (sizeOf e).run P w = .ok sz w) (hx : ev L x = some (.slice A n cap)) (hy : ev L y = some (.int k i)) (h0 : 0 ≤ i) (h1 : i < n) (hA : A = some A') (hq : q = A'.add (i.toNat * sz)) :
    (execOp a.eval { dst := d, op := .indexAddr t x y, type := ty, pos := pos, after := af, guard := gd }).run P w = .ok (.value (.pointer (some q))) w := by
  subst hA; subst hq; exact r_indexAddr F hu hs hx hy h0 h1
theorem r_max (F : Fr a N L D) {k : IntKind} {m n : Int} {at1 at2 : TypeId} (hx : ev L x = some (.int k m)) (hy : ev L y = some (.int k n)) : (execOp a.eval { dst := d, op := .call { callee := .builtin .max, args := #[x, y], argTypes := #[at1, at2] }, type := ty, pos := pos, after := af, guard := gd }).run P w = .ok (.value (.int k (max m n))) w := by
  simp [execOp, resolve, invoke, builtin, F.ev hx, F.ev hy, Builtin.max_, Builtin.max2]
  rw [Int.max_def]; split <;> split <;> omega
theorem r_min (F : Fr a N L D) {k : IntKind} {m n : Int} {at1 at2 : TypeId} (hx : ev L x = some (.int k m)) (hy : ev L y = some (.int k n)) : (execOp a.eval { dst := d, op := .call { callee := .builtin .min, args := #[x, y], argTypes := #[at1, at2] }, type := ty, pos := pos, after := af, guard := gd }).run P w = .ok (.value (.int k (min m n))) w := by
  simp [execOp, resolve, invoke, builtin, F.ev hx, F.ev hy, Builtin.min_, Builtin.min2]
  rw [Int.min_def]; split <;> split <;> omega
theorem info_parts' {e : TypeId} {z : Value} {sz by_ : Nat} (h : (P.info? e).map (fun i => (i.zero, i.size, i.bytes)) = some (some z, sz, by_)) : ∃ i, P.info? e = some i ∧ i.zero = some z ∧ i.size = sz ∧ i.bytes = by_ := by
  cases hi : P.info? e with
  | none => rw [hi] at h; cases h
  | some i => rw [hi] at h; simp at h; exact ⟨i, rfl, h.1, h.2.1, h.2.2⟩
/-- a result: a temporary, or what a cell holds -/
def RV (P : Program) (L : List (Nat × Value)) (w : World) : ResultVar → Value → Prop
  | .tmp t, v => lk L t = some v
  | .cell q t, v => ∃ p, lk L q = some (.pointer (some p)) ∧ (loadVar t p).run P w = .ok v w
theorem lv_one (ha : ∀ w, (isAgg t).run P w = .ok false w) (hc : w.cell? p = some v) : (loadVar t p).run P w = .ok v w := by
  simp [loadVar, ha, run_load, hc]
theorem lv_agg (ha : ∀ w, (isAgg t).run P w = .ok true w) (hs : ∀ w, (sizeOf t).run P w = .ok cs.length w) (hc : AT own j c w p cs) : (loadVar t p).run P w = .ok (.agg cs.toArray) w := by
  have h := run_loadCells_list (P := P) w p cs (fun j v hj => hc.cell hj)
  simp [loadVar, ha, hs, h]
def rvS (tmps : Array Value) : ResultVar → Sem Value
  | .tmp t => pure (tmps.getD t undef)
  | .cell a t => do loadVar t (← asAddr (tmps.getD a undef))
theorem RV.run (F : Fr a N L D) {r : ResultVar} (h : RV P L w r v) : (rvS a.tmps r).run P w = .ok v w := by
  cases r with
  | tmp t => simp only [rvS, Sem.run_pure]; rw [F.get t v h]
  | cell q t =>
    obtain ⟨p, h1, h2⟩ := h
    simp only [rvS, Sem.run_bind]; rw [F.get q _ h1]
    simp [asAddr, h2]
theorem outR1 {fn : Func} {r1 : ResultVar} {v1 : Value} {R : Ending → World → Prop} (F : Fr a N L) (hr : fn.results = #[r1]) (h1 : RV P L w r1 v1) (h : R (.returned v1) w) : bodyPost P fn R .ret a w := by
  refine ⟨F.dfr, v1, ?_, h⟩
  have e1 := h1.run F
  show Sem.run P (results fn a.tmps) w = _
  unfold results; rw [hr]
  change Sem.run P ((do let vs ← #[r1].mapM (rvS a.tmps); pure (if h : vs.size = 1 then vs[0] else .tuple vs)) : Sem Value) w = _
  simp [e1]
theorem outR2 {fn : Func} {r1 r2 : ResultVar} {v1 v2 : Value} {R : Ending → World → Prop} (F : Fr a N L) (hr : fn.results = #[r1, r2]) (h1 : RV P L w r1 v1) (h2 : RV P L w r2 v2) (h : R (.returned (.tuple #[v1, v2])) w) : bodyPost P fn R .ret a w := by
  refine ⟨F.dfr, .tuple #[v1, v2], ?_, h⟩
  have e1 := h1.run F
  have e2 := h2.run F
  show Sem.run P (results fn a.tmps) w = _
  unfold results; rw [hr]
  change Sem.run P ((do let vs ← #[r1, r2].mapM (rvS a.tmps); pure (if h : vs.size = 1 then vs[0] else .tuple vs)) : Sem Value) w = _
  simp [e1, e2]
theorem outR3 {fn : Func} {r1 r2 r3 : ResultVar} {v1 v2 v3 : Value} {R : Ending → World → Prop} (F : Fr a N L) (hr : fn.results = #[r1, r2, r3]) (h1 : RV P L w r1 v1) (h2 : RV P L w r2 v2) (h3 : RV P L w r3 v3) (h : R (.returned (.tuple #[v1, v2, v3])) w) : bodyPost P fn R .ret a w := by
  refine ⟨F.dfr, .tuple #[v1, v2, v3], ?_, h⟩
  have e1 := h1.run F
  have e2 := h2.run F
  have e3 := h3.run F
  show Sem.run P (results fn a.tmps) w = _
  unfold results; rw [hr]
  change Sem.run P ((do let vs ← #[r1, r2, r3].mapM (rvS a.tmps); pure (if h : vs.size = 1 then vs[0] else .tuple vs)) : Sem Value) w = _
  simp [e1, e2, e3]
end
section
variable {P : Program} {α : Type} {k : K α} {own : Bool} {j i : Nat} {c c' : Nat → Nat} {w w' : World} {A : Option Addr} {cap : Nat} {xs : List α} {M : Nat → Prop} {t e : TypeId}
theorem SL.sb (h : SL own k j i c w A cap xs) (hS : SB M c w w') (hj : ¬ M j) (hi : ¬ M i) : SL own k j i c w' A cap xs := h.ev hS hj hi
theorem SL.fl {i' : Nat} (h : SL own k j i c w A cap xs) (hf : ∀ {cs x}, k.rep i c w cs x → k.rep i' c w cs x) : SL own k j i' c w A cap xs := by
  obtain ⟨cs, h2, h3, h4, h5, h6⟩ := h
  exact ⟨cs, h2, h3, h4, h5, fun n hn => hf (h6 n hn)⟩
theorem cut_lh {kl kh : IntKind} {l h : Int} (hu : P.underlying t = some (.slice e)) (hs : ∀ w, (sizeOf e).run P w = .ok k.sz w) (hx : SL own k j i c w A cap xs) (g : 0 ≤ l ∧ l ≤ h ∧ h ≤ (xs.length : Int)) :
    ∃ A' cap', (∀ w, (Instr.sliceAt t (.slice A xs.length cap) (some (.int kl l)) (some (.int kh h)) none).run P w = .ok (.slice A' ((xs.take h.toNat).drop l.toNat).length cap') w) ∧ SL own k j i c w A' cap' ((xs.take h.toNat).drop l.toNat) := by
  have hc : xs.length ≤ cap := by obtain ⟨cs, h2, _⟩ := hx; exact h2
  have hcut := hx.cut l.toNat h.toNat cap (by omega) (by omega) (Nat.le_refl _) (by omega)
  refine ⟨_, _, fun w => ?_, hcut⟩
  rw [run_cut hu hs _ _ _ (sb_lh (n := xs.length) g.1 g.2.1 (by omega)) w]
  congr 2
  simp; omega
theorem cut_h {kh : IntKind} {h : Int} (hu : P.underlying t = some (.slice e)) (hs : ∀ w, (sizeOf e).run P w = .ok k.sz w) (hx : SL own k j i c w A cap xs) (g : 0 ≤ h ∧ h ≤ (xs.length : Int)) :
    ∃ A' cap', (∀ w, (Instr.sliceAt t (.slice A xs.length cap) none (some (.int kh h)) none).run P w = .ok (.slice A' (xs.take h.toNat).length cap') w) ∧ SL own k j i c w A' cap' (xs.take h.toNat) := by
  have hc : xs.length ≤ cap := by obtain ⟨cs, h2, _⟩ := hx; exact h2
  have hcut := hx.cut 0 h.toNat cap (by omega) (by omega) (Nat.le_refl _) (by omega)
  rw [List.drop_zero] at hcut
  refine ⟨_, _, fun w => ?_, hcut⟩
  rw [run_cut hu hs _ _ _ (sb_h (n := xs.length) g.1 (by omega)) w]
  congr 2
  simp; omega
theorem cut_l {kl : IntKind} {l : Int} (hu : P.underlying t = some (.slice e)) (hs : ∀ w, (sizeOf e).run P w = .ok k.sz w) (hx : SL own k j i c w A cap xs) (g : 0 ≤ l ∧ l ≤ (xs.length : Int)) :
    ∃ A' cap', (∀ w, (Instr.sliceAt t (.slice A xs.length cap) (some (.int kl l)) none none).run P w = .ok (.slice A' (xs.drop l.toNat).length cap') w) ∧ SL own k j i c w A' cap' (xs.drop l.toNat) := by
  have hc : xs.length ≤ cap := by obtain ⟨cs, h2, _⟩ := hx; exact h2
  have hcut := hx.cut l.toNat xs.length cap (by omega) (by omega) (Nat.le_refl _) (by omega)
  rw [List.take_length] at hcut
  refine ⟨_, _, fun w => ?_, hcut⟩
  rw [run_cut hu hs _ _ _ (sb_l (n := xs.length) g.1 (by omega)) w]
  congr 2
  simp
end
end Go.Proofs.Ytdlokohmdnkdoaa.G
/-! A range over a function: the statement, its rounds, its iterators, the function's end. -/
namespace Go.Proofs.Ytdlokohmdnkdoaa.G
open Go Go.RowKit
set_option linter.unusedVariables false
set_option linter.unusedSimpArgs false
/-- what lies in a block of a colour -/
def OBJ (y : Nat) (c : Nat → Nat) (w : World) (b : Nat) (o : Obj) : Prop := w.heap[b]? = some o ∧ c b = y
section
variable {P : Program} {M : Nat → Prop} {c c' : Nat → Nat} {w w' : World} {y b : Nat} {o o' : Obj}
theorem OBJ.ev (h : OBJ y c w b o) (E : Ev M c w c' w') (hy : ¬ M y) : OBJ y c' w' b o :=
  ⟨(E.blk b (lt_of_get h.1) (by rw [h.2]; exact hy)).trans h.1, (E.col b (lt_of_get h.1)).trans h.2⟩
theorem OBJ.put (h : OBJ y c w b o) (o' : Obj) : Ev (fun x => x = y) c w c (w.putObj b o') ∧ OBJ y c (w.putObj b o') b o' ∧ (w.putObj b o').heap.size = w.heap.size := by
  have hlt := lt_of_get h.1
  have hz : (w.putObj b o').heap.size = w.heap.size := by simp [World.putObj]
  refine ⟨⟨rfl, rfl, rfl, by rw [hz]; exact Nat.le_refl _, fun _ _ => rfl, fun k hk hm => World.putObj_heap_other (fun e => hm (by rw [e]; exact h.2))⟩, ⟨World.putObj_heap_same hlt, h.2⟩, hz⟩
theorem OBJ.new (c : Nat → Nat) (w : World) (o : Obj) (y : Nat) : Ev M c w (cset c w.heap.size y) (w.alloc o) ∧ OBJ y (cset c w.heap.size y) (w.alloc o) w.heap.size o ∧ (∀ m, CB m c w → y < m → CB m (cset c w.heap.size y) (w.alloc o)) := by
  have hz : (w.alloc o).heap.size = w.heap.size + 1 := World.size_alloc ..
  have hk := MapKept.heap_alloc w o
  refine ⟨⟨rfl, rfl, rfl, by omega, fun k hk => by unfold cset; rw [if_neg (by omega)], fun k hlt _ => hk.2 k hlt⟩, ⟨hk.1, by unfold cset; rw [if_pos rfl]⟩, fun m hm hx k hk => ?_⟩
  unfold cset
  split
  · exact hx
  · exact hm k (by omega)
end
def lrec (fn : FuncId) (tmps : Array Value) (ps : Array Tmp) (assign body : Code) (D : Nat) : Loop :=
  { state := .ready, pending := none, fn := fn, tmps := tmps, params := ps, assign := assign, body := body, defers := D }
def lbusy (r : Loop) : Loop := { r with state := .busy }
def ldone (r : Loop) (j : Code) : Loop := { r with state := .done, pending := some j }
def lleft (r : Loop) : Option Code → Loop
  | none => r
  | some j => ldone r j
theorem lleft_pend {r : Loop} (h : r.pending = none) : ∀ j, (lleft r j).pending = j
  | none => h
  | some _ => rfl
theorem lleft_busy {r : Loop} (h : r.state = .ready) : ∀ j, (lleft r j).state ≠ .busy
  | none => by simp [lleft, h]
  | some _ => by simp [lleft, ldone]
section
variable {P : Program} {a : Act} {N : Nat} {L : List (Nat × Value)} {D : List Deferred} {w : World} {c : Nat → Nat} {y : Nat}
/-- How a round's body is left. -/
def RE (y : Nat) (l : Nat) (rec_ : Loop) (G : (Nat → Nat) → World → Prop) (X : Code → (Nat → Nat) → World → Prop) : Exit → Act → World → Prop
  | .normal, _, W => ∃ c, OBJ y c W l (.loop (lbusy rec_)) ∧ G c W
  | .ret, _, W => ∃ c, OBJ y c W l (.loop (lbusy rec_)) ∧ X .ret c W
  | .exit id, _, W => ∃ c, OBJ y c W l (.loop (lbusy rec_)) ∧ X (.exit id) c W
  | _, _, _ => False
/-- What a call of the loop's round leaves. -/
def RR (y : Nat) (l : Nat) (rec_ : Loop) (G : (Nat → Nat) → World → Prop) (X : Code → (Nat → Nat) → World → Prop) (e : Ending) (W : World) : Prop :=
  (e = .returned (.bool true) ∧ ∃ c V, G c V ∧ Ev (fun x => x = y) c V c W ∧ OBJ y c W l (.loop rec_) ∧ W.heap.size = V.heap.size) ∨
  (e = .returned (.bool false) ∧ ∃ j c V, X j c V ∧ Ev (fun x => x = y) c V c W ∧ OBJ y c W l (.loop (ldone rec_ j)) ∧ W.heap.size = V.heap.size)
theorem round2 {a0 : Act} {fn : FuncId} {p1 p2 : Tmp} {assign body : Code} {D0 l : Nat} {v1 v2 : Value} {G : (Nat → Nat) → World → Prop} {X : Code → (Nat → Nat) → World → Prop} (F : Fr a0 N L D) (h1 : p1 < N) (h2 : p2 < N)
    (hl : OBJ y c w l (.loop (lrec fn a0.tmps #[p1, p2] assign body D0)))
    (h : ∀ a, Fr a N ((p2, v2) :: (p1, v1) :: L) → assign.wpIn (Fw (some l)) 0 P (Exit.then (fun a1 W1 => ∃ c1, OBJ y c1 W1 l (.loop (lrec fn a0.tmps #[p1, p2] assign body D0)) ∧
      ∀ W2, Ev (fun x => x = y) c1 W1 c1 W2 → OBJ y c1 W2 l (.loop (lbusy (lrec fn a0.tmps #[p1, p2] assign body D0))) → W2.heap.size = W1.heap.size →
        body.wpIn (Fw (some l)) 0 P (RE y l (lrec fn a0.tmps #[p1, p2] assign body D0) G X) a1 W2) (fun _ _ _ => False)) a w) :
    YieldAt Fence.wide 0 P l #[v1, v2] w (RR y l (lrec fn a0.tmps #[p1, p2] assign body D0) G X) := by
  refine ⟨fn, _, assign, body, run_yield hl.1 rfl, roundIn_of_wpIn trivial ?_⟩
  have F1 : Fr { tmps := (#[p1, p2].zip #[v1, v2]).foldl (fun t (x : Tmp × Value) => t.setIfInBounds x.1 x.2) a0.tmps, defers := [] } N ((p2, v2) :: (p1, v1) :: L) := by
    have F0 : Fr { tmps := a0.tmps, defers := [] } N L := ⟨rfl, F.size, F.get⟩
    have F2 := (F0.put v1 h1).put v2 h2
    have e : (#[p1, p2].zip #[v1, v2]).foldl (fun t (x : Tmp × Value) => t.setIfInBounds x.1 x.2) a0.tmps = (a0.tmps.setIfInBounds p1 v1).setIfInBounds p2 v2 := by simp
    rw [e]; exact F2
  refine wpIn_mono (h _ F1) ?_
  rintro e a1 W1 hq
  cases e with
  | normal =>
    obtain ⟨c1, hl1, hk⟩ := hq
    refine ⟨_, run_beginRound hl1.1 rfl, ?_⟩
    obtain ⟨E, hb, hz⟩ := hl1.put (.loop (lbusy (lrec fn a0.tmps #[p1, p2] assign body D0)))
    refine wpIn_mono (hk _ E hb hz) ?_
    rintro e a2 W3 hp
    cases e with
    | normal =>
      obtain ⟨c3, hl3, hG⟩ := hp
      obtain ⟨E3, hb3, hz3⟩ := hl3.put (.loop (lrec fn a0.tmps #[p1, p2] assign body D0))
      exact ⟨_, _, run_endRound none hl3.1, .inl ⟨rfl, c3, W3, hG, E3, hb3, hz3⟩⟩
    | ret =>
      obtain ⟨c3, hl3, hG⟩ := hp
      obtain ⟨E3, hb3, hz3⟩ := hl3.put (.loop (ldone (lrec fn a0.tmps #[p1, p2] assign body D0) .ret))
      exact ⟨_, _, run_endRound (some .ret) hl3.1, .inr ⟨rfl, .ret, c3, W3, hG, E3, hb3, hz3⟩⟩
    | exit id =>
      obtain ⟨c3, hl3, hG⟩ := hp
      obtain ⟨E3, hb3, hz3⟩ := hl3.put (.loop (ldone (lrec fn a0.tmps #[p1, p2] assign body D0) (.exit id)))
      exact ⟨_, _, run_endRound (some (.exit id)) hl3.1, .inr ⟨rfl, .exit id, c3, W3, hG, E3, hb3, hz3⟩⟩
    | goto t => exact hp.elim
    | panic ch => exact hp.elim
    | outgrown => exact hp.elim
  | ret => exact hq.elim
  | exit id => exact hq.elim
  | goto t => exact hq.elim
  | panic ch => exact hq.elim
  | outgrown => exact hq.elim
/-- THE STATEMENT. -/
theorem range_wp {g : Operand} {ps : Array Tmp} {assign body : Code} {Q : Exit → Act → World → Prop} (F : Fr a N L D) {gf : FuncId} {lb : Array Value} (hg : ev L g = some (.func (.func gf) #[] lb))
    (eg : ∀ args w, (callFunc gf args).run P w = .ok (.enter gf args) w) (c : Nat → Nat) (y z : Nat)
    (hcall : ∀ fn bd l c1 w1, Ev No c w c1 w1 → OBJ z c1 w1 bd (.deferred (some [])) → OBJ y c1 w1 l (.loop (lrec fn a.tmps ps assign body bd)) → (∀ m, CB m c w → y < m → z < m → CB m c1 w1) → bd ≠ l →
      Calls P gf (#[.func (.yield l) #[] #[]] ++ lb) w1 fun e W => (∃ v, e = .returned v) ∧ ∃ c2 j,
        (OBJ y c2 W l (.loop (lleft (lrec fn a.tmps ps assign body bd) j)) ∧
          ∀ W', Ev (fun x => x = y) c2 W c2 W' → W'.heap.size = W.heap.size → (∀ k, k ≠ l → W'.heap[k]? = W.heap[k]?) → ∀ a', Fr a' N L ({ target := .collected bd, args := #[] } :: D) → match j with
            | none => Q .normal a' W'
            | some j => j.wp P Q a' W')) :
    (Code.rangeFunc g ps assign body).wp P Q a w := by
  refine (wpIn_wide (n := 1)).1 (wpIn_rangeFunc fun fn hfn => ?_)
  obtain ⟨e1, o1, b1⟩ := OBJ.new (M := No) c w (.deferred (some [])) z
  obtain ⟨e2, o2, b2⟩ := OBJ.new (M := No) (cset c w.heap.size z) (w.alloc (.deferred (some []))) (.loop (lrec fn a.tmps ps assign body w.heap.size)) y
  have hz : (w.alloc (.deferred (some []))).heap.size = w.heap.size + 1 := World.size_alloc ..
  rw [hz] at o2 e2 b2
  have hc := hcall fn w.heap.size (w.heap.size + 1) _ _ (e1.trans e2 (fun _ q => q)) (o1.ev e2 (fun q => q)) o2 (fun m hm hy hz => b2 m (b1 m hm hz) hy) (by omega)
  have hR : (Instr.enterLoop fn a.tmps ps assign body Fence.wide.round).run P w = .ok (w.heap.size + 1, [{ target := .collected w.heap.size, args := #[] }]) ((w.alloc (.deferred (some []))).alloc (.loop (lrec fn a.tmps ps assign body w.heap.size))) :=
    run_enterLoop_outer fn a.tmps ps assign body
  generalize hW : (w.alloc (.deferred (some []))).alloc (.loop (lrec fn a.tmps ps assign body w.heap.size)) = W2 at hR hc o2
  have hS : (resolve a.eval (rangeCall g (w.heap.size + 1)) 0).run P W2 = .ok { target := .fn (.func gf) lb, args := #[.func (.yield (w.heap.size + 1)) #[] #[]] } W2 := by
    have := F.ev hg
    unfold rangeCall
    simp only [resolve, this]; simp [Deferred.ofValue, Act.eval]
  have hI : (invoke (.fn (.func gf) lb) #[.func (.yield (w.heap.size + 1)) #[] #[]]).run P W2 = .ok (.enter gf (#[.func (.yield (w.heap.size + 1)) #[] #[]] ++ lb)) W2 := by
    unfold invoke
    exact eg _ _
  refine ⟨w.heap.size + 1, [{ target := .collected w.heap.size, args := #[] }], W2, { target := .fn (.func gf) lb, args := #[.func (.yield (w.heap.size + 1)) #[] #[]] }, W2, gf, #[.func (.yield (w.heap.size + 1)) #[] #[]] ++ lb, W2,
    hR, hS, ?_, hI, ?_, ?_⟩
  · intro f _; trivial
  · intro _; exact Nat.le_refl 1
  have hc' := callsIn_wide (n := 0) |>.2 hc
  refine hc'.mono ?_
  rintro e W ⟨⟨v, rfl⟩, c2, j, hl, hk⟩
  obtain ⟨E, hb2, hz2⟩ := hl.put (.loop { lleft (lrec fn a.tmps ps assign body w.heap.size) j with state := .exhausted })
  have hk2 := hk _ E hz2 (fun k hk => World.putObj_heap_other hk) { a with defers := { target := .collected w.heap.size, args := #[] } :: a.defers } ⟨by rw [F.dfr], F.size, F.get⟩
  refine ⟨j, _, (run_endLoop hl.1 (lleft_busy rfl j)).trans (by rw [lleft_pend rfl j]), ?_⟩
  cases j with
  | none => exact hk2
  | some j => exact wpIn_wide.2 hk2
end
/-! functions with marks at their ends -/
theorem enterM {P : Program} {w : World} {f : FuncId} {N : Nat} {fn : Func} {c : Code} {l : List Value} {R : Ending → World → Prop} (hf : P.funcs[f]? = some fn) (hb : fn.body = some c) (hn : fn.ntmps = N) (hl : l.length ≤ N)
    (h : ∀ a, Fr a N (enum 0 l) → c.wp P (bodyPostM Fence.wide 0 P fn R) a w) : Calls P f l.toArray w R := by
  refine callsIn_wide.1 (callsIn_of_wp_marks hf hb trivial (wpIn_wide.2 (h _ ?_)) rfl)
  rw [show l.toArray.size = l.length by simp, hn]
  exact Fr.enter l (N - l.length) (by omega)
section
variable {P : Program} {a : Act} {N : Nat} {L : List (Nat × Value)} {D : List Deferred} {w : World} {c : Nat → Nat} {y bd : Nat} {fn : Func} {R : Ending → World → Prop}
/-- what is left of a function's end: its marks, then its results -/
def EndM (P : Program) (fn : Func) (R : Ending → World → Prop) (a : Act) (w : World) : Prop := LeavesInM Fence.wide 0 P fn a.tmps R a.defers .returning w
theorem outM (h : EndM P fn R a w) : bodyPostM Fence.wide 0 P fn R .ret a w := h
theorem outMn (h : EndM P fn R a w) : bodyPostM Fence.wide 0 P fn R .normal a w := h
theorem endM (F : Fr a N L ({ target := .collected bd, args := #[] } :: D)) (hb : OBJ y c w bd (.deferred (some [])))
    (h : ∀ w', Ev (fun x => x = y) c w c w' → w'.heap.size = w.heap.size → ∀ a', Fr a' N L D → EndM P fn R a' w') : EndM P fn R a w := by
  unfold EndM
  rw [F.dfr]
  obtain ⟨E, _, hz⟩ := hb.put (.deferred none)
  refine ⟨by simp, .inl ⟨bd, _, rfl, run_takeDeferred hb.1, ?_⟩⟩
  exact h _ E hz { tmps := a.tmps, defers := D } ⟨rfl, F.size, F.get⟩
theorem endM0 (F : Fr a N L) (h : bodyPost P fn R .ret a w) : EndM P fn R a w := by
  unfold EndM
  rw [F.dfr]
  exact h.2
end
/-! a call of a round -/
def yv (l : Nat) : Value := .func (.yield l) #[] #[]
theorem r_yield {P : Program} {a : Act} {N : Nat} {L : List (Nat × Value)} {D : List Deferred} {w : World} {d : Option Tmp} {ty : TypeId} {pos : String} {af : Array Edge} {gd : Option (Nat × Bool)} {x : Operand} {l : Nat} {oz : Array Operand} {ats : Array TypeId} {vs : List Value} (F : Fr a N L D) (hx : ev L x = some (yv l)) (hv : oz.toList.map (ev L) = vs.map some) :
    (execOp a.eval { dst := d, op := .call { callee := .value x, args := oz, argTypes := ats }, type := ty, pos := pos, after := af, guard := gd }).run P w = (Instr.yield l vs.toArray).run P w := by
  have e : oz.map a.eval = vs.toArray := by
    apply Array.toList_inj.1
    simp only [Array.toList_map]
    generalize oz.toList = l at hv ⊢
    induction l generalizing vs with
    | nil => cases vs with
      | nil => rfl
      | cons _ _ => simp at hv
    | cons t ts ih => cases vs with
      | nil => simp at hv
      | cons v vs =>
        simp only [List.map_cons, List.cons.injEq] at hv
        simp only [List.map_cons]
        rw [F.ev hv.1, ih hv.2]
  have ef : a.eval x = .func (.yield l) #[] #[] := F.ev hx
  simp [execOp, resolve, Deferred.ofValue, ef, e, invoke]
theorem callFunc_go {P : Program} {f : FuncId} {fn : Func} (hf : P.funcs[f]? = some fn) (hb : fn.body.isNone = false) (hn : (fn.name == "runtime.NumGoroutine") = false) (args : Array Value) (w : World) : (callFunc f args).run P w = .ok (.enter f args) w := by
  have hn' : ¬ fn.name = "runtime.NumGoroutine" := by simpa using hn
  have hb' : ¬ fn.body = none := by intro q; rw [q] at hb; cases hb
  simp [callFunc, hf, hb', hn']
/-- What a call of a round, or of an iterator's function that says whether to go on, leaves. -/
def IP {S X : Type} (J : S → (Nat → Nat) → World → Prop) (JX : X → (Nat → Nat) → World → Prop) (r : Ctl S X) (e : Ending) (W : World) : Prop :=
  r.el (fun s => e = .returned (.bool true) ∧ ∃ c, J s c W) (fun x => e = .returned (.bool false) ∧ ∃ c, JX x c W)
/-- What a call of an iterator leaves. -/
def IT {S X : Type} (J : S → (Nat → Nat) → World → Prop) (JX : X → (Nat → Nat) → World → Prop) (r : Ctl S X) (e : Ending) (W : World) : Prop :=
  (∃ v, e = .returned v) ∧ r.el (fun s => ∃ c, J s c W) (fun x => ∃ c, JX x c W)
/-- what holds, or held ahead of steps that turned nothing -/
def JS (m : Nat) (J : (Nat → Nat) → World → Prop) (c : Nat → Nat) (w : World) : Prop := CB m c w ∧ ∃ c1 w1, J c1 w1 ∧ Ev No c1 w1 c w
theorem JS.mk {m : Nat} {J : (Nat → Nat) → World → Prop} {c : Nat → Nat} {w : World} (B : CB m c w) (h : J c w) : JS m J c w := ⟨B, c, w, h, Ev.refl⟩
theorem JS.step {m : Nat} {J : (Nat → Nat) → World → Prop} {c c' : Nat → Nat} {w w' : World} (h : JS m J c w) (E : Ev No c w c' w') (B : CB m c' w') : JS m J c' w' := by
  obtain ⟨_, c1, w1, hj, E1⟩ := h
  exact ⟨B, c1, w1, hj, E1.trans E (fun _ q => q)⟩
theorem JS.ev {m : Nat} {J : (Nat → Nat) → World → Prop} {M : Nat → Prop} {c c0 : Nat → Nat} {w w0 : World} (h : JS m J c w) (hE : ∀ c w, J c w → Ev M c0 w0 c w) : Ev M c0 w0 c w := by
  obtain ⟨_, c1, w1, hj, E1⟩ := h
  exact (hE _ _ hj).trans E1 (fun _ q => q.elim)
theorem thenN {K : Act → World → Prop} {Q : Exit → Act → World → Prop} {a : Act} {w : World} (h : K a w) : Exit.then K Q .normal a w := h
theorem inbN {id : Nat} {Q : Exit → Act → World → Prop} {a : Act} {w : World} (h : Q .normal a w) : Exit.inBlock id Q .normal a w := h
theorem REn {y l : Nat} {rec_ : Loop} {G : (Nat → Nat) → World → Prop} {X : Code → (Nat → Nat) → World → Prop} {a : Act} {w : World} (c : Nat → Nat) (hl : OBJ y c w l (.loop (lbusy rec_))) (h : G c w) : RE y l rec_ G X .normal a w := ⟨c, hl, h⟩
theorem REr {y l : Nat} {rec_ : Loop} {G : (Nat → Nat) → World → Prop} {X : Code → (Nat → Nat) → World → Prop} {a : Act} {w : World} (c : Nat → Nat) (hl : OBJ y c w l (.loop (lbusy rec_))) (h : X .ret c w) : RE y l rec_ G X .ret a w := ⟨c, hl, h⟩
end Go.Proofs.Ytdlokohmdnkdoaa.G
/-! make; append of so many zero values; copy; cap. -/
namespace Go.Proofs.Ytdlokohmdnkdoaa.G
open Go Go.RowKit
set_option linter.unusedVariables false
set_option linter.unusedSimpArgs false
theorem made_blk {z : Array Value} {sz n m : Nat} (hz : z.size = sz) (hp : 0 < sz) (hn : n < m) : ((madeCells z (m * sz)).toList.drop (n * sz)).take sz = z.toList := by
  have h1 : (n + 1) * sz ≤ m * sz := Nat.mul_le_mul_right _ (by omega)
  rw [Nat.add_mul, Nat.one_mul] at h1
  apply List.ext_getElem
  · simp [size_madeCells, hz]; omega
  · intro q h2 h3
    have hq : q < sz := by simpa [hz] using h3
    simp [madeCells, hz, Nat.mul_add_mod', Nat.mod_eq_of_lt hq, hq]
theorem zero_made (z : Array Value) (n : Nat) : Builtin.zeroCells z n = madeCells z (n * z.size) := rfl
section
variable {P : Program} {a : Act} {N : Nat} {L : List (Nat × Value)} {D : List Deferred} {w w' : World} {v u : Value} {x y lo hi : Operand} {d : Option Tmp} {t tn e ty : TypeId} {pos : String} {af : Array Edge} {gd : Option (Nat × Bool)} {c : Nat → Nat} {own own2 : Bool} {A B : Option Addr} {cap cap2 : Nat} {bytes : Nat} {z : Value} {α : Type} {k : K α} {xs ys : List α} {x0 : α} {j2 i : Nat}
theorem e_make (F : Fr a N L D) (T : ET P t e k.sz bytes z) {l m : Int} {kl kc : IntKind} (hl : ev L lo = some (.int kl l)) (hc : ev L hi = some (.int kc m)) (hr : ∀ i c w, k.rep i c w z.cells.toList x0) (hb0 : 0 < bytes) (g : 0 ≤ l ∧ l ≤ m ∧ m * bytes ≤ 140737488355328) (c : Nat → Nat) (j i : Nat) :
    ∃ v' w', (execOp a.eval { dst := d, op := .makeSlice t lo hi, type := ty, pos := pos, after := af, guard := gd }).run P w = .ok (.value v') w' ∧ NewS k (List.replicate l.toNat x0) c w j i v' w' := by
  obtain ⟨g0, g1, g2⟩ := g
  obtain ⟨inf, hi', hz, hs, hby⟩ := T.hi
  have hm : m * 1 ≤ m * (bytes : Int) := Int.mul_le_mul_of_nonneg_left (by omega) (by omega)
  have hr' := run_make (P := P) w t e inf z T.ht hi' hz kl kc l m g0 g1 (by rw [hby, Int.mul_comm]; omega) (by omega)
  obtain ⟨h1, h2, h3⟩ := alloc_new (M := No) c w (madeCells z.cells (m.toNat * inf.size)) e (0, 0) j true (fun _ k _ => by simp)
  refine ⟨_, _, ?_, _, some ⟨w.heap.size, 0, none⟩, m.toNat, rfl, h1, ⟨_, ?_, ?_, ?_, .inr ⟨_, rfl, h2⟩, fun n hn => ?_⟩, h3⟩
  · simp [execOp, F.ev hl, F.ev hc, hr']
  · simp; omega
  · unfold maxLen; omega
  · simp [size_madeCells, hs]
  · rw [hs, made_blk T.hz k.pos (by simp at hn; omega)]
    simp only [List.getElem_replicate]
    exact hr _ _ _
theorem r_capsl (F : Fr a N L D) {n : Nat} (hu : P.underlying t = some (.slice e)) (hx : ev L x = some (.slice A n cap)) :
    (execOp a.eval { dst := d, op := .call { callee := .builtin .cap, args := #[x], argTypes := #[t] }, type := ty, pos := pos, after := af, guard := gd }).run P w = .ok (.value (.int .i64 cap)) w := by
  simp [execOp, resolve, invoke, builtin, F.ev hx, Builtin.cap_, run_underlying hu, goInt]
theorem e_growz (F : Fr a N L D) (T : ET P t e k.sz bytes z) {kn kq : IntKind} {n : Nat} (htn : P.underlying tn = some (.int kn)) (hx : ev L x = some (.slice none 0 0)) (hy : ev L y = some (.int kq n)) (hr : ∀ i c w, k.rep i c w z.cells.toList x0) (h0 : 0 < n) (hb : n * bytes ≤ 140737488355328) (hm : n ≤ maxLen) (c : Nat → Nat) (j i : Nat) :
    ∃ v' w', (execOp a.eval { dst := d, op := .call { callee := .builtin .append, args := #[x, y], argTypes := #[t, tn] }, type := ty, pos := pos, after := af, guard := gd }).run P w = .ok (.value v') w' ∧ NewS k (List.replicate n x0) c w j i v' w' := by
  obtain ⟨inf, hi', hz, hs, hby⟩ := T.hi
  subst hby
  have hg : 0 < 0 + n := by omega
  have hr' := Lib.run_append_grow_zeros (P := P) w t tn ty e inf z kq kn T.ht htn hi' hz none 0 0 [] (by rw [run_firstCells_none]) n h0 (by rw [hs]; exact k.pos) hg (by unfold maxLen at hm; omega) (by omega) (growslice_fits hg (by simpa using hb))
  simp only [Nat.zero_add] at hr'
  have g1 := grownCap_ge w n 0 e
  have g2 := grownCap_le_maxLen w n 0 e hm
  obtain ⟨h1, h2, h3⟩ := alloc_new (M := No) c w.drew (#[].toList.toArray ++ Builtin.zeroCells z.cells n ++ Builtin.zeroCells z.cells (grownCap w n 0 e - n)) e (0, 0) j true (fun _ k _ => by simp)
  have hzz : ∀ q, (Builtin.zeroCells z.cells q).size = q * k.sz := by intro q; rw [← T.hz]; simp [Builtin.zeroCells]
  refine ⟨.slice (some ⟨w.heap.size, 0, none⟩) n (grownCap w n 0 e), _, ?_, _, some ⟨w.heap.size, 0, none⟩, grownCap w n 0 e, by simp, ⟨h1.os, h1.tape, h1.out, h1.size, h1.col, h1.blk⟩, ⟨_, by simpa using g1, g2, ?_, .inr ⟨_, rfl, h2⟩, fun q hq => ?_⟩, fun m hB hj => h3 m (fun k hk => hB k hk) hj⟩
  · simp [execOp, resolve, invoke, builtin, F.ev hx, F.ev hy, hr']
  · simp [hzz]; rw [← Nat.add_mul]; congr 1; omega
  · simp only [List.length_replicate] at hq
    have hle : (q + 1) * k.sz ≤ n * k.sz := Nat.mul_le_mul_right _ (by omega)
    rw [Nat.add_mul, Nat.one_mul] at hle
    have : ((((#[].toList.toArray ++ Builtin.zeroCells z.cells n ++ Builtin.zeroCells z.cells (grownCap w n 0 e - n)).toList).drop (q * k.sz)).take k.sz) = (((Builtin.zeroCells z.cells n).toList.drop (q * k.sz)).take k.sz) := by
      simp only [Array.toList_append, List.nil_append]
      rw [List.drop_append_of_le_length (by simp [hzz]; omega), List.take_append_of_le_length (by simp [hzz]; omega)]
    rw [this, zero_made, T.hz, made_blk T.hz k.pos hq]
    simp only [List.getElem_replicate]
    exact hr _ _ _
/-- copy onto a row as long -/
theorem e_copy (F : Fr a N L D) {j : Nat} (T : ET P t e k.sz bytes z) (hx : ev L x = some (.slice A xs.length cap)) (hy : ev L y = some (.slice B ys.length cap2)) (h1 : SL true k j i c w A cap xs) (h2 : SL own2 k j2 i c w B cap2 ys) (hij : i ≠ j) :
    ∃ v w', (execOp a.eval { dst := d, op := .call { callee := .builtin .copy, args := #[x, y], argTypes := #[t, t] }, type := ty, pos := pos, after := af, guard := gd }).run P w = .ok (.value v) w' ∧ v = .int .i64 (min ys.length xs.length : Nat) ∧ Ev (fun x => x = j) c w c w' ∧ SL true k j i c w' A cap (ys.take xs.length ++ xs.drop ys.length) ∧ w'.heap.size = w.heap.size := by
  obtain ⟨cs, a1, a2, a3, a4, a5⟩ := h1
  obtain ⟨ds, b1, b2, b3, b4, b5⟩ := h2
  obtain ⟨inf, hi, hz, hs, hby⟩ := T.hi
  have hp := k.pos
  have yl : ys.length * k.sz ≤ ds.length := by rw [b3]; exact Nat.mul_le_mul_right _ b1
  have hmin : min ys.length xs.length ≤ ys.length := Nat.min_le_left ..
  have f2 := run_first (P := P) (len := ys.length) (n := min ys.length xs.length) b4 b3 (by omega) w rfl
  have hml : min ys.length xs.length * k.sz ≤ ys.length * k.sz := Nat.mul_le_mul_right _ hmin
  have hmx : min ys.length xs.length * k.sz ≤ cap * k.sz := Nat.mul_le_mul_right _ (by omega)
  have hlen : (ys.take xs.length ++ xs.drop ys.length).length = xs.length := by simp; omega
  have hone : ∀ u ∈ ds.take (min ys.length xs.length * k.sz), u.oneCell' = true := by
    intro u hu
    obtain ⟨q, hq, rfl⟩ := List.getElem_of_mem hu
    simp at hq
    have hlt : q / k.sz < ys.length := Nat.div_lt_of_lt_mul (by rw [Nat.mul_comm]; omega)
    have hone := k.one (b5 (q / k.sz) hlt)
    apply hone
    rw [List.getElem_take]
    have e1 : ((ds.drop (q / k.sz * k.sz)).take k.sz)[q % k.sz]? = some ds[q] := by
      rw [List.getElem?_take_of_lt (Nat.mod_lt _ hp), List.getElem?_drop, Nat.div_add_mod' q k.sz, List.getElem?_eq_getElem]
    exact List.mem_of_getElem? e1
  rcases a4 with a4 | ⟨p, rfl, a4⟩
  · have hc0 : cap = 0 := by
      subst a4
      have h : cap * k.sz = 0 := a3.symm
      rcases Nat.mul_eq_zero.1 h with h | h
      · exact h
      · omega
    have x0 : xs = [] := List.eq_nil_of_length_eq_zero (by omega)
    subst x0
    refine ⟨_, w, ?_, rfl, Ev.refl, ⟨cs, by simp, a2, a3, .inl a4, fun n hn => by simp at hn⟩, rfl⟩
    simp at f2
    cases A <;> simp [execOp, resolve, invoke, builtin, F.ev hx, F.ev hy, Builtin.copy_, run_underlying T.ht, sizeOf, typeInfo, hi, hs, Builtin.lenOf, f2, storeCells, goInt]
  · obtain ⟨w1, hr, E, hat, hsz⟩ := run_lay (P := P) (n := 0) (us := ds.take (min ys.length xs.length * k.sz)) a4 (by simp; omega) hone
    rw [show p.add 0 = p by simp [Addr.add]] at hr
    have hdl : (ds.take (min ys.length xs.length * k.sz)).length = min ys.length xs.length * k.sz := by simp; omega
    refine ⟨_, w1, ?_, rfl, E, ⟨lay cs 0 (ds.take (min ys.length xs.length * k.sz)), by rw [hlen]; exact a1, a2, ?_, .inr ⟨p, rfl, hat⟩, fun n hn => ?_⟩, hsz⟩
    · simp [execOp, resolve, invoke, builtin, F.ev hx, F.ev hy, Builtin.copy_, run_underlying T.ht, sizeOf, typeInfo, hi, hs, Builtin.lenOf, f2, hr, goInt]
    · rw [lay_length (by simp; omega)]; exact a3
    · rw [hlen] at hn
      unfold lay
      rw [List.take_zero, List.nil_append, Nat.zero_add, hdl]
      by_cases q : n < ys.length
      · have hn2 : n < min ys.length xs.length := by omega
        have e0 : ((ds.take (min ys.length xs.length * k.sz) ++ cs.drop (min ys.length xs.length * k.sz)).drop (n * k.sz)).take k.sz = (ds.drop (n * k.sz)).take k.sz := blk_old hn2 (by omega)
        rw [e0]
        · rw [List.getElem_append_left (by simp; omega)]
          simp only [List.getElem_take]
          exact k.ev (b5 n q) E hij
      · have hys : min ys.length xs.length = ys.length := by omega
        rw [hys] at hdl ⊢
        obtain ⟨q', rfl⟩ : ∃ q', n = ys.length + q' := ⟨n - ys.length, by omega⟩
        have e1 : ((ds.take (ys.length * k.sz) ++ cs.drop (ys.length * k.sz)).drop ((ys.length + q') * k.sz)).take k.sz = (cs.drop ((ys.length + q') * k.sz)).take k.sz := by
          have e2 : (ds.take (ys.length * k.sz) ++ cs.drop (ys.length * k.sz)).drop (ys.length * k.sz) = cs.drop (ys.length * k.sz) := by
            conv => lhs; lhs; rw [← hdl]
            rw [List.drop_left]
          rw [Nat.add_mul, ← List.drop_drop, e2, List.drop_drop]
        rw [e1, List.getElem_append_right (by simp; omega)]
        simp only [List.getElem_drop, List.length_take]
        have := k.ev (a5 (ys.length + q') hn) E hij
        have ei : ys.length + (ys.length + q' - min xs.length ys.length) = ys.length + q' := by omega
        simp only [ei]
        exact this
end
theorem lay_get {cs us : List Value} {p : Nat} (h : p + us.length ≤ cs.length) (q : Nat) : (lay cs p us)[q]? = if q < p then cs[q]? else if q < p + us.length then us[q - p]? else cs[q]? := by
  have e1 : min p cs.length = p := by omega
  unfold lay
  by_cases h1 : q < p
  · rw [if_pos h1, List.append_assoc, List.getElem?_append_left (by simp; omega), List.getElem?_take_of_lt h1]
  · rw [if_neg h1]
    by_cases h2 : q < p + us.length
    · rw [if_pos h2, List.append_assoc, List.getElem?_append_right (by simp; omega), List.getElem?_append_left (by simp; omega)]
      simp [e1]
    · rw [if_neg h2, List.getElem?_append_right (by simp; omega), List.getElem?_drop]
      simp [e1]
      congr 1; omega
theorem sub_get {cs : List Value} {a sz q : Nat} (hq : q < sz) : ((cs.drop a).take sz)[q]? = cs[a + q]? := by
  rw [List.getElem?_take_of_lt hq, List.getElem?_drop]
theorem lay_other {cs us : List Value} {n m sz off : Nat} (h : n * sz + off + us.length ≤ cs.length) (ho : off + us.length ≤ sz) (hm : m ≠ n) : ((lay cs (n * sz + off) us).drop (m * sz)).take sz = (cs.drop (m * sz)).take sz := by
  apply List.ext_getElem?
  intro q
  by_cases hq : q < sz
  · rw [sub_get hq, sub_get hq, lay_get h]
    rcases Nat.lt_or_gt_of_ne hm with hlt | hlt
    · have h1 : (m + 1) * sz ≤ n * sz := Nat.mul_le_mul_right _ hlt
      rw [Nat.add_mul, Nat.one_mul] at h1
      rw [if_pos (by omega)]
    · have h1 : (n + 1) * sz ≤ m * sz := Nat.mul_le_mul_right _ hlt
      rw [Nat.add_mul, Nat.one_mul] at h1
      rw [if_neg (by omega), if_neg (by omega)]
  · rw [List.getElem?_take, List.getElem?_take, if_neg hq, if_neg hq]
theorem lay_same {cs us : List Value} {n sz off : Nat} (h : (n + 1) * sz ≤ cs.length) (ho : off + us.length ≤ sz) : ((lay cs (n * sz + off) us).drop (n * sz)).take sz = lay ((cs.drop (n * sz)).take sz) off us := by
  rw [Nat.add_mul, Nat.one_mul] at h
  apply List.ext_getElem?
  intro q
  have hl : ((cs.drop (n * sz)).take sz).length = sz := by simp; omega
  rw [lay_get (by rw [hl]; exact ho)]
  by_cases hq : q < sz
  · rw [sub_get hq, lay_get (by omega), sub_get hq]
    by_cases h1 : q < off
    · rw [if_pos (by omega), if_pos h1]
    · rw [if_neg (by omega), if_neg h1]
      by_cases h2 : q < off + us.length
      · rw [if_pos (by omega), if_pos h2]; congr 1; omega
      · rw [if_neg (by omega), if_neg h2]
  · rw [List.getElem?_take, if_neg hq, if_neg (by omega), if_neg (by omega), List.getElem?_take, if_neg hq]
section
variable {P : Program} {a : Act} {N : Nat} {L : List (Nat × Value)} {D : List Deferred} {w w' : World} {v u : Value} {x y : Operand} {d : Option Tmp} {t ty : TypeId} {pos : String} {af : Array Edge} {gd : Option (Nat × Bool)} {c : Nat → Nat} {A : Option Addr} {cap : Nat} {α : Type} {k : K α} {xs : List α} {j i : Nat}
theorem SL.lay (h : SL true k j i c w A cap xs) {n : Nat} (h1 : n < xs.length) {a0 : Addr} (hA : A = some a0) {off : Nat} {us cs : List Value} (hat : AT true j c w (a0.add (n * k.sz)) cs) (hcl : cs.length = k.sz) (ho : off + us.length ≤ cs.length) (hu : ∀ u ∈ us, u.oneCell' = true) (x' : α) (hr : k.rep i c w (G.lay cs off us) x') (hij : i ≠ j) :
    ∃ w', (storeCells ((a0.add (n * k.sz)).add off) us).run P w = .ok () w' ∧ Ev (fun x => x = j) c w c w' ∧ SL true k j i c w' A cap (xs.set n x') ∧ w'.heap.size = w.heap.size := by
  subst hA
  obtain ⟨cs0, a1, a2, a3, a4, a5⟩ := h
  have hp := k.pos
  have hle : (n + 1) * k.sz ≤ cap * k.sz := Nat.mul_le_mul_right _ (by omega)
  have hle' := hle
  rw [Nat.add_mul, Nat.one_mul] at hle'
  rcases a4 with a4 | ⟨a', e, a4⟩
  · subst a4; simp at a3; omega
  · obtain rfl := Option.some.inj e
    have haa : ∀ q, (a0.add (n * k.sz)).add q = a0.add (n * k.sz + q) := by
      intro q
      obtain ⟨b, of, cur, ty, fz, rfl, _⟩ := a4
      rw [add_eq, add_eq, add_eq, Nat.add_assoc]
    have hcs : cs = (cs0.drop (n * k.sz)).take k.sz := by
      apply List.ext_getElem?
      intro q
      by_cases hq : q < k.sz
      · rw [sub_get hq]
        have e1 := hat.cell (List.getElem?_eq_getElem (by omega : q < cs.length))
        have e2 := a4.cell (List.getElem?_eq_getElem (by omega : n * k.sz + q < cs0.length))
        rw [haa] at e1
        rw [e1] at e2
        rw [List.getElem?_eq_getElem (by omega : q < cs.length), List.getElem?_eq_getElem (by omega : n * k.sz + q < cs0.length)]
        exact e2
      · rw [List.getElem?_eq_none (by omega), List.getElem?_take, if_neg hq]
    obtain ⟨w', hrun, E, hat', hz⟩ := run_lay (P := P) (n := n * k.sz + off) (us := us) a4 (by omega) hu
    rw [haa]
    refine ⟨w', hrun, E, ⟨G.lay cs0 (n * k.sz + off) us, by simpa using a1, a2, by rw [lay_length (by omega)]; exact a3, .inr ⟨_, rfl, hat'⟩, fun m hm => ?_⟩, hz⟩
    rw [List.length_set] at hm
    by_cases hmn : m = n
    · subst hmn
      rw [lay_same (by omega) (by omega), ← hcs]
      simp only [List.getElem_set_self]
      exact k.ev hr E hij
    · rw [lay_other (by omega) (by omega) hmn, List.getElem_set_ne (fun e => hmn e.symm)]
      exact k.ev (a5 m hm) E hij
theorem e_storeel (F : Fr a N L D) {n : Int} {a0 q : Addr} {off : Nat} {cs : List Value} (hx : ev L x = some (.pointer (some (q.add off)))) (hy : ev L y = some u) (hs : ∀ w, (sizeOf t).run P w = .ok 1 w) (h : SL true k j i c w A cap xs) (h0 : 0 ≤ n) (h1 : n < xs.length) (hA : A = some a0) (hq : q = a0.add (n.toNat * k.sz)) (hat : AT true j c w q cs) (hcl : cs.length = k.sz) (ho : off + 1 ≤ cs.length) (hu : u.oneCell' = true) (x' : α) (hr : k.rep i c w (lay cs off [u]) x') (hij : i ≠ j) :
    ∃ w', (execOp a.eval { dst := d, op := .store t x y, type := ty, pos := pos, after := af, guard := gd }).run P w = .ok .skip w' ∧ (Ev (fun k => k = j) c w c w' ∧ SL true k j i c w' A cap (xs.set n.toNat x') ∧ w'.heap.size = w.heap.size) := by
  subst hq
  obtain ⟨w', hrun, h2⟩ := SL.lay (P := P) (us := [u]) h (by omega) hA hat hcl (by simpa using ho) (by intro z hz; simp at hz; rw [hz]; exact hu) x' hr hij
  refine ⟨w', ?_, h2⟩
  simp [execOp, F.ev hx, F.ev hy, Instr.storeAt, Instr.sureAddr, storeVar, hs, oneCell_cells hu, hrun]
theorem e_storeel0 (F : Fr a N L D) {n : Int} {a0 q : Addr} {cs : List Value} (hx : ev L x = some (.pointer (some q))) (hy : ev L y = some u) (hs : ∀ w, (sizeOf t).run P w = .ok 1 w) (h : SL true k j i c w A cap xs) (h0 : 0 ≤ n) (h1 : n < xs.length) (hA : A = some a0) (hq : q = a0.add (n.toNat * k.sz)) (hat : AT true j c w q cs) (hcl : cs.length = k.sz) (ho : 1 ≤ cs.length) (hu : u.oneCell' = true) (x' : α) (hr : k.rep i c w (lay cs 0 [u]) x') (hij : i ≠ j) :
    ∃ w', (execOp a.eval { dst := d, op := .store t x y, type := ty, pos := pos, after := af, guard := gd }).run P w = .ok .skip w' ∧ (Ev (fun k => k = j) c w c w' ∧ SL true k j i c w' A cap (xs.set n.toNat x') ∧ w'.heap.size = w.heap.size) := by
  subst hq
  obtain ⟨w', hrun, h2⟩ := SL.lay (P := P) (us := [u]) (off := 0) h (by omega) hA hat hcl (by simpa using ho) (by intro z hz; simp at hz; rw [hz]; exact hu) x' hr hij
  refine ⟨w', ?_, h2⟩
  rw [show (a0.add (n.toNat * k.sz)).add 0 = a0.add (n.toNat * k.sz) by simp [Addr.add]] at hrun
  simp [execOp, F.ev hx, F.ev hy, Instr.storeAt, Instr.sureAddr, storeVar, hs, oneCell_cells hu, hrun]
theorem e_storeelN (F : Fr a N L D) {n : Int} {a0 q : Addr} {us cs : List Value} (hx : ev L x = some (.pointer (some q))) (hy : ev L y = some (.agg us.toArray)) (hs : ∀ w, (sizeOf t).run P w = .ok us.length w) (h : SL true k j i c w A cap xs) (h0 : 0 ≤ n) (h1 : n < xs.length) (hA : A = some a0) (hq : q = a0.add (n.toNat * k.sz)) (hat : AT true j c w q cs) (hcl : cs.length = k.sz) (ho : us.length ≤ cs.length) (hu : ∀ u ∈ us, u.oneCell' = true) (x' : α) (hr : k.rep i c w (lay cs 0 us) x') (hij : i ≠ j) :
    ∃ w', (execOp a.eval { dst := d, op := .store t x y, type := ty, pos := pos, after := af, guard := gd }).run P w = .ok .skip w' ∧ (Ev (fun k => k = j) c w c w' ∧ SL true k j i c w' A cap (xs.set n.toNat x') ∧ w'.heap.size = w.heap.size) := by
  subst hq
  obtain ⟨w', hrun, h2⟩ := SL.lay (P := P) (us := us) (off := 0) h (by omega) hA hat hcl (by omega) hu x' hr hij
  refine ⟨w', ?_, h2⟩
  rw [show (a0.add (n.toNat * k.sz)).add 0 = a0.add (n.toNat * k.sz) by simp [Addr.add]] at hrun
  simp [execOp, F.ev hx, F.ev hy, Instr.storeAt, Instr.sureAddr, storeVar, hs, Value.cells, hrun]
end
end Go.Proofs.Ytdlokohmdnkdoaa.G
/-! Maps keyed by whole numbers, of a colour of their own. -/
namespace Go.Proofs.Ytdlokohmdnkdoaa.G
open Go Go.RowKit
open Go.Maps (Keyed IsMap Tidy)
set_option linter.unusedVariables false
set_option linter.unusedSimpArgs false
def heldElem (v : Value) : Option (DataW Value × List MemPlace) := some (.held v, [])
section
variable {β : Type} {q : IntKind} {K : TypeId} {emb : β → Value} {P : Program} {j : Nat} {c : Nat → Nat} {w : World} {p : Option Addr} {o : MpV β}
def MP (q : IntKind) (K : TypeId) (emb : β → Value) (P : Program) (j : Nat) (c : Nat → Nat) (w : World) (p : Option Addr) (o : MpV β) : Prop :=
  ∃ a : Addr, p = some a ∧ c a.block = j ∧ ∃ D : DataW Value, w.ownsMap P K heldElem a.block o.n D ∧ ∀ k, (∀ z, D.atKey (.int q k) (.held z) = .held (((o.f k).map emb).getD z)) ∧ Maps.has D (.int q k) = (o.f k).isSome
theorem MP.ev {M : Nat → Prop} {c' : Nat → Nat} {w' : World} (h : MP q K emb P j c w p o) (E : Ev M c w c' w') (hj : ¬ M j) : MP q K emb P j c' w' p o := by
  obtain ⟨a, e, hc, D, hD, r⟩ := h
  have hlt := hD.lt
  refine ⟨a, e, (E.col _ hlt).trans hc, D, ?_, r⟩
  obtain ⟨es, clock, h1, h2⟩ := hD
  exact ⟨es, clock, (E.blk _ hlt (by rw [hc]; exact hj)).trans h1, h2⟩
theorem MP.rc {j' : Nat} {c' : Nat → Nat} (h : MP q K emb P j c w p o) (hr : ∀ k, c k = j → c' k = j') : MP q K emb P j' c' w p o := by
  obtain ⟨a, e, hc, r⟩ := h
  exact ⟨a, e, hr _ hc, r⟩
end
section
variable {β : Type} {q : IntKind} {K : TypeId} {emb : β → Value} {P : Program} {a : Act} {N : Nat} {L : List (Nat × Value)} {D : List Deferred} {w w' : World} {v u : Value} {x y m : Operand} {d : Option Tmp} {t e ty : TypeId} {pos : String} {af : Array Edge} {gd : Option (Nat × Bool)} {c : Nat → Nat} {j : Nat} {p : Option Addr} {o : MpV β}
theorem e_makeMap (F : Fr a N L D) (c : Nat → Nat) (j : Nat) (ht : ∀ w, (Instr.makeMap t none).run P w = .ok (.map (some w.heap.size)) (w.alloc (.map #[] 0))) :
    ∃ v w', (execOp a.eval { dst := d, op := .makeMap t none, type := ty, pos := pos, after := af, guard := gd }).run P w = .ok (.value v) w' ∧
      ∃ c' p, v = .map (Option.map Addr.block (some p)) ∧ Ev No c w c' w' ∧ MP q K emb P j c' w' (some p) ⟨fun _ => none, 0⟩ ∧ ∀ m, CB m c w → j < m → CB m c' w' := by
  have hz : (w.alloc (.map #[] 0)).heap.size = w.heap.size + 1 := World.size_alloc ..
  have hk := MapKept.heap_alloc w (.map #[] 0)
  refine ⟨.map (some w.heap.size), w.alloc (.map #[] 0), by simp [execOp, ht], cset c w.heap.size j, ⟨w.heap.size, 0, none⟩, rfl, ⟨rfl, rfl, rfl, by omega, fun k hk => by unfold cset; rw [if_neg (by omega)], fun k hlt _ => hk.2 k hlt⟩, ⟨_, rfl, by unfold cset; rw [if_pos rfl], _, World.ownsMap_made w P K heldElem, fun k => ⟨fun z => rfl, rfl⟩⟩, fun m hm hx k hk => ?_⟩
  unfold cset
  split
  · exact hx
  · exact hm k (by omega)
theorem r_lookupm (F : Fr a N L D) {k : Int} {z : β} (hk : P.underlying K = some (.int q)) (ht : P.underlying t = some (.map K e)) (hz : ∀ w, (zeroValue e).run P w = .ok (emb z) w) (hm : ev L m = some (.map (Option.map Addr.block p))) (hx : ev L x = some (.int q k))
    (h : MP q K emb P j c w p o) (hw : (Lit.int q k).wf = true) : (execOp a.eval { dst := d, op := .lookup t m x false, type := ty, pos := pos, after := af, guard := gd }).run P w = .ok (.value (emb ((o.f k).getD z))) w := by
  obtain ⟨a0, rfl, hc, D0, hD, r⟩ := h
  obtain ⟨v, ps, hrun, hv⟩ := hD.lookup (Maps.int_keyed hk) ht (hz w) (zd := .held (emb z)) (zp := []) rfl (Maps.keyOf_int_mk hk hw)
  rw [(r k).1 (emb z)] at hv
  simp only [heldElem, Option.some.injEq, Prod.mk.injEq, DataW.held.injEq] at hv
  have e1 : ((o.f k).map emb).getD (emb z) = emb ((o.f k).getD z) := by cases o.f k <;> rfl
  rw [e1] at hv
  have hm' := F.ev hm
  simp only [Option.map_some] at hm'
  simp [execOp, hm', F.ev hx, hrun, Result.andThen, hv.1]
theorem e_mapUpdate (F : Fr a N L D) {k : Int} {z : β} (hk : P.underlying K = some (.int q)) (ht : P.underlying t = some (.map K e)) (hm : ev L m = some (.map (Option.map Addr.block p))) (hx : ev L x = some (.int q k)) (hy : ev L y = some (emb z))
    (h : MP q K emb P j c w p o) (hw : (Lit.int q k).wf = true) (hn : o.n < maxLen) :
    ∃ w', (execOp a.eval { dst := d, op := .mapUpdate t m x y, type := ty, pos := pos, after := af, guard := gd }).run P w = .ok .skip w' ∧ (Ev (fun k => k = j) c w c w' ∧ MP q K emb P j c w' p ⟨fun i => if i = k then some z else o.f i, o.n + 1⟩ ∧ w'.heap.size = w.heap.size) := by
  obtain ⟨a0, rfl, hc, D0, hD, r⟩ := h
  obtain ⟨w', hrun, r1, r2⟩ := hD.store (Maps.int_keyed hk) ht hn (Maps.keyOf_int_mk hk hw) (val := emb z) (d := .held (emb z)) (ps := []) rfl
  have hisMap := hD.isMap
  have hm' := F.ev hm
  simp only [Option.map_some] at hm'
  refine ⟨w', by simp [execOp, hm', F.ev hx, F.ev hy, hrun, Result.andThen], ?_, ⟨a0, rfl, hc, _, r1, fun i => ?_⟩, ?_⟩
  · obtain ⟨es, clock, es', clock', hb, rfl⟩ := r2
    refine ⟨rfl, rfl, rfl, by simp [ChangeMaps.setBlock], fun _ _ => rfl, fun k hk hm => ?_⟩
    have hne : a0.block ≠ k := fun e => hm (by rw [← e]; exact hc)
    simp only [ChangeMaps.setBlock]
    rw [Array.getElem?_setIfInBounds_ne hne]
  · by_cases ci : i = k
    · subst ci
      have hk' : WideAt.IsKeyLit (.int q i) := trivial
      simp only [if_true]
      exact ⟨fun z0 => by rw [Maps.atKey_put_same hisMap hk']; rfl, by rw [Maps.has_put_same hisMap hk']; rfl⟩
    · simp only [if_neg ci]
      have hne : (Lit.int q i) ≠ .int q k := fun e => ci (by injection e)
      exact ⟨fun z0 => by rw [Maps.atKey_put_other hne]; exact (r i).1 z0, by rw [Maps.has_put_other hne]; exact (r i).2⟩
  · obtain ⟨es, clock, es', clock', hb, rfl⟩ := r2
    simp [ChangeMaps.setBlock]
end
end Go.Proofs.Ytdlokohmdnkdoaa.G
/-! Arrays: a place in an array; a cell at a reckoned place. -/
namespace Go.Proofs.Ytdlokohmdnkdoaa.G
open Go Go.RowKit
set_option linter.unusedVariables false
set_option linter.unusedSimpArgs false
section
variable {P : Program} {a : Act} {N : Nat} {L : List (Nat × Value)} {D : List Deferred} {w w' : World} {v u : Value} {x y : Operand} {d : Option Tmp} {t e ty : TypeId} {pos : String} {af : Array Edge} {gd : Option (Nat × Bool)} {c : Nat → Nat} {own : Bool} {j : Nat} {p : Addr} {cs : List Value}
theorem r_indexArr (F : Fr a N L D) {n sz off : Nat} {k : IntKind} {i : Int} (hu : P.underlying t = some (.array n e)) (hs : ∀ w, (sizeOf e).run P w = .ok sz w) (hx : ev L x = some (.pointer (some p))) (hy : ev L y = some (.int k i)) (h0 : 0 ≤ i) (h1 : i < n) (ho : i.toNat * sz = off) :
    (execOp a.eval { dst := d, op := .indexAddr t x y, type := ty, pos := pos, after := af, guard := gd }).run P w = .ok (.value (.pointer (some (p.add off)))) w := by
  subst ho
  simp [execOp, F.ev hx, F.ev hy, Instr.indexAt, asIntOf, run_underlying hu, hs, h0, h1, Instr.sureAddr]
theorem eqf_cons' {dd : Nat} {xs ys : Array Value} {f : Field} {fs : List Field} {a b : Value} {r s : Bool} (hn : (f.name == "_") = false) (ha : (part f.type xs f.offset).run P w = .ok a w) (hb : (part f.type ys f.offset).run P w = .ok b w) (he : (Op.equalIn dd f.type a b).run P w = .ok r w) (hr : (Op.eqFields dd xs ys fs).run P w = .ok s w) : (Op.eqFields dd xs ys (f :: fs)).run P w = .ok (r && s) w := by
  have hn' : f.name ≠ "_" := by simpa using hn
  rw [Op.eqFields]
  simp only [if_pos hn', Sem.run_bind, ha, hb, he, Result.andThen_ok]
  cases r
  · simp
  · simpa using hr
theorem eqf_nil' {dd : Nat} {xs ys : Array Value} : (Op.eqFields dd xs ys []).run P w = .ok true w := by simp [Op.eqFields]
theorem eql_of {xs ys : Array Value} {fs : Array Field} {r b : Bool} (hu : P.underlying t = some (.struct fs)) (hp : P.stoodInHeld t = false) (h : (Op.eqFields 9999 xs ys fs.toList).run P w = .ok r w) (hb : r = b) : (Op.equalIn 10000 t (.agg xs) (.agg ys)).run P w = .ok b w := by
  subst hb
  have hf : P.fieldsOf t = fs := by simp [Program.fieldsOf, hu]
  rw [run_equalIn_struct (P := P) w 9999 t xs ys (by rw [hf]; exact hu) hp, hf]
  exact h
theorem r_ageql (F : Fr a N L D) {yt : TypeId} {xs ys : Array Value} {b : Bool} (hm : P.eqGuardType P.depth t = false) (hx : ev L x = some (.agg xs)) (hy : ev L y = some (.agg ys)) (hr : (Op.equalIn 10000 t (.agg xs) (.agg ys)).run P w = .ok b w) :
    (execOp a.eval { dst := d, op := .binOp .eql t x y yt, type := ty, pos := pos, after := af, guard := gd }).run P w = .ok (.value (.bool b)) w := by
  have h2 := run_eql_struct (P := P) w t xs ys
  rw [hr] at h2
  simp [execOp, F.ev hx, F.ev hy, run_eqGuard_agg (P := P) w _ t _ _ xs ys hm, h2, Result.andThen]
theorem r_agneq (F : Fr a N L D) {yt : TypeId} {xs ys : Array Value} {b : Bool} (hm : P.eqGuardType P.depth t = false) (hx : ev L x = some (.agg xs)) (hy : ev L y = some (.agg ys)) (hr : (Op.equalIn 10000 t (.agg xs) (.agg ys)).run P w = .ok b w) :
    (execOp a.eval { dst := d, op := .binOp .neq t x y yt, type := ty, pos := pos, after := af, guard := gd }).run P w = .ok (.value (.bool (!b))) w := by
  have h2 := run_neq_struct (P := P) w t xs ys
  rw [hr] at h2
  simp [execOp, F.ev hx, F.ev hy, run_eqGuard_agg (P := P) w _ t _ _ xs ys hm, h2, Result.andThen]
/-- a slice whose block is as it was laid: nothing of it is frozen -/
def FR0 (j : Nat) (c : Nat → Nat) (w : World) (A : Option Addr) : Prop := ∃ b cur ty, A = some ⟨b, 0, none⟩ ∧ w.heap[b]? = some (.cells cur ty (0, 0)) ∧ c b = j
theorem e_buildSliceF {α : Type} {k : K α} (F : Fr a N L D) {n i : Nat} {ps : List (Nat × Operand)} (vs : List (Nat × Value)) (cs : List Value) (xs : List α) (hv : evs L ps vs)
    (hb : ∀ w, (Instr.buildSlice t n vs.toArray).run P w = .ok (.slice (some ⟨w.heap.size, 0, none⟩) n n) (w.alloc (.cells cs.toArray e (0, 0)))) (hn : n = xs.length) (hm : n ≤ maxLen) (hl : cs.length = n * k.sz) (hr : Els k i c w cs xs) (hi : ¬ No i) (j : Nat) :
    ∃ v' w', (execOp a.eval { dst := d, op := .buildSlice t n ps.toArray, type := ty, pos := pos, after := af, guard := gd }).run P w = .ok (.value v') w' ∧
      ∃ c' A cap, v' = .slice A xs.length cap ∧ Ev No c w c' w' ∧ SL true k j i c' w' A cap xs ∧ (∀ m, CB m c w → j < m → CB m c' w') ∧ FR0 j c' w' A := by
  subst hn
  obtain ⟨h1, h2, h3⟩ := alloc_new (M := No) c w cs.toArray e (0, 0) j true (fun _ k _ => by simp)
  have e1 : (ps.toArray.map fun (i, x) => (i, a.eval x)) = vs.toArray := by
    rw [← evs_map F hv]; simp
  refine ⟨_, _, ?_, _, _, _, rfl, h1, ⟨cs, Nat.le_refl _, hm, hl, .inr ⟨_, rfl, by simpa using h2⟩, fun n hn => k.ev (hr.spec n hn) h1 hi⟩, h3, _, _, _, rfl, (MapKept.heap_alloc w _).1, by unfold cset; rw [if_pos rfl]⟩
  simp [execOp, e1, hb]
theorem e_convb (F : Fr a N L D) {A : Option Addr} {cap j : Nat} {xs : List Int} (ht : P.underlying t = some (.slice e)) (he : P.underlying e = some (.int .u8)) (hx : ev L x = some (.slice A xs.length cap)) (h : SL true (Kint .u8) j 0 c w A cap xs) (hf : FR0 j c w A) :
    ∃ v w', (execOp a.eval { dst := d, op := .convert t t x, type := ty, pos := pos, after := af, guard := gd }).run P w = .ok (.value v) w' ∧ (v = .slice A xs.length cap ∧ Ev (fun k => k = j) c w c w' ∧ SL true (Kint .u8) j 0 c w' A cap xs ∧ w'.heap.size = w.heap.size) := by
  obtain ⟨b, cur, ty0, rfl, hb, hc⟩ := hf
  have hlt := lt_of_get hb
  have hsh : w.shape? b = some (ty0, cur.size) := by unfold World.shape?; rw [hb]
  have hfr : w.freeze ⟨b, cur.size, none⟩ 1 = { w with heap := w.heap.setIfInBounds b (.cells cur ty0 (cur.size, cur.size + 1)) } := by
    unfold World.freeze
    rw [if_neg (by decide)]
    congr 1
    apply Array.ext_getElem?
    intro k
    rw [Array.getElem?_modify, Array.getElem?_setIfInBounds]
    by_cases q : b = k
    · subst q
      rw [if_pos rfl, if_pos rfl, hb, if_pos hlt]
      rfl
    · rw [if_neg q, if_neg q]
  refine ⟨.slice (some ⟨b, 0, none⟩) xs.length cap, w.freeze ⟨b, cur.size, none⟩ 1, by simp [execOp, F.ev hx, convert, run_underlying ht, run_underlying he, markStringish, hsh], rfl, ?_, ?_, ?_⟩
  all_goals rw [hfr]
  · refine ⟨rfl, rfl, rfl, by simp, fun _ _ => rfl, fun k hk hm => ?_⟩
    have hne : b ≠ k := fun e => hm (by rw [← e]; exact hc)
    simp only
    rw [Array.getElem?_setIfInBounds_ne hne]
  · obtain ⟨cs, h2, h3, h4, h5, h6⟩ := h
    refine ⟨cs, h2, h3, h4, ?_, h6⟩
    rcases h5 with h5 | ⟨a1, e1, b1, off, cur1, ty1, fz1, e2, hb1, hc1, g1, g2⟩
    · exact .inl h5
    · cases e1
      cases e2
      rw [hb] at hb1
      cases hb1
      refine .inr ⟨_, rfl, b, 0, cur, ty0, (cur.size, cur.size + 1), rfl, by simp [hlt], hc, g1, fun _ k hk => ?_⟩
      have := g1 k hk
      rw [List.getElem?_eq_getElem hk] at this
      have := (Array.getElem?_eq_some_iff.1 this).1
      simp only
      omega
  · simp
theorem add_add' (h : AT own j c w p cs) (m n : Nat) : (p.add m).add n = p.add (m + n) := by
  obtain ⟨b, off, cur, ty, fz, rfl, _⟩ := h
  rw [add_eq, add_eq, add_eq, Nat.add_assoc]
theorem r_indexArr2 (F : Fr a N L D) {n sz off m : Nat} {k : IntKind} {i : Int} (h : AT own j c w' p cs) (hu : P.underlying t = some (.array n e)) (hs : ∀ w, (sizeOf e).run P w = .ok sz w) (hx : ev L x = some (.pointer (some (p.add m)))) (hy : ev L y = some (.int k i)) (h0 : 0 ≤ i) (h1 : i < n) (ho : m + i.toNat * sz = off) :
    (execOp a.eval { dst := d, op := .indexAddr t x y, type := ty, pos := pos, after := af, guard := gd }).run P w = .ok (.value (.pointer (some (p.add off)))) w := by
  have := r_indexArr (d := d) (ty := ty) (pos := pos) (af := af) (gd := gd) (w := w) F hu hs hx hy h0 h1 rfl
  rw [add_add' h, ho] at this
  exact this
theorem AT.celli {k : IntKind} {xs : List Int} {n : Nat} (h : AT own j c w p (xs.map (Value.int k))) (hn : n < xs.length) : w.cell? (p.add n) = some (.int k (rd xs (n : Int))) := by
  refine h.cell ?_
  rw [List.getElem?_map, List.getElem?_eq_getElem hn]
  unfold rd
  rw [Int.toNat_natCast, List.getD_eq_getElem?_getD, List.getElem?_eq_getElem hn]
  rfl
end
end Go.Proofs.Ytdlokohmdnkdoaa.G
/-! Maps keyed by whole numbers, their elements of whatever kind: the map's block of a colour j, what the elements lead to of the colour i. -/
namespace Go.Proofs.Ytdlokohmdnkdoaa.G
open Go Go.RowKit
open Go.Maps (Keyed IsMap Tidy)
set_option linter.unusedVariables false
set_option linter.unusedSimpArgs false
section
variable {β : Type} {q : IntKind} {K : TypeId} {mk : List Value → Value} {P : Program} {j i : Nat} {c : Nat → Nat} {w : World} {p : Option Addr} {o : MkV β}
def MKat (e : Go.Proofs.Ytdlokohmdnkdoaa.G.K β) (mk : List Value → Value) (i : Nat) (c : Nat → Nat) (w : World) (D : DataW Value) (kl : Lit) : Option β → Prop
  | none => Maps.has D kl = false
  | some x => Maps.has D kl = true ∧ ∃ cs, (∀ z, D.atKey kl z = .held (mk cs)) ∧ e.rep i c w cs x
def MK (q : IntKind) (K : TypeId) (e : Go.Proofs.Ytdlokohmdnkdoaa.G.K β) (mk : List Value → Value) (P : Program) (j i : Nat) (c : Nat → Nat) (w : World) (p : Option Addr) (o : MkV β) : Prop :=
  ∃ a : Addr, p = some a ∧ c a.block = j ∧ ∃ D : DataW Value, w.ownsMap P K heldElem a.block o.n D ∧ (Maps.size D : Int) = o.len ∧ ∀ k, MKat e mk i c w D (.int q k) (o.f k)
theorem MK.ev {M : Nat → Prop} {c' : Nat → Nat} {w' : World} {e : Go.Proofs.Ytdlokohmdnkdoaa.G.K β} (h : MK q K e mk P j i c w p o) (E : Ev M c w c' w') (hj : ¬ M j) (hi : ¬ M i) : MK q K e mk P j i c' w' p o := by
  obtain ⟨a, ea, hc, D, hD, hs, r⟩ := h
  have hlt := hD.lt
  refine ⟨a, ea, (E.col _ hlt).trans hc, D, ?_, hs, fun k => ?_⟩
  · obtain ⟨es, clock, h1, h2⟩ := hD
    exact ⟨es, clock, (E.blk _ hlt (by rw [hc]; exact hj)).trans h1, h2⟩
  · have := r k
    cases hf : o.f k with
    | none => rw [hf] at this; exact this
    | some x => rw [hf] at this; obtain ⟨h1, cs, h2, h3⟩ := this; exact ⟨h1, cs, h2, e.ev h3 E hi⟩
theorem MK.rc {j' i' : Nat} {c' : Nat → Nat} {e : Go.Proofs.Ytdlokohmdnkdoaa.G.K β} (h : MK q K e mk P j i c w p o) (hr : ∀ k, c k = j → c' k = j') (hi : ∀ k, c k = i → c' k = i') : MK q K e mk P j' i' c' w p o := by
  obtain ⟨a, ea, hc, D, hD, hs, r⟩ := h
  refine ⟨a, ea, hr _ hc, D, hD, hs, fun k => ?_⟩
  have := r k
  cases hf : o.f k with
  | none => rw [hf] at this; exact this
  | some x => rw [hf] at this; obtain ⟨h1, cs, h2, h3⟩ := this; exact ⟨h1, cs, h2, e.rc h3 hi⟩
end
section
variable {β : Type} {q : IntKind} {K : TypeId} {e : Go.Proofs.Ytdlokohmdnkdoaa.G.K β} {mk : List Value → Value} {P : Program} {a : Act} {N : Nat} {L : List (Nat × Value)} {D : List Deferred} {w w' : World} {v u : Value} {x y m : Operand} {d : Option Tmp} {t et ty : TypeId} {pos : String} {af : Array Edge} {gd : Option (Nat × Bool)} {c : Nat → Nat} {j i : Nat} {p : Option Addr} {o : MkV β}
theorem e_makeMapK (F : Fr a N L D) (c : Nat → Nat) (j : Nat) (ht : ∀ w, (Instr.makeMap t none).run P w = .ok (.map (some w.heap.size)) (w.alloc (.map #[] 0))) :
    ∃ v w', (execOp a.eval { dst := d, op := .makeMap t none, type := ty, pos := pos, after := af, guard := gd }).run P w = .ok (.value v) w' ∧
      ∃ c' p, v = .map (Option.map Addr.block (some p)) ∧ Ev No c w c' w' ∧ MK q K e mk P j i c' w' (some p) ⟨fun _ => none, 0, 0⟩ ∧ ∀ m, CB m c w → j < m → CB m c' w' := by
  have hz : (w.alloc (.map #[] 0)).heap.size = w.heap.size + 1 := World.size_alloc ..
  have hk := MapKept.heap_alloc w (.map #[] 0)
  refine ⟨.map (some w.heap.size), w.alloc (.map #[] 0), by simp [execOp, ht], cset c w.heap.size j, ⟨w.heap.size, 0, none⟩, rfl, ⟨rfl, rfl, rfl, by omega, fun k hk => by unfold cset; rw [if_neg (by omega)], fun k hlt _ => hk.2 k hlt⟩, ⟨_, rfl, by unfold cset; rw [if_pos rfl], _, World.ownsMap_made w P K heldElem, rfl, fun k => rfl⟩, fun m hm hx k hk => ?_⟩
  unfold cset
  split
  · exact hx
  · exact hm k (by omega)
theorem q_effv0 {ops : Array Oper} {Kk : Act → World → Prop} {rest : List Oper} {oo : Oper} {R0 : World → Prop} {v : Value} (F : Fr a N L D) (hg : oo.guard = none) (hd : oo.dst = none) (h : ∃ w', (execOp a.eval oo).run P w = .ok (.value v) w' ∧ R0 w')
    (k : ∀ w' a', R0 w' → Fr a' N L D → wL P ops Kk rest a' w') : wL P ops Kk (oo :: rest) a w := by
  obtain ⟨w', hr, hR⟩ := h
  exact wL_plain hg (ow_value hr (by rw [hd]; exact k _ _ hR F))
theorem r_lookK {v1 v2 : Value} {b : Option Nat} (F : Fr a N L D) (hm : ev L m = some (.map b)) (hx : ev L x = some v1) (hr : (Instr.lookup t (.map b) v1 true).run P w = .ok v2 w) : (execOp a.eval { dst := d, op := .lookup t m x true, type := ty, pos := pos, after := af, guard := gd }).run P w = .ok (.value v2) w := by
  simp [execOp, F.ev hm, F.ev hx, hr, Result.andThen]
/-- what a look-up finds: 'v, ok := m[k]' -/
theorem MKlook {k : Int} {x0 : β} {zcs : List Value} (h : MK q K e mk P j i c w p o) (hk : P.underlying K = some (.int q)) (ht : P.underlying t = some (.map K et)) (hz : ∀ w, (zeroValue et).run P w = .ok (mk zcs) w) (hz0 : e.rep i c w zcs x0) (hw : (Lit.int q k).wf = true) :
    ∃ cs, e.rep i c w cs ((o.f k).getD x0) ∧ (Instr.lookup t (.map (Option.map Addr.block p)) (.int q k) true).run P w = .ok (.tuple #[mk cs, .bool (o.f k).isSome]) w := by
  obtain ⟨a0, rfl, hc, D0, hD, hs, r⟩ := h
  obtain ⟨v, ps, hrun, hv⟩ := hD.look_ok (Maps.int_keyed hk) ht (hz w) (zd := .held (mk zcs)) (zp := []) rfl (Maps.keyOf_int_mk hk hw)
  simp only [heldElem, Option.some.injEq, Prod.mk.injEq] at hv
  have hr := r k
  cases hf : o.f k with
  | none =>
    rw [hf] at hr
    have hr : Maps.has D0 (.int q k) = false := hr
    rw [Maps.atKey_of_not_has hr] at hv
    rw [hr] at hrun
    injection hv.1 with e1
    subst e1
    exact ⟨zcs, hz0, hrun⟩
  | some x1 =>
    rw [hf] at hr
    obtain ⟨h1, cs, h2, h3⟩ := hr
    rw [h2] at hv
    rw [h1] at hrun
    injection hv.1 with e1
    subst e1
    exact ⟨cs, h3, hrun⟩
theorem turned_ev {a0 : Addr} {w' : World} (hc : c a0.block = j) (h : w.mapTurned w' a0.block) : Ev (fun k => k = j) c w c w' ∧ w'.heap.size = w.heap.size := by
  obtain ⟨es, clock, es', clock', hb, rfl⟩ := h
  refine ⟨⟨rfl, rfl, rfl, by simp [ChangeMaps.setBlock], fun _ _ => rfl, fun k hk hm => ?_⟩, by simp [ChangeMaps.setBlock]⟩
  have hne : a0.block ≠ k := fun e => hm (by rw [← e]; exact hc)
  simp only [ChangeMaps.setBlock]
  rw [Array.getElem?_setIfInBounds_ne hne]
theorem e_mapUpdateK (F : Fr a N L D) {k : Int} {z : β} {cs : List Value} (hk : P.underlying K = some (.int q)) (ht : P.underlying t = some (.map K et)) (hm : ev L m = some (.map (Option.map Addr.block p))) (hx : ev L x = some (.int q k)) (hy : ev L y = some (mk cs))
    (h : MK q K e mk P j i c w p o) (hr : e.rep i c w cs z) (hij : i ≠ j) (hw : (Lit.int q k).wf = true) (hn : o.n < maxLen) :
    ∃ w', (execOp a.eval { dst := d, op := .mapUpdate t m x y, type := ty, pos := pos, after := af, guard := gd }).run P w = .ok .skip w' ∧ (Ev (fun k => k = j) c w c w' ∧ MK q K e mk P j i c w' p (o.put k z) ∧ w'.heap.size = w.heap.size) := by
  obtain ⟨a0, rfl, hc, D0, hD, hs, r⟩ := h
  obtain ⟨w', hrun, r1, r2⟩ := hD.store (Maps.int_keyed hk) ht hn (Maps.keyOf_int_mk hk hw) (val := mk cs) (d := .held (mk cs)) (ps := []) rfl
  have hm' := F.ev hm
  simp only [Option.map_some] at hm'
  obtain ⟨E, hz⟩ := turned_ev hc r2
  have hkl : WideAt.IsKeyLit (.int q k) := trivial
  refine ⟨w', by simp [execOp, hm', F.ev hx, F.ev hy, hrun, Result.andThen], E, ⟨a0, rfl, hc, _, r1, ?_, fun k' => ?_⟩, hz⟩
  · rw [Maps.size_put (hD.tidy (Maps.int_keyed hk))]
    have hrk := r k
    show _ = (if (o.f k).isSome then o.len else o.len + 1)
    cases hf : o.f k with
    | none => rw [hf] at hrk; have hrk : Maps.has D0 (.int q k) = false := hrk; rw [hrk]; simp; omega
    | some x1 => rw [hf] at hrk; rw [hrk.1]; simp; omega
  · show MKat e mk i c w' _ _ (if k' = k then some z else o.f k')
    by_cases ck : k' = k
    · subst ck
      rw [if_pos rfl]
      exact ⟨Maps.has_put_same hD.isMap hkl _, cs, fun z0 => Maps.atKey_put_same hD.isMap hkl _ _, e.ev hr E hij⟩
    · rw [if_neg ck]
      have hne : (Lit.int q k') ≠ .int q k := fun e => ck (by injection e)
      have hrk := r k'
      cases hf : o.f k' with
      | none => rw [hf] at hrk; exact (Maps.has_put_other hne _).trans hrk
      | some x1 => rw [hf] at hrk; obtain ⟨h1, cs1, h2, h3⟩ := hrk; exact ⟨(Maps.has_put_other hne _).trans h1, cs1, fun z0 => (Maps.atKey_put_other hne _ _).trans (h2 z0), e.ev h3 E hij⟩
theorem e_mapDeleteK (F : Fr a N L D) {k : Int} (hk : P.underlying K = some (.int q)) (ht : P.underlying t = some (.map K et)) (hm : ev L m = some (.map (Option.map Addr.block p))) (hx : ev L x = some (.int q k))
    (h : MK q K e mk P j i c w p o) (hij : i ≠ j) (hw : (Lit.int q k).wf = true) :
    ∃ w', (execOp a.eval { dst := d, op := .call { callee := .builtin .delete, args := #[m, x], argTypes := #[t, K] }, type := ty, pos := pos, after := af, guard := gd }).run P w = .ok (.value (.tuple #[])) w' ∧ (Ev (fun k => k = j) c w c w' ∧ MK q K e mk P j i c w' p (o.del k) ∧ w'.heap.size = w.heap.size) := by
  obtain ⟨a0, rfl, hc, D0, hD, hs, r⟩ := h
  obtain ⟨w', hrun, r1, r2⟩ := hD.drop (Maps.int_keyed hk) ht (Maps.keyOf_int_mk hk hw) ty
  have hm' := F.ev hm
  simp only [Option.map_some] at hm'
  obtain ⟨E, hz⟩ := turned_ev hc r2
  refine ⟨w', by simp [execOp, resolve, invoke, builtin, hm', F.ev hx, hrun, Result.andThen], E, ⟨a0, rfl, hc, _, r1, ?_, fun k' => ?_⟩, hz⟩
  · have h1 := Maps.size_del (k := .int q k) (hD.tidy (Maps.int_keyed hk))
    have hrk := r k
    show _ = (if (o.f k).isSome then o.len - 1 else o.len)
    cases hf : o.f k with
    | none => rw [hf] at hrk; have hrk : Maps.has D0 (.int q k) = false := hrk; rw [hrk] at h1; simp at h1 ⊢; omega
    | some x1 => rw [hf] at hrk; rw [hrk.1] at h1; simp at h1 ⊢; omega
  · show MKat e mk i c w' _ _ (if k' = k then none else o.f k')
    by_cases ck : k' = k
    · subst ck
      rw [if_pos rfl]
      exact Maps.has_del_same
    · rw [if_neg ck]
      have hne : (Lit.int q k') ≠ .int q k := fun e => ck (by injection e)
      have hrk := r k'
      cases hf : o.f k' with
      | none => rw [hf] at hrk; exact (Maps.has_del_other hne).trans hrk
      | some x1 => rw [hf] at hrk; obtain ⟨h1, cs1, h2, h3⟩ := hrk; exact ⟨(Maps.has_del_other hne).trans h1, cs1, fun z0 => (Maps.atKey_del_other hne _).trans (h2 z0), e.ev h3 E hij⟩
theorem r_lenmap (F : Fr a N L D) (h : MK q K e mk P j i c w p o) (ht : P.underlying t = some (.map K et)) (hm : ev L m = some (.map (Option.map Addr.block p))) :
    (execOp a.eval { dst := d, op := .call { callee := .builtin .len, args := #[m], argTypes := #[t] }, type := ty, pos := pos, after := af, guard := gd }).run P w = .ok (.value (.int .i64 o.len)) w := by
  obtain ⟨a0, rfl, hc, D0, hD, hs, r⟩ := h
  have hrun := hD.len ht ty
  have hm' := F.ev hm
  simp only [Option.map_some] at hm'
  simp [execOp, resolve, invoke, builtin, hm', hrun, Result.andThen, hs]
end
end Go.Proofs.Ytdlokohmdnkdoaa.G
namespace Go.Proofs.Ytdlokohmdnkdoaa.G
open Go Go.RowKit
set_option linter.unusedVariables false
set_option linter.unusedSimpArgs false
def K_api_Letter : K api_Letter where
  sz := 4
  pos := by decide
  rep := fun i c w cs x => ∃ (A1 : Option Addr) (C2 : Nat), cs = [.int .i64 x.Number, .int .i64 x.From, .int .i64 x.To, .slice A1 x.Data.length C2] ∧ SL false (Kint .u8) i i c w A1 C2 x.Data
  ev := fun ⟨A1, C2, h_, h3⟩ E hi => ⟨A1, C2, h_, h3.ev E hi hi⟩
  rc := fun ⟨A1, C2, h_, h3⟩ hr => ⟨A1, C2, h_, h3.rc hr hr⟩
  len := fun ⟨A1, C2, h_, h3⟩ => by rw [h_]; rfl
  one := @fun i c w cs x ⟨A1, C2, h_, h3⟩ u hu => by rw [h_] at hu; exact one_all (us := [.int .i64 x.Number, .int .i64 x.From, .int .i64 x.To, .slice A1 x.Data.length C2]) rfl u hu
def K_api_Traffic : K api_Traffic where
  sz := 5
  pos := by decide
  rep := fun i c w cs x => cs = [.int .i64 x.Sent, .int .i64 x.Twice, .int .i64 x.Delivered, .int .i64 x.Dropped, .int .i64 x.Lost]
  ev := fun h _ _ => h
  rc := fun h _ => h
  len := fun h => by rw [h]; rfl
  one := @fun i c w cs x h u hu => by rw [h] at hu; exact one_all (us := [.int .i64 x.Sent, .int .i64 x.Twice, .int .i64 x.Delivered, .int .i64 x.Dropped, .int .i64 x.Lost]) rfl u hu
def K_haulagelaw20_Op : K haulagelaw20_Op where
  sz := 5
  pos := by decide
  rep := fun i c w cs x => ∃ (A1 : Option Addr) (C2 : Nat), cs = [.int .i64 x.Who, .int .i64 x.Kind, .int .i64 x.Number, .int .i64 x.To, .slice A1 x.Data.length C2] ∧ SL false (Kint .u8) i i c w A1 C2 x.Data
  ev := fun ⟨A1, C2, h_, h3⟩ E hi => ⟨A1, C2, h_, h3.ev E hi hi⟩
  rc := fun ⟨A1, C2, h_, h3⟩ hr => ⟨A1, C2, h_, h3.rc hr hr⟩
  len := fun ⟨A1, C2, h_, h3⟩ => by rw [h_]; rfl
  one := @fun i c w cs x ⟨A1, C2, h_, h3⟩ u hu => by rw [h_] at hu; exact one_all (us := [.int .i64 x.Who, .int .i64 x.Kind, .int .i64 x.Number, .int .i64 x.To, .slice A1 x.Data.length C2]) rfl u hu
def ML (j : Nat) (c : Nat → Nat) (w : World) (p : Option Addr) (o : MkV api_Letter) : Prop := MK .i64 3 K_api_Letter (fun cs => .agg cs.toArray) Try.prog j 0 c w p o
theorem ML.ev {M : Nat → Prop} {j : Nat} {c c' : Nat → Nat} {w w' : World} {p : Option Addr} {o : MkV api_Letter} (h : ML j c w p o) (E : Ev M c w c' w') (hj : ¬ M j) (h0 : ¬ M 0) : ML j c' w' p o := MK.ev h E hj h0
theorem ML.rc {j j' : Nat} {c c' : Nat → Nat} {w : World} {p : Option Addr} {o : MkV api_Letter} (h : ML j c w p o) (hr : ∀ k, c k = j → c' k = j') (h0 : ∀ k, c k = 0 → c' k = 0) : ML j' c' w p o := MK.rc h hr h0
def BG (j i : Nat) (c : Nat → Nat) (w : World) (p : Option Addr) : Option Bag → Prop
  | none => p = none
  | some t => ∃ (a : Addr) (p1 : Option Addr), p = some a ∧ AT true j c w a [.map (Option.map Addr.block p1), .int .i64 t.next, .int .i64 t.told.Sent, .int .i64 t.told.Twice, .int .i64 t.told.Delivered, .int .i64 t.told.Dropped, .int .i64 t.told.Lost] ∧ ML i c w p1 t.under
theorem BG.nil {j i : Nat} {c : Nat → Nat} {w : World} : BG j i c w none none := rfl
theorem BG.some {j i : Nat} {c : Nat → Nat} {w : World} {p : Option Addr} {t : Bag} (h : BG j i c w p (some t)) : ∃ (a : Addr) (p1 : Option Addr), p = some a ∧ AT true j c w a [.map (Option.map Addr.block p1), .int .i64 t.next, .int .i64 t.told.Sent, .int .i64 t.told.Twice, .int .i64 t.told.Delivered, .int .i64 t.told.Dropped, .int .i64 t.told.Lost] ∧ ML i c w p1 t.under := h
theorem BG.isNone {j i : Nat} {c : Nat → Nat} {w : World} {p : Option Addr} {o : Option Bag} (h : BG j i c w p o) : p.isNone = o.isNone := by
  cases o with
  | none => have h : p = none := h; rw [h]; rfl
  | some t => obtain ⟨a, p1, e, _⟩ := h; rw [e]; rfl
theorem BG.ev {M : Nat → Prop} {j i : Nat} {c c' : Nat → Nat} {w w' : World} {p : Option Addr} {o : Option Bag} (h : BG j i c w p o) (E : Ev M c w c' w') (hj : ¬ M j) (hi : ¬ M i) (h0 : ¬ M 0) : BG j i c' w' p o := by
  cases o with
  | none => exact h
  | some t => obtain ⟨a, p1, e, hat, h2⟩ := h; exact ⟨a, p1, e, hat.ev E hj, h2.ev E hi h0⟩
theorem BG.rc {j j' i i' : Nat} {c c' : Nat → Nat} {w : World} {p : Option Addr} {o : Option Bag} (h : BG j i c w p o) (hr : ∀ k, c k = j → c' k = j') (hi : ∀ k, c k = i → c' k = i') (h0 : ∀ k, c k = 0 → c' k = 0) : BG j' i' c' w p o := by
  cases o with
  | none => exact h
  | some t => obtain ⟨a, p1, e, hat, h2⟩ := h; exact ⟨a, p1, e, hat.rc hr, h2.rc hi h0⟩
theorem BG.mk {j i : Nat} {c : Nat → Nat} {w : World} {a : Addr} {t : Bag} {p1 : Option Addr} (hat : AT true j c w a [.map (Option.map Addr.block p1), .int .i64 t.next, .int .i64 t.told.Sent, .int .i64 t.told.Twice, .int .i64 t.told.Delivered, .int .i64 t.told.Dropped, .int .i64 t.told.Lost]) (h2 : ML i c w p1 t.under) : BG j i c w (Option.some a) (Option.some t) := ⟨a, p1, rfl, hat, h2⟩
theorem Try_hm : Try.prog.follows .mixedOrders = true := by kernel_rfl
theorem zv_40 : ∀ w, (zeroValue 40).run Try.prog w = .ok (.agg #[.int .i64 0, .int .i64 0, .int .i64 0, .slice none 0 0]) w := fun _ => by kernel_rfl
theorem ff_40_3 : ∀ q w, (Instr.fieldAt 40 (.pointer (some q)) 3).run Try.prog w = .ok (.pointer (some (q.add 3))) w := fun _ _ => by kernel_rfl
theorem ag_27 : ∀ w, (isAgg 27).run Try.prog w = .ok false w := fun _ => by kernel_rfl
theorem sz_27 : ∀ w, (sizeOf 27).run Try.prog w = .ok 1 w := fun _ => by kernel_rfl
theorem ag_40 : ∀ w, (isAgg 40).run Try.prog w = .ok true w := fun _ => by kernel_rfl
theorem sz_40 : ∀ w, (sizeOf 40).run Try.prog w = .ok 4 w := fun _ => by kernel_rfl
theorem ff_67_1 : ∀ q w, (Instr.fieldAt 67 (.pointer (some q)) 1).run Try.prog w = .ok (.pointer (some (q.add 1))) w := fun _ _ => by kernel_rfl
theorem ag_3 : ∀ w, (isAgg 3).run Try.prog w = .ok false w := fun _ => by kernel_rfl
theorem ff_40_0 : ∀ q w, (Instr.fieldAt 40 (.pointer (some q)) 0).run Try.prog w = .ok (.pointer (some (q.add 0))) w := fun _ _ => by kernel_rfl
theorem sz_3 : ∀ w, (sizeOf 3).run Try.prog w = .ok 1 w := fun _ => by kernel_rfl
theorem ff_67_0 : ∀ q w, (Instr.fieldAt 67 (.pointer (some q)) 0).run Try.prog w = .ok (.pointer (some (q.add 0))) w := fun _ _ => by kernel_rfl
theorem ag_65 : ∀ w, (isAgg 65).run Try.prog w = .ok false w := fun _ => by kernel_rfl
theorem ff_67_2 : ∀ q w, (Instr.fieldAt 67 (.pointer (some q)) 2).run Try.prog w = .ok (.pointer (some (q.add 2))) w := fun _ _ => by kernel_rfl
theorem ff_63_4 : ∀ q w, (Instr.fieldAt 63 (.pointer (some q)) 4).run Try.prog w = .ok (.pointer (some (q.add 4))) w := fun _ _ => by kernel_rfl
theorem ff_63_0 : ∀ q w, (Instr.fieldAt 63 (.pointer (some q)) 0).run Try.prog w = .ok (.pointer (some (q.add 0))) w := fun _ _ => by kernel_rfl
theorem ff_63_2 : ∀ q w, (Instr.fieldAt 63 (.pointer (some q)) 2).run Try.prog w = .ok (.pointer (some (q.add 2))) w := fun _ _ => by kernel_rfl
theorem ff_63_3 : ∀ q w, (Instr.fieldAt 63 (.pointer (some q)) 3).run Try.prog w = .ok (.pointer (some (q.add 3))) w := fun _ _ => by kernel_rfl
theorem ff_63_1 : ∀ q w, (Instr.fieldAt 63 (.pointer (some q)) 1).run Try.prog w = .ok (.pointer (some (q.add 1))) w := fun _ _ => by kernel_rfl
theorem zv_63 : ∀ w, (zeroValue 63).run Try.prog w = .ok (.agg #[.int .i64 0, .int .i64 0, .int .i64 0, .int .i64 0, .int .i64 0]) w := fun _ => by kernel_rfl
theorem sz_63 : ∀ w, (sizeOf 63).run Try.prog w = .ok 5 w := fun _ => by kernel_rfl
theorem ag_63 : ∀ w, (isAgg 63).run Try.prog w = .ok true w := fun _ => by kernel_rfl
theorem sz_5 : ∀ w, (sizeOf 5).run Try.prog w = .ok 1 w := fun _ => by kernel_rfl
theorem ag_5 : ∀ w, (isAgg 5).run Try.prog w = .ok false w := fun _ => by kernel_rfl
theorem ff_40_1 : ∀ q w, (Instr.fieldAt 40 (.pointer (some q)) 1).run Try.prog w = .ok (.pointer (some (q.add 1))) w := fun _ _ => by kernel_rfl
theorem ff_40_2 : ∀ q w, (Instr.fieldAt 40 (.pointer (some q)) 2).run Try.prog w = .ok (.pointer (some (q.add 2))) w := fun _ _ => by kernel_rfl
theorem et_27 : ET Try.prog 27 5 1 1 (.int .u8 0) := ⟨Try.underlying27, info_parts' (by kernel_rfl), rfl⟩
theorem sq_63 (a0 a1 a2 a3 a4 b0 b1 b2 b3 b4 : Int) (w : World) : (Op.equalIn 10000 63 (.agg #[.int .i64 a0, .int .i64 a1, .int .i64 a2, .int .i64 a3, .int .i64 a4]) (.agg #[.int .i64 b0, .int .i64 b1, .int .i64 b2, .int .i64 b3, .int .i64 b4])).run Try.prog w = .ok (decide (api_Traffic.mk a0 a1 a2 a3 a4 = api_Traffic.mk b0 b1 b2 b3 b4)) w := eql_of Try.underlying63 (by kernel_rfl) (eqf_cons' (a := .int .i64 a0) (b := .int .i64 b0) (by decide) (by kernel_rfl) (by kernel_rfl) (run_equalIn_int _ _ _ _ _ _ _ Try.underlying3) (eqf_cons' (a := .int .i64 a1) (b := .int .i64 b1) (by decide) (by kernel_rfl) (by kernel_rfl) (run_equalIn_int _ _ _ _ _ _ _ Try.underlying3) (eqf_cons' (a := .int .i64 a2) (b := .int .i64 b2) (by decide) (by kernel_rfl) (by kernel_rfl) (run_equalIn_int _ _ _ _ _ _ _ Try.underlying3) (eqf_cons' (a := .int .i64 a3) (b := .int .i64 b3) (by decide) (by kernel_rfl) (by kernel_rfl) (run_equalIn_int _ _ _ _ _ _ _ Try.underlying3) (eqf_cons' (a := .int .i64 a4) (b := .int .i64 b4) (by decide) (by kernel_rfl) (by kernel_rfl) (run_equalIn_int _ _ _ _ _ _ _ Try.underlying3) eqf_nil'))))) (by rw [Bool.eq_iff_iff]; simp [api_Traffic.mk.injEq])
theorem sqg_63 : Try.prog.eqGuardType Try.prog.depth 63 = false := by kernel_rfl
theorem sz_53 : ∀ w, (sizeOf 53).run Try.prog w = .ok 5 w := fun _ => by kernel_rfl
theorem ag_53 : ∀ w, (isAgg 53).run Try.prog w = .ok true w := fun _ => by kernel_rfl
theorem zv_53 : ∀ w, (zeroValue 53).run Try.prog w = .ok (.agg #[.int .i64 0, .int .i64 0, .int .i64 0, .int .i64 0, .slice none 0 0]) w := fun _ => by kernel_rfl
theorem ff_53_1 : ∀ q w, (Instr.fieldAt 53 (.pointer (some q)) 1).run Try.prog w = .ok (.pointer (some (q.add 1))) w := fun _ _ => by kernel_rfl
theorem ff_53_2 : ∀ q w, (Instr.fieldAt 53 (.pointer (some q)) 2).run Try.prog w = .ok (.pointer (some (q.add 2))) w := fun _ _ => by kernel_rfl
theorem ff_53_3 : ∀ q w, (Instr.fieldAt 53 (.pointer (some q)) 3).run Try.prog w = .ok (.pointer (some (q.add 3))) w := fun _ _ => by kernel_rfl
theorem ff_53_4 : ∀ q w, (Instr.fieldAt 53 (.pointer (some q)) 4).run Try.prog w = .ok (.pointer (some (q.add 4))) w := fun _ _ => by kernel_rfl
theorem et_34 : ET Try.prog 34 40 4 48 (.agg #[.int .i64 0, .int .i64 0, .int .i64 0, .slice none 0 0]) := ⟨Try.underlying34, info_parts' (by kernel_rfl), rfl⟩
theorem et_36 : ET Try.prog 36 3 1 8 (.int .i64 0) := ⟨Try.underlying36, info_parts' (by kernel_rfl), rfl⟩
end Go.Proofs.Ytdlokohmdnkdoaa.G
/-
  DERIVED: THE SHELF's CONTRACTS AT THIS DUMP, IN PLAIN WORDS (tools/lay-plain.mjs out of 'YtdlokohmdnkdoaaShss.lean', which tools/lay-shelf.mjs wrote): THE SAME DECLARATIONS UNDER THE SAME NAMES: 'import', 'namespace', 'open', 'def', 'theorem' AND NOTHING ELSE: no command of the shelf's: FOR A HAND-IN. Each laying: the table of numbers ('.._ren') and one theorem, a field a fact of the dump's own or the kernel's comparison; each contract: ONE APPLICATION.
-/
namespace Go.Proofs
open Go.Shelf
def Try.sortInts_ren : Go.Shelf.Ren := ⟨fun | 5 => 35 | 8 => 48 | 7 => 49 | 19 => 61 | 20 => 62 | 10 => 63 | 11 => 64 | 12 => 65 | 13 => 66 | 14 => 67 | 15 => 68 | 16 => 69 | 17 => 70 | 18 => 71 | 30 => 77 | 31 => 73 | 32 => 74 | 33 => 78 | 34 => 79 | 35 => 80 | 40 => 82 | n => n, fun | 23 => 36 | 25 => 3 | 3 => 3 | 32 => 84 | 22 => 36 | 0 => 0 | 44 => 97 | 46 => 99 | 4 => 4 | 36 => 90 | 35 => 89 | 41 => 94 | 5 => 5 | 9 => 9 | 53 => 106 | 57 => 110 | 63 => 115 | 64 => 57 | n => n, fun | n => n⟩
theorem Try.sortInts : Go.Proofs.SlLaysM.n5 Try.prog Try.sortInts_ren := {
  mixed := by kernel_rfl
  f5 := ⟨Try.f35.name, by decide, Try.func35.trans (congrArg some (by kernel_rfl))⟩
  f7 := ⟨Try.f49.name, by decide, Try.func49.trans (congrArg some (by kernel_rfl))⟩
  f8 := Try.func48.trans (congrArg some (by kernel_rfl))
  f10 := ⟨Try.f63.name, by decide, Try.func63.trans (congrArg some (by kernel_rfl))⟩
  f11 := ⟨Try.f64.name, by decide, Try.func64.trans (congrArg some (by kernel_rfl))⟩
  f12 := ⟨Try.f65.name, by decide, Try.func65.trans (congrArg some (by kernel_rfl))⟩
  f13 := ⟨Try.f66.name, by decide, Try.func66.trans (congrArg some (by kernel_rfl))⟩
  f14 := ⟨Try.f67.name, by decide, Try.func67.trans (congrArg some (by kernel_rfl))⟩
  f15 := ⟨Try.f68.name, by decide, Try.func68.trans (congrArg some (by kernel_rfl))⟩
  f16 := ⟨Try.f69.name, by decide, Try.func69.trans (congrArg some (by kernel_rfl))⟩
  f17 := ⟨Try.f70.name, by decide, Try.func70.trans (congrArg some (by kernel_rfl))⟩
  f18 := ⟨Try.f71.name, by decide, Try.func71.trans (congrArg some (by kernel_rfl))⟩
  f19 := Try.func61.trans (congrArg some (by kernel_rfl))
  f20 := Try.func62.trans (congrArg some (by kernel_rfl))
  f30 := ⟨Try.f77.name, by decide, Try.func77.trans (congrArg some (by kernel_rfl))⟩
  f31 := Try.func73.trans (congrArg some (by kernel_rfl))
  f32 := Try.func74.trans (congrArg some (by kernel_rfl))
  f33 := ⟨Try.f78.name, by decide, Try.func78.trans (congrArg some (by kernel_rfl))⟩
  f34 := ⟨Try.f79.name, by decide, Try.func79.trans (congrArg some (by kernel_rfl))⟩
  f35 := ⟨Try.f80.name, by decide, Try.func80.trans (congrArg some (by kernel_rfl))⟩
  f40 := ⟨Try.f82.name, by decide, Try.func82.trans (congrArg some (by kernel_rfl))⟩
  t0 := Try.underlying0
  a0 := Try.isAgg0
  z0 := Try.sizeOf0
  v0 := Try.zeroValue0
  t3 := Try.underlying3
  a3 := Try.isAgg3
  z3 := Try.sizeOf3
  v3 := Try.zeroValue3
  t4 := Try.underlying4
  a4 := Try.isAgg4
  z4 := Try.sizeOf4
  v4 := Try.zeroValue4
  t5 := Try.underlying5
  a5 := Try.isAgg5
  z5 := Try.sizeOf5
  v5 := Try.zeroValue5
  t9 := Try.underlying9
  a9 := Try.isAgg9
  z9 := Try.sizeOf9
  v9 := Try.zeroValue9
  t22 := Try.underlying36
  a22 := Try.isAgg36
  z22 := Try.sizeOf36
  v22 := Try.zeroValue36
  t23 := Try.underlying36
  a23 := Try.isAgg36
  z23 := Try.sizeOf36
  v23 := Try.zeroValue36
  t25 := Try.underlying3
  a25 := Try.isAgg3
  z25 := Try.sizeOf3
  v25 := Try.zeroValue3
  t32 := Try.underlying84
  a32 := Try.isAgg84
  z32 := Try.sizeOf84
  v32 := Try.zeroValue84
  t35 := Try.underlying89
  a35 := Try.isAgg89
  z35 := Try.sizeOf89
  v35 := Try.zeroValue89
  t36 := Try.underlying90
  a36 := Try.isAgg90
  z36 := Try.sizeOf90
  v36 := Try.zeroValue90
  t41 := Try.underlying94
  a41 := Try.isAgg94
  z41 := Try.sizeOf94
  v41 := Try.zeroValue94
  t44 := Try.underlying97
  a44 := Try.isAgg97
  z44 := Try.sizeOf97
  v44 := Try.zeroValue97
  t46 := Try.underlying99
  a46 := Try.isAgg99
  z46 := Try.sizeOf99
  v46 := Try.zeroValue99
  t53 := Try.underlying106
  a53 := Try.isAgg106
  z53 := Try.sizeOf106
  v53 := Try.zeroValue106
  t57 := Try.underlying110
  a57 := Try.isAgg110
  z57 := Try.sizeOf110
  v57 := Try.zeroValue110
  t63 := Try.underlying115
  a63 := Try.isAgg115
  z63 := Try.sizeOf115
  v63 := Try.zeroValue115
  t64 := Try.underlying57
  a64 := Try.isAgg57
  z64 := Try.sizeOf57
  v64 := Try.zeroValue57 }
end Go.Proofs
/-! slices.Sort of whole numbers in the walks' own form. -/
namespace Go.Proofs.Ytdlokohmdnkdoaa.G
open Go Go.RowKit Go.Sort
set_option linter.unusedVariables false
set_option linter.unusedSimpArgs false
def sortI (l : List Int) : List Int := l.mergeSort fun x y => decide (x ≤ y)
theorem sortI_length (l : List Int) : (sortI l).length = l.length := List.length_mergeSort l
theorem slices_Sort.calls {m : Nat} {c0 : Nat → Nat} {w0 : World} {j1 : Nat} {A2 : Option Addr} {C3 : Nat} {a1 : List Int} (B0 : CB m c0 w0) (h4 : SL true (Kint .i64) j1 0 c0 w0 A2 C3 a1) (bj1 : j1 < m) (hs : a1.length < 4611686018427387904) :
    Calls Try.prog 35 #[.slice A2 a1.length C3] w0 (fun e w_ => ∃ (c_ : Nat → Nat), e = .returned (.tuple #[]) ∧ Ev (fun x => x = j1) c0 w0 c_ w_ ∧ CB m c_ w_ ∧ SL true (Kint .i64) j1 0 c_ w_ A2 C3 (sortI a1)) := by
  by_cases hn : a1 = []
  · subst hn
    refine (AnyM.slices_Sort_int_none Try.sortInts A2 C3 w0).mono ?_
    rintro e w' ⟨rfl, rfl⟩
    exact ⟨c0, rfl, Ev.refl, B0, by simpa [sortI] using h4⟩
  have hpos : 0 < a1.length := List.length_pos_iff.2 hn
  obtain ⟨cs, h2, h3, hl, hrow, hr⟩ := h4
  have hl : cs.length = C3 * 1 := hl
  rcases hrow with rfl | ⟨p, rfl, hat⟩
  · simp at hl; omega
  have cell : ∀ k, k < a1.length → cs[k]? = some (Value.int .i64 (a1.getD k 0)) := fun k hk => by
    have e : (cs.drop (k * 1)).take 1 = [Value.int .i64 a1[k]] := hr k hk
    have e2 := congrArg (fun l => l[0]?) e
    simp only [List.getElem?_take_of_lt (Nat.zero_lt_one), List.getElem?_drop, List.getElem?_cons_zero] at e2
    rw [Nat.mul_one, Nat.add_zero] at e2
    rw [e2, List.getD_eq_getElem?_getD, List.getElem?_eq_getElem hk]
    rfl
  have hat' := hat
  obtain ⟨b, off, cur, ty, fz, rfl, hb, hc, hcells, hfree⟩ := hat
  have hlt := lt_of_get hb
  have hH : Holds (Value.int .i64) w0 b off a1.toArray := fun k hk => by
    have hk : k < a1.length := by simpa using hk
    refine ⟨?_, ?_⟩
    · rw [← add_eq, hat'.cell (cell k hk)]
      congr 2
      rw [getElem!_pos _ k (by simpa using hk), List.getD_eq_getElem?_getD, List.getElem?_eq_getElem hk]
      rfl
    · rw [← add_eq]; exact hat'.free (by omega)
  refine (AnyM.slices_Sort_int Try.sortInts b off C3 a1 w0 hH hlt hs).mono ?_
  rintro e w' ⟨rfl, n, os, rfl⟩
  have old : ∀ k, k < w0.heap.size → b ≠ k → (grow (putRow (Value.int .i64) (Sort.ahead w0 n) b off (a1.mergeSort fun x y => decide (x ≤ y)).toArray) os).heap[k]? = w0.heap[k]? := fun k hk hne => by
    rw [heap_grow_old _ _ (by simpa [putRow, mapBlock, Sort.ahead] using hk)]
    simp [putRow, mapBlock, Sort.ahead, Array.getElem?_modify, hne]
  have new : (grow (putRow (Value.int .i64) (Sort.ahead w0 n) b off (a1.mergeSort fun x y => decide (x ≤ y)).toArray) os).heap[b]? = some (.cells (putCells (Value.int .i64) off (sortI a1).toArray cur) ty fz) := by
    rw [heap_grow_old _ _ (by simpa [putRow, mapBlock, Sort.ahead] using hlt)]
    simp [putRow, mapBlock, Sort.ahead, Array.getElem?_modify, hb, onCells, sortI]
  refine ⟨fun k => if k < w0.heap.size then c0 k else j1, rfl, ⟨rfl, rfl, rfl, by simp [grow, putRow, mapBlock, Sort.ahead], fun k hk => if_pos hk, fun k hk hm => old k hk (fun q => hm (by rw [← q]; exact hc))⟩, fun k _ => ?_, ?_⟩
  · show (if k < w0.heap.size then c0 k else j1) < m
    split
    · exact B0 k (by assumption)
    · exact bj1
  have hz : (sortI a1).length = a1.length := sortI_length a1
  have hin : off + a1.length ≤ cur.size := by
    have := hcells (a1.length - 1) (by omega)
    rw [List.getElem?_eq_getElem (by omega)] at this
    have := (Array.getElem?_eq_some_iff.1 this).1
    omega
  refine ⟨(sortI a1).map (Value.int .i64) ++ cs.drop a1.length, by rw [hz]; exact h2, h3, by simp [hz]; show a1.length + (cs.length - a1.length) = C3 * 1; omega, .inr ⟨_, rfl, b, off, _, ty, fz, rfl, new, by show (if b < w0.heap.size then c0 b else j1) = j1; rw [if_pos hlt]; exact hc, fun k hk => ?_, fun q k hk => hfree q k (by simp [hz] at hk; omega)⟩, fun k hk => ?_⟩
  · simp only [List.length_append, List.length_map, List.length_drop, hz] at hk
    simp only [putCells, Array.getElem?_mapIdx]
    by_cases c : k < a1.length
    · rw [List.getElem?_append_left (by simpa [hz] using c), List.getElem?_map, List.getElem?_eq_getElem (by omega)]
      rw [Array.getElem?_eq_getElem (by omega)]
      simp only [Option.map_some, List.size_toArray, hz]
      rw [if_pos (by omega)]
      congr 2
      have e : off + k - off = k := by omega
      rw [e, getElem!_pos _ k (by simp [hz]; exact c)]
      simp
    · rw [List.getElem?_append_right (by simpa [hz] using Nat.le_of_not_lt c), List.getElem?_drop]
      simp only [List.length_map, hz]
      have e : a1.length + (k - a1.length) = k := by omega
      rw [e, ← hcells k (by omega)]
      cases hq : cur[off + k]? with
      | none => rfl
      | some v =>
        simp only [Option.map_some, List.size_toArray, hz]
        rw [if_neg (by omega)]
  · show ((((sortI a1).map (Value.int .i64) ++ cs.drop a1.length).drop (k * 1)).take 1) = [Value.int .i64 (sortI a1)[k]]
    rw [Nat.mul_one, List.drop_append_of_le_length (by simp; omega), List.drop_eq_getElem_cons (by simpa using hk)]
    simp
end Go.Proofs.Ytdlokohmdnkdoaa.G
/-
  DERIVED: THE SHELF's CONTRACTS AT THIS DUMP, IN PLAIN WORDS (tools/lay-plain.mjs out of 'YtdlokohmdnkdoaaShls.lean', which tools/lay-shelf.mjs wrote): THE SAME DECLARATIONS UNDER THE SAME NAMES: 'import', 'namespace', 'open', 'def', 'theorem' AND NOTHING ELSE: no command of the shelf's: FOR A HAND-IN. Each laying: the table of numbers ('.._ren') and one theorem, a field a fact of the dump's own or the kernel's comparison; each contract: ONE APPLICATION.
-/
namespace Go.Proofs
open Go.Shelf
def Try.sortLetters_ren : Go.Shelf.Ren := ⟨fun | 6 => 33 | 15 => 48 | 14 => 47 | 28 => 61 | 29 => 62 | 20 => 53 | 21 => 54 | 22 => 55 | 23 => 56 | 24 => 57 | 25 => 58 | 26 => 59 | 27 => 60 | 46 => 72 | 47 => 73 | 48 => 74 | 49 => 75 | 50 => 76 | 57 => 81 | n => n, fun | 22 => 34 | 24 => 40 | 25 => 72 | 3 => 3 | 39 => 84 | 0 => 0 | 53 => 97 | 55 => 99 | 4 => 4 | 46 => 90 | 45 => 89 | 50 => 94 | 5 => 5 | 9 => 9 | 66 => 106 | 70 => 110 | 76 => 115 | 77 => 57 | n => n, fun | n => n⟩
theorem Try.sortLetters : Go.Proofs.SlLaysF0.n6 Try.prog Try.sortLetters_ren := {
  mixed := by kernel_rfl
  f6 := ⟨Try.f33.name, by decide, Try.func33.trans (congrArg some (by kernel_rfl))⟩
  f14 := ⟨Try.f47.name, by decide, Try.func47.trans (congrArg some (by kernel_rfl))⟩
  f15 := Try.func48.trans (congrArg some (by kernel_rfl))
  f20 := ⟨Try.f53.name, by decide, Try.func53.trans (congrArg some (by kernel_rfl))⟩
  f21 := ⟨Try.f54.name, by decide, Try.func54.trans (congrArg some (by kernel_rfl))⟩
  f22 := ⟨Try.f55.name, by decide, Try.func55.trans (congrArg some (by kernel_rfl))⟩
  f23 := ⟨Try.f56.name, by decide, Try.func56.trans (congrArg some (by kernel_rfl))⟩
  f24 := ⟨Try.f57.name, by decide, Try.func57.trans (congrArg some (by kernel_rfl))⟩
  f25 := ⟨Try.f58.name, by decide, Try.func58.trans (congrArg some (by kernel_rfl))⟩
  f26 := ⟨Try.f59.name, by decide, Try.func59.trans (congrArg some (by kernel_rfl))⟩
  f27 := ⟨Try.f60.name, by decide, Try.func60.trans (congrArg some (by kernel_rfl))⟩
  f28 := Try.func61.trans (congrArg some (by kernel_rfl))
  f29 := Try.func62.trans (congrArg some (by kernel_rfl))
  f46 := ⟨Try.f72.name, by decide, Try.func72.trans (congrArg some (by kernel_rfl))⟩
  f47 := Try.func73.trans (congrArg some (by kernel_rfl))
  f48 := Try.func74.trans (congrArg some (by kernel_rfl))
  f49 := ⟨Try.f75.name, by decide, Try.func75.trans (congrArg some (by kernel_rfl))⟩
  f50 := ⟨Try.f76.name, by decide, Try.func76.trans (congrArg some (by kernel_rfl))⟩
  f57 := ⟨Try.f81.name, by decide, Try.func81.trans (congrArg some (by kernel_rfl))⟩
  t0 := Try.underlying0
  a0 := Try.isAgg0
  z0 := Try.sizeOf0
  v0 := Try.zeroValue0
  t3 := Try.underlying3
  a3 := Try.isAgg3
  z3 := Try.sizeOf3
  v3 := Try.zeroValue3
  t4 := Try.underlying4
  a4 := Try.isAgg4
  z4 := Try.sizeOf4
  v4 := Try.zeroValue4
  t5 := Try.underlying5
  a5 := Try.isAgg5
  z5 := Try.sizeOf5
  v5 := Try.zeroValue5
  t9 := Try.underlying9
  a9 := Try.isAgg9
  z9 := Try.sizeOf9
  v9 := Try.zeroValue9
  t22 := Try.underlying34
  a22 := Try.isAgg34
  z22 := Try.sizeOf34
  v22 := Try.zeroValue34
  t25 := Try.underlying72
  a25 := Try.isAgg72
  z25 := Try.sizeOf72
  v25 := Try.zeroValue72
  t39 := Try.underlying84
  a39 := Try.isAgg84
  z39 := Try.sizeOf84
  v39 := Try.zeroValue84
  t45 := Try.underlying89
  a45 := Try.isAgg89
  z45 := Try.sizeOf89
  v45 := Try.zeroValue89
  t46 := Try.underlying90
  a46 := Try.isAgg90
  z46 := Try.sizeOf90
  v46 := Try.zeroValue90
  t50 := Try.underlying94
  a50 := Try.isAgg94
  z50 := Try.sizeOf94
  v50 := Try.zeroValue94
  t53 := Try.underlying97
  a53 := Try.isAgg97
  z53 := Try.sizeOf97
  v53 := Try.zeroValue97
  t55 := Try.underlying99
  a55 := Try.isAgg99
  z55 := Try.sizeOf99
  v55 := Try.zeroValue99
  t66 := Try.underlying106
  a66 := Try.isAgg106
  z66 := Try.sizeOf106
  v66 := Try.zeroValue106
  t70 := Try.underlying110
  a70 := Try.isAgg110
  z70 := Try.sizeOf110
  v70 := Try.zeroValue110
  t76 := Try.underlying115
  a76 := Try.isAgg115
  z76 := Try.sizeOf115
  v76 := Try.zeroValue115
  t77 := Try.underlying57
  a77 := Try.isAgg57
  z77 := Try.sizeOf57
  v77 := Try.zeroValue57 }
end Go.Proofs
/-! A range over a map keyed by whole numbers, whatever its order. -/
namespace Go.Proofs.Ytdlokohmdnkdoaa.G
open Go Go.RowKit
open Go.Maps (Keyed IsMap Tidy)
set_option linter.unusedVariables false
set_option linter.unusedSimpArgs false
section
variable {β : Type} {q : IntKind} {K : TypeId} {mk : List Value → Value} {P : Program} {j jr i : Nat} {c : Nat → Nat} {w : World} {o : MkV β} {b r : Nat} {ks : List Int} {cnt : Nat}
/-- a range that has come to the keys ks -/
def MR (q : IntKind) (K : TypeId) (e : Go.Proofs.Ytdlokohmdnkdoaa.G.K β) (mk : List Value → Value) (P : Program) (j jr i : Nat) (c : Nat → Nat) (w : World) (b r : Nat) (o : MkV β) (ks : List Int) (cnt : Nat) : Prop :=
  c b = j ∧ c r = jr ∧ ∃ (D0 : DataW Value) (left : Lit → Bool), w.ranges P K heldElem b r o.n D0 left cnt ∧ (∀ k, MKat e mk i c w D0 (.int q k) (o.f k)) ∧ (Maps.size D0 : Int) = o.len ∧ ks.Nodup ∧ (∀ x, x ∈ ks ↔ ((o.f x).isSome = true ∧ left (.int q x) = false)) ∧ (∀ kl, left kl = true → Maps.has D0 kl = true) ∧ ks.length + cnt ≤ Maps.size D0
theorem MKat.ev {M : Nat → Prop} {c' : Nat → Nat} {w' : World} {e : Go.Proofs.Ytdlokohmdnkdoaa.G.K β} {D0 : DataW Value} {kl : Lit} {x : Option β} (h : MKat e mk i c w D0 kl x) (E : Ev M c w c' w') (hi : ¬ M i) : MKat e mk i c' w' D0 kl x := by
  cases x with
  | none => exact h
  | some x => obtain ⟨h1, cs, h2, h3⟩ := h; exact ⟨h1, cs, h2, e.ev h3 E hi⟩
theorem ranges_ev {M : Nat → Prop} {c' : Nat → Nat} {w' : World} {R : Value → Option (DataW Value × List MemPlace)} {n : Nat} {D0 : DataW Value} {left : Lit → Bool} (h : w.ranges P K R b r n D0 left cnt) (E : Ev M c w c' w') (hb : ¬ M (c b)) (hr : ¬ M (c r)) : w'.ranges P K R b r n D0 left cnt := by
  have h1 := h.owns.lt
  have h2 := h.lt
  obtain ⟨es, clock, since, seen, c0, q1, q2, q3, q4, q5, rest⟩ := h
  exact ⟨es, clock, since, seen, c0, (E.blk b h1 hb).trans q1, q2, q3, q4, (E.blk r h2 hr).trans q5, rest⟩
theorem MR.ev {M : Nat → Prop} {c' : Nat → Nat} {w' : World} {e : Go.Proofs.Ytdlokohmdnkdoaa.G.K β} (h : MR q K e mk P j jr i c w b r o ks cnt) (E : Ev M c w c' w') (hj : ¬ M j) (hjr : ¬ M jr) (hi : ¬ M i) : MR q K e mk P j jr i c' w' b r o ks cnt := by
  obtain ⟨h1, h2, D0, left, hrg, hk, hs, hn, hm, hh, hc⟩ := h
  exact ⟨(E.col _ hrg.owns.lt).trans h1, (E.col _ hrg.lt).trans h2, D0, left, ranges_ev hrg E (by rw [h1]; exact hj) (by rw [h2]; exact hjr), fun k => (hk k).ev E hi, hs, hn, hm, hh, hc⟩
theorem MKat.has {e : Go.Proofs.Ytdlokohmdnkdoaa.G.K β} {D0 : DataW Value} {kl : Lit} {x : Option β} (h : MKat e mk i c w D0 kl x) : Maps.has D0 kl = x.isSome := by
  cases x with
  | none => exact h
  | some x => exact h.1
end
section
variable {β : Type} {q : IntKind} {K : TypeId} {e : Go.Proofs.Ytdlokohmdnkdoaa.G.K β} {mk : List Value → Value} {P : Program} {a : Act} {N : Nat} {L : List (Nat × Value)} {D : List Deferred} {w w' : World} {v u : Value} {x y m : Operand} {d : Option Tmp} {t et ty : TypeId} {pos : String} {af : Array Edge} {gd : Option (Nat × Bool)} {c : Nat → Nat} {j jr i : Nat} {p : Option Addr} {o : MkV β}
theorem e_rangeK (F : Fr a N L D) (hk : P.underlying K = some (.int q)) (ht : P.underlying t = some (.map K et)) (hm : ev L x = some (.map (Option.map Addr.block p))) (h : MK q K e mk P j i c w p o) (jr : Nat) :
    ∃ v w', (execOp a.eval { dst := d, op := .range t x, type := ty, pos := pos, after := af, guard := gd }).run P w = .ok (.value v) w' ∧
      ∃ c' b r cnt, v = .pointer (some ⟨r, 0, none⟩) ∧ Ev No c w c' w' ∧ MR q K e mk P j jr i c' w' b r o [] cnt ∧ ∀ m, CB m c w → jr < m → CB m c' w' := by
  obtain ⟨a0, rfl, hc, D0, hD, hs, hat⟩ := h
  obtain ⟨w', hrun, hr, hg, hsz⟩ := hD.range (Maps.int_keyed hk) ht
  have hm' := F.ev hm
  simp only [Option.map_some] at hm'
  have E : Ev No c w (cset c w.heap.size jr) w' := ⟨hg.os, hg.tape, hg.output, hg.size, fun k hk => by unfold cset; rw [if_neg (by omega)], fun k hk _ => hg.block k hk (by simp)⟩
  refine ⟨_, w', by simp [execOp, hm', hrun, Result.andThen], cset c w.heap.size jr, a0.block, w.heap.size, Maps.size D0, rfl, E, ⟨(E.col _ hD.lt).trans hc, by unfold cset; rw [if_pos rfl], D0, Maps.has D0, hr, fun k => (hat k).ev E (fun q => q), hs, List.nodup_nil, fun k => ⟨fun h => (by cases h), fun h => (by rw [(hat k).has, h.1] at h; cases h.2)⟩, fun kl h => h, by simp⟩, fun m hm hj k hk => ?_⟩
  unfold cset
  split
  · exact hj
  · exact hm k (by omega)
theorem q_nextK {ops : Array Oper} {rest : List Oper} {K0 : Act → World → Prop} {dd : Nat} {it : Operand} {b r cnt : Nat} {ks : List Int} (F : Fr a N L D) (hN : dd < N) (hk : P.underlying K = some (.int q)) (hx : ev L it = some (.pointer (some ⟨r, 0, none⟩))) (h : MR q K e mk P j jr i c w b r o ks cnt) (hij : i ≠ jr) (hjj : j ≠ jr)
    (done : (∀ x, x ∈ ks ↔ (o.f x).isSome = true) → ks.Nodup → (ks.length : Int) ≤ o.len → ∀ a', Fr a' N ((dd, .tuple #[.bool false]) :: L) D → wL P ops K0 rest a' w)
    (more : ∀ (x : Int) (y : β) (cs : List Value) w' cnt' a', o.f x = some y → x ∉ ks → MR q K e mk P j jr i c w' b r o (ks ++ [x]) cnt' → cnt' < cnt → Ev (fun z => z = jr) c w c w' → w'.heap.size = w.heap.size → e.rep i c w' cs y → (Lit.int q x).wf = true →
      (Instr.entry (.pointer (some ⟨r, 0, none⟩))).run P w' = .ok (.tuple #[.int q x, mk cs]) w' → Fr a' N ((dd, .tuple #[.bool true, .int q x, mk cs]) :: L) D → wL P ops K0 rest a' w') :
    wL P ops K0 ({ dst := some dd, op := .next it false, type := ty, pos := pos, after := af, guard := none } :: rest) a w := by
  obtain ⟨h1, h2, D0, left, hrg, hat, hs, hn, hm, hh, hc⟩ := h
  rcases hrg.next (Maps.int_keyed hk) ty with ⟨h0, hl, hrun⟩ | ⟨key, v, kl, y, w', cnt', hkey, hlk, hv, hat1, hrun, hrg1, hlt, hgr, hsz, hen⟩
  · refine q_val F rfl rfl hN (by simp [execOp, F.ev hx, hrun, Result.andThen]) fun a' F' => done (fun x => ⟨fun h => ((hm x).1 h).1, fun h => (hm x).2 ⟨h, hl _⟩⟩) hn (by omega) a' F'
  · obtain ⟨x, rfl, rfl, hwf⟩ := Maps.keyOf_int_inv hk hkey
    have hy : y = (.held v, []) := by simp only [heldElem, Option.some.injEq] at hv; exact hv.symm
    subst hy
    have E : Ev (fun z => z = jr) c w c w' := ⟨hgr.os, hgr.tape, hgr.output, hgr.size, fun _ _ => rfl, fun k hk hm => hgr.block k hk (fun e => hm (by injection e with e; rw [e]; exact h2))⟩
    have hx1 := hat x
    have hsome := hx1.has
    rw [hh _ hlk] at hsome
    obtain ⟨y, hy⟩ := Option.isSome_iff_exists.1 hsome.symm
    rw [hy] at hx1
    obtain ⟨g1, cs, g2, g3⟩ := hx1
    have hve : v = mk cs := by
      have h3 := hat1 (.held undef)
      rw [g2] at h3
      injection h3 with h3
      exact h3.symm
    subst hve
    have hleft : ∀ y, (left (.int q y) && !(Lit.int q y).sameKey (.int q x)) = false ↔ left (.int q y) = false ∨ y = x := fun y => by
      by_cases e : y = x
      · subst e
        rw [WideAt.sameKey_self (show WideAt.IsKeyLit (.int q y) from trivial)]
        simp
      · have : (Lit.int q y).sameKey (.int q x) = false := by
          cases hs : (Lit.int q y).sameKey (.int q x)
          · rfl
          · have := WideAt.sameKey_eq hs; injection this with _ h; exact absurd h e
        rw [this]; simp [e]
    have hnx : x ∉ ks := fun hx => by have := ((hm x).1 hx).2; rw [hlk] at this; cases this
    refine q_val F rfl rfl hN (by simp [execOp, F.ev hx, hrun, Result.andThen]) fun a' F' => more x y cs w' cnt' a' hy hnx ⟨h1, h2, D0, _, hrg1, fun k => (hat k).ev E hij, hs, ?_, fun z => ?_, fun kl h => hh kl (by simp only [Bool.and_eq_true] at h; exact h.1), ?_⟩ hlt E hsz (e.ev g3 E hij) hwf hen F'
    · refine List.nodup_append.2 ⟨hn, by simp, fun y h1 z h2 e => ?_⟩
      simp only [List.mem_singleton] at h2
      subst h2; subst e
      exact hnx h1
    · rw [List.mem_append, hm, List.mem_singleton, hleft]
      constructor
      · rintro (⟨h1, h2⟩ | rfl)
        · exact ⟨h1, .inl h2⟩
        · exact ⟨by rw [hy]; rfl, .inr rfl⟩
      · rintro ⟨h1, h2 | h2⟩
        · exact .inl ⟨h1, h2⟩
        · exact .inr h2
    · simp only [List.length_append, List.length_cons, List.length_nil]; omega
theorem r_entry (F : Fr a N L D) (hx : ev L x = some u) (hrun : (Instr.entry u).run P w = .ok v w) : (execOp a.eval { dst := d, op := .entry x, type := ty, pos := pos, after := af, guard := gd }).run P w = .ok (.value v) w := by
  simp [execOp, F.ev hx, hrun, Result.andThen]
end
/-! ### keys, rising -/
theorem mem_keys {β : Type} (o : MkV β) (n x : Int) : x ∈ o.keys n ↔ (0 ≤ x ∧ x < n) ∧ (o.f x).isSome = true := by
  unfold MkV.keys
  rw [List.mem_filter, List.mem_map]
  constructor
  · rintro ⟨⟨i, hi, rfl⟩, h⟩
    exact ⟨by have := List.mem_range.1 hi; omega, h⟩
  · rintro ⟨h, h2⟩
    exact ⟨⟨x.toNat, List.mem_range.2 (by omega), by omega⟩, h2⟩
theorem keys_rise {β : Type} (o : MkV β) (n : Int) : (o.keys n).Pairwise (· < ·) := by
  unfold MkV.keys
  refine List.Pairwise.filter _ ?_
  rw [List.pairwise_map]
  exact List.pairwise_lt_range.imp (fun h => by omega)
theorem sub_perm {α : Type} [DecidableEq α] : ∀ {l m : List α}, l.Nodup → (∀ x ∈ l, x ∈ m) → m.length ≤ l.length → l.Perm m
  | [], m, _, _, h => by
    have e : m = [] := List.eq_nil_of_length_eq_zero (by simpa using h)
    subst e; exact List.Perm.refl _
  | x :: l, m, hn, hs, hl => by
    obtain ⟨h1, h2⟩ := List.nodup_cons.1 hn
    have hx := hs x (by simp)
    have hp := List.perm_cons_erase hx
    have hlen : (m.erase x).length = m.length - 1 := List.length_erase_of_mem hx
    refine (List.Perm.cons x (sub_perm h2 (fun y hy => ?_) (by simp at hl; omega))).trans hp.symm
    have hy' := hs y (by simp [hy])
    exact (List.mem_erase_of_ne (fun e => h1 (by rw [← e]; exact hy))).2 hy'
theorem rising_nodup : ∀ {l : List Int}, l.Pairwise (· < ·) → l.Nodup := fun h => h.imp fun h => by omega
/-- the keys that a range has come to, if the told ones are as many -/
theorem keys_perm {β : Type} {o : MkV β} {n : Int} {ks : List Int} (hm : ∀ x, x ∈ ks ↔ (o.f x).isSome = true) (hl : (ks.length : Int) ≤ o.len) (hk : ((o.keys n).length : Int) = o.len) : (o.keys n).Perm ks :=
  sub_perm (rising_nodup (keys_rise o n)) (fun x hx => (hm x).2 ((mem_keys o n x).1 hx).2) (by omega)
theorem perm_rising : ∀ {l m : List Int}, l.Pairwise (· < ·) → m.Pairwise (· < ·) → l.Perm m → l = m
  | [], m, _, _, h => (List.nil_perm.1 h).symm
  | x :: l, [], _, _, h => by have := h.length_eq; simp at this
  | x :: l, y :: m, hl, hm, h => by
    obtain ⟨h1, h2⟩ := List.pairwise_cons.1 hl
    obtain ⟨h3, h4⟩ := List.pairwise_cons.1 hm
    have hxy : x = y := by
      rcases List.mem_cons.1 (h.mem_iff.1 (show x ∈ x :: l by simp)) with e | e
      · exact e
      · rcases List.mem_cons.1 (h.mem_iff.2 (show y ∈ y :: m by simp)) with e2 | e2
        · exact e2.symm
        · have := h3 x e; have := h1 y e2; omega
    subst hxy
    rw [perm_rising h2 h4 (List.perm_cons x |>.1 h)]
theorem nodup_sub_length {α : Type} [DecidableEq α] : ∀ {l m : List α}, l.Nodup → (∀ x ∈ l, x ∈ m) → l.length ≤ m.length
  | [], m, _, _ => Nat.zero_le _
  | x :: l, m, hn, hs => by
    obtain ⟨h1, h2⟩ := List.nodup_cons.1 hn
    have hx := hs x (by simp)
    have hlen : (m.erase x).length = m.length - 1 := List.length_erase_of_mem hx
    have hpos : 0 < m.length := List.length_pos_of_mem hx
    have := nodup_sub_length (m := m.erase x) h2 (fun y hy => (List.mem_erase_of_ne (fun e => h1 (by rw [← e]; exact hy))).2 (hs y (by simp [hy])))
    simp only [List.length_cons]; omega
def litInt : Lit → Option Int
  | .int _ n => some n
  | _ => none
theorem has_count {D : DataW Value} {q : IntKind} {ks : List Int} (hn : ks.Nodup) (h : ∀ k ∈ ks, Maps.has D (.int q k) = true) : ks.length ≤ Maps.size D := by
  cases D with
  | map es =>
    rw [Maps.size_eq]
    refine Nat.le_trans (nodup_sub_length (m := es.filterMap fun p => litInt p.1) hn fun k hk => ?_) (List.length_filterMap_le _ _)
    have := h k hk
    rw [Maps.has_eq, List.any_eq_true] at this
    obtain ⟨p, hp, hs⟩ := this
    exact List.mem_filterMap.2 ⟨p, hp, by rw [WideAt.sameKey_eq hs]; rfl⟩
  | _ => cases ks with
    | nil => exact Nat.zero_le _
    | cons k ks => have := h k (by simp); cases this
theorem MK.count {β : Type} {q : IntKind} {K : TypeId} {e : Go.Proofs.Ytdlokohmdnkdoaa.G.K β} {mk : List Value → Value} {P : Program} {j i : Nat} {c : Nat → Nat} {w : World} {p : Option Addr} {o : MkV β} (h : MK q K e mk P j i c w p o) {l : List Int} (hn : l.Nodup) (hs : ∀ k ∈ l, (o.f k).isSome = true) : (l.length : Int) ≤ o.len := by
  obtain ⟨a0, rfl, hc, D0, hD, hsz, hat⟩ := h
  have := has_count (D := D0) (q := q) hn fun k hk => by rw [(hat k).has]; exact hs k hk
  omega
/-- if the told keys are as many as there are, each is told -/
theorem MK.told {β : Type} {q : IntKind} {K : TypeId} {e : Go.Proofs.Ytdlokohmdnkdoaa.G.K β} {mk : List Value → Value} {P : Program} {j i : Nat} {c : Nat → Nat} {w : World} {p : Option Addr} {o : MkV β} (h : MK q K e mk P j i c w p o) {n : Int} (hk : ((o.keys n).length : Int) = o.len) {x : Int} (hx : (o.f x).isSome = true) : x ∈ o.keys n := by
  refine Classical.byContradiction fun hc => ?_
  have := h.count (l := x :: o.keys n) (List.nodup_cons.2 ⟨hc, rising_nodup (keys_rise o n)⟩) fun k hk => by
    rcases List.mem_cons.1 hk with e | e
    · rw [e]; exact hx
    · exact ((mem_keys o n k).1 e).2
  simp only [List.length_cons] at this
  omega
end Go.Proofs.Ytdlokohmdnkdoaa.G
/-! slices.SortFunc of letters, by their numbers. -/
namespace Go.Proofs.Ytdlokohmdnkdoaa.G
open Go Go.RowKit Go.Shelf Go.Sort Go.Lib
set_option linter.unusedVariables false
set_option linter.unusedSimpArgs false
set_option maxRecDepth 100000 in
set_option maxHeartbeats 2000000 in
theorem closure (x y f1 f2 t1 t2 : Int) (v1 v2 : Value) (W : World) : Calls Try.prog 34 #[.agg #[.int .i64 x, .int .i64 f1, .int .i64 t1, v1], .agg #[.int .i64 y, .int .i64 f2, .int .i64 t2, v2]] W fun e w' => e = .returned (.int .i64 (IntKind.i64.wrap (x - y))) ∧ ∃ q os', w' = grow (W.drewN q) os' := by
  go_enter Try.func34, Try.ntmps34
  go_wp2
  go_ret
  refine ⟨by rw [Go.IntWalk.i64_left]; rfl, 0, #[.cells #[.int .i64 x, .int .i64 f1, .int .i64 t1, v1] 40, .cells #[.int .i64 y, .int .i64 f2, .int .i64 t2, v2] 40], ?_⟩
  rw [alloc_eq_grow, alloc_eq_grow, grow_grow]
  rfl
theorem sub_block {cs : List Value} {n sz : Nat} {q : Nat} (hq : q < sz) (u : List Value) (h : (cs.drop (n * sz)).take sz = u) : cs[n * sz + q]? = u[q]? := by
  rw [← h, List.getElem?_take_of_lt hq, List.getElem?_drop]
set_option maxHeartbeats 2000000 in
theorem sort_letters {m : Nat} {c0 : Nat → Nat} {w0 : World} {j1 : Nat} {A2 : Option Addr} {C3 : Nat} {xs : List api_Letter} (B0 : CB m c0 w0) (h4 : SL true K_api_Letter j1 0 c0 w0 A2 C3 xs) (bj1 : 0 < j1 ∧ j1 < m) (hs : xs.length < 4611686018427387904) (hb : ∀ x ∈ xs, 0 ≤ x.Number ∧ x.Number ≤ 1099511627776) (hn : (xs.map (·.Number)).Nodup) :
    Calls Try.prog 33 #[.slice A2 xs.length C3, .func (.func 34) #[] #[]] w0 (fun e w_ => ∃ (c_ : Nat → Nat) (ys : List api_Letter), e = .returned (.tuple #[]) ∧ Ev (fun x => x = j1) c0 w0 c_ w_ ∧ CB m c_ w_ ∧ SL true K_api_Letter j1 0 c_ w_ A2 C3 ys ∧ ys.Perm xs ∧ (ys.map (·.Number)).Pairwise (· < ·)) := by
  by_cases hnil : xs = []
  · subst hnil
    refine (AnyF.slices_SortFunc_none Try.sortLetters A2 C3 _ w0).mono ?_
    rintro e w' ⟨rfl, rfl⟩
    exact ⟨c0, [], rfl, Ev.refl, B0, h4, List.Perm.refl _, by simp⟩
  obtain ⟨l, hl⟩ : ∃ l, xs.length = l + 1 := ⟨xs.length - 1, by have := List.length_pos_iff.2 hnil; omega⟩
  obtain ⟨cs, h2, h3, hcl, hrow, hr⟩ := h4
  have hcl : cs.length = C3 * 4 := hcl
  rcases hrow with rfl | ⟨p, rfl, hat⟩
  · simp at hcl; omega
  -- the elements by their places
  let en : Fin (l + 1) → List Value := fun k => (cs.drop (k.val * 4)).take 4
  let at_ : Fin (l + 1) → api_Letter := fun k => xs.getD k.val default
  have hat_ : ∀ k : Fin (l + 1), ∃ (A1 : Option Addr) (C2 : Nat), en k = [.int .i64 (at_ k).Number, .int .i64 (at_ k).From, .int .i64 (at_ k).To, .slice A1 (at_ k).Data.length C2] ∧ SL false (Kint .u8) 0 0 c0 w0 A1 C2 (at_ k).Data := fun k => by
    have hk : k.val < xs.length := by have := k.isLt; omega
    have e : at_ k = xs[k.val] := by show xs.getD k.val default = _; rw [List.getD_eq_getElem?_getD, List.getElem?_eq_getElem hk]; rfl
    rw [e]
    exact hr k.val hk
  have hin : ∀ k, 0 ≤ (at_ k).Number ∧ (at_ k).Number ≤ 1099511627776 := fun k => by
    have hk : k.val < xs.length := by have := k.isLt; omega
    refine hb _ ?_
    show xs.getD k.val default ∈ xs
    rw [List.getD_eq_getElem?_getD, List.getElem?_eq_getElem hk]
    exact List.getElem_mem _
  have hk4 : ∀ k, (en k).length = 4 := fun k => by obtain ⟨A1, C2, e, _⟩ := hat_ k; rw [e]; rfl
  have h1 : ∀ k, ∀ v ∈ en k, v.oneCell' = true := fun k v hv => by
    obtain ⟨A1, C2, e, _⟩ := hat_ k
    rw [e] at hv
    exact one_all (us := [.int .i64 (at_ k).Number, .int .i64 (at_ k).From, .int .i64 (at_ k).To, .slice A1 (at_ k).Data.length C2]) rfl v hv
  let cf : Fin (l + 1) → Fin (l + 1) → Int := fun x y => IntKind.i64.wrap ((at_ x).Number - (at_ y).Number)
  have hcf : ∀ x y, cf x y = (at_ x).Number - (at_ y).Number := fun x y => by
    show IntKind.i64.wrap _ = _
    have := hin x; have := hin y
    rw [IntKind.wrap_i64]; omega
  have hlt : ∀ x y, ltOf cf x y = decide ((at_ x).Number < (at_ y).Number) := fun x y => by
    unfold ltOf
    rw [hcf]
    congr 1
    exact propext ⟨fun h => by omega, fun h => by omega⟩
  have swo : SWO (ltOf cf) := {
    irrefl := fun x => by rw [hlt]; simp
    trans := fun x y z h1 h2 => by rw [hlt] at *; simp at *; omega
    ntrans := fun x y z h1 h2 => by rw [hlt] at *; simp at *; omega }
  have tot : ∀ x y, ltOf cf x y = false → ltOf cf y x = false → x = y := fun x y g1 g2 => by
    rw [hlt] at g1 g2
    simp at g1 g2
    have hx : x.val < xs.length := by have := x.isLt; omega
    have hy : y.val < xs.length := by have := y.isLt; omega
    have ex : at_ x = xs[x.val] := by show xs.getD x.val default = _; rw [List.getD_eq_getElem?_getD, List.getElem?_eq_getElem hx]; rfl
    have ey : at_ y = xs[y.val] := by show xs.getD y.val default = _; rw [List.getD_eq_getElem?_getD, List.getElem?_eq_getElem hy]; rfl
    rw [ex, ey] at g1 g2
    have e : (xs.map (·.Number))[x.val]'(by simpa using hx) = (xs.map (·.Number))[y.val]'(by simpa using hy) := by simp; omega
    exact Fin.ext ((List.getElem_inj hn).1 e)
  let d : Array (Fin (l + 1)) := (List.finRange (l + 1)).toArray
  have hd : d.size = l + 1 := by simp [d]
  have hdk : ∀ k (h : k < d.size), d[k]! = ⟨k, by omega⟩ := fun k h => by
    rw [getElem!_pos d k h]; simp [d]
  have hat' := hat
  obtain ⟨b, off, cur, ty, fz, rfl, hbk, hc, hcells, hfree⟩ := hat
  have hlt0 := lt_of_get hbk
  have hlen4 : xs.length * 4 ≤ cs.length := by rw [hcl]; exact Nat.mul_le_mul_right _ h2
  have flat : ∀ t, t < (l + 1) * 4 → (flatK en 4 d)[t]! = cs.getD t undef := fun t ht => by
    rw [get_flatK _ _ _ _ (by rw [hd]; exact ht), hdk _ (by rw [hd]; omega)]
    show ((cs.drop (t / 4 * 4)).take 4)[t % 4]! = _
    have e := sub_block (cs := cs) (n := t / 4) (sz := 4) (q := t % 4) (Nat.mod_lt _ (by decide)) _ rfl
    have e3 : t / 4 * 4 + t % 4 = t := Nat.div_add_mod' t 4
    rw [e3] at e
    rw [List.getD_eq_getElem?_getD, e, List.getElem?_eq_getElem (by simp; omega), getElem!_pos]
    rfl
  have hH : HoldsK en 4 w0 b off d := fun t ht => by
    have ht' : t < (l + 1) * 4 := by rw [size_flatK, hd] at ht; exact ht
    rw [flat t ht']
    refine ⟨?_, ?_⟩
    · rw [← add_eq, hat'.cell (List.getElem?_eq_getElem (by omega))]
      rw [List.getD_eq_getElem?_getD, List.getElem?_eq_getElem (by omega)]
      rfl
    · rw [← add_eq]; exact hat'.free (by omega)
  have eg : ∀ args w, (callFunc 34 args).run Try.prog w = .ok (.enter 34 args) w := enters_of Try.func34 (by kernel_rfl) rfl
  have hcmp : CmpLays Try.prog 34 #[] en 4 cf b off d.size w0 := fun mm os dk _ x y => by
    obtain ⟨A1, C1, e1, _⟩ := hat_ x
    obtain ⟨A3, C4, e2, _⟩ := hat_ y
    rw [e1, e2]
    exact closure (at_ x).Number (at_ y).Number _ _ _ _ _ _ _
  have hcall := AnyQ.slices_SortFunc_total Try.sortLetters 4 Try.isAgg40 Try.sizeOf40 en hk4 h1 cf swo 34 #[] b off C3 d w0 eg hcmp hH hlt0 (by rw [hd]; omega) tot
  rw [hl, ← hd]
  change Calls Try.prog 33 #[.slice (some ⟨b, off, none⟩) d.size C3, .func (.func 34) #[] #[]] w0 _ at hcall
  refine hcall.mono ?_
  rintro e w' ⟨rfl, n, os, rfl⟩
  generalize hσ : (d.toList.mergeSort fun x y => !ltOf cf y x) = σ
  have hperm : σ.Perm (List.finRange (l + 1)) := by rw [← hσ]; exact List.mergeSort_perm _ _
  have hsl : σ.length = l + 1 := by rw [hperm.length_eq]; simp
  have hfs : (flatK en 4 σ.toArray).size = (l + 1) * 4 := by rw [size_flatK]; simp [hsl]
  have old : ∀ k, k < w0.heap.size → b ≠ k → (sortWorldK en 4 w0 b off n σ.toArray os).heap[k]? = w0.heap[k]? := fun k hk hne => by
    unfold sortWorldK
    rw [heap_grow_old _ _ (by simpa [putRowK, putRow, mapBlock, Sort.ahead] using hk)]
    simp [putRowK, putRow, mapBlock, Sort.ahead, Array.getElem?_modify, hne]
  have new : (sortWorldK en 4 w0 b off n σ.toArray os).heap[b]? = some (.cells (putCells id off (flatK en 4 σ.toArray) cur) ty fz) := by
    unfold sortWorldK
    rw [heap_grow_old _ _ (by simpa [putRowK, putRow, mapBlock, Sort.ahead] using hlt0)]
    simp [putRowK, putRow, mapBlock, Sort.ahead, Array.getElem?_modify, hbk, onCells]
  have hE : Ev (fun x => x = j1) c0 w0 (fun k => if k < w0.heap.size then c0 k else j1) (sortWorldK en 4 w0 b off n σ.toArray os) := ⟨rfl, rfl, rfl, by simp [sortWorldK, grow, putRowK, putRow, mapBlock, Sort.ahead], fun k hk => if_pos hk, fun k hk hm => old k hk (fun q => hm (by rw [← q]; exact hc))⟩
  refine ⟨_, σ.map at_, rfl, hE, fun k _ => ?_, ?_, ?_, ?_⟩
  · show (if k < w0.heap.size then c0 k else j1) < m
    split
    · exact B0 k (by assumption)
    · exact bj1.2
  · have hcur : ∀ t, t < C3 * 4 → off + t < cur.size := fun t ht => by
      have := hcells t (by omega)
      rw [List.getElem?_eq_getElem (by omega)] at this
      exact (Array.getElem?_eq_some_iff.1 this).1
    refine ⟨(flatK en 4 σ.toArray).toList ++ cs.drop ((l + 1) * 4), by simp [hsl]; omega, h3, by simp only [List.length_append, Array.length_toList, hfs, List.length_drop]; show _ = C3 * 4; omega, .inr ⟨_, rfl, b, off, _, ty, fz, rfl, new, by show (if b < w0.heap.size then c0 b else j1) = j1; rw [if_pos hlt0]; exact hc, fun k hk => ?_, fun q k hk => hfree q k (by simp only [List.length_append, Array.length_toList, hfs, List.length_drop] at hk; omega)⟩, fun k hk => ?_⟩
    · simp only [List.length_append, Array.length_toList, hfs, List.length_drop] at hk
      simp only [putCells, Array.getElem?_mapIdx]
      have hck := hcur k (by omega)
      rw [Array.getElem?_eq_getElem hck]
      simp only [Option.map_some, hfs]
      by_cases cc : k < (l + 1) * 4
      · rw [if_pos (by omega), List.getElem?_append_left (by rw [Array.length_toList, hfs]; exact cc)]
        have e : off + k - off = k := by omega
        rw [e, Array.getElem?_toList, Array.getElem?_eq_getElem (by rw [hfs]; exact cc), getElem!_pos _ k (by rw [hfs]; exact cc)]
        rfl
      · rw [if_neg (by omega), List.getElem?_append_right (by rw [Array.length_toList, hfs]; omega), List.getElem?_drop, Array.length_toList, hfs]
        have e : (l + 1) * 4 + (k - (l + 1) * 4) = k := by omega
        rw [e, ← hcells k (by omega), Array.getElem?_eq_getElem hck]
    · have hk' : k < σ.length := by simpa using hk
      show K_api_Letter.rep 0 _ _ ((((flatK en 4 σ.toArray).toList ++ cs.drop ((l + 1) * 4)).drop (k * 4)).take 4) (σ.map at_)[k]
      have hle : (k + 1) * 4 ≤ (l + 1) * 4 := Nat.mul_le_mul_right _ (by omega)
      have e1 : (((flatK en 4 σ.toArray).toList ++ cs.drop ((l + 1) * 4)).drop (k * 4)).take 4 = en σ[k] := by
        apply List.ext_getElem?
        intro q
        by_cases hq : q < 4
        · rw [List.getElem?_take_of_lt hq, List.getElem?_drop, List.getElem?_append_left (by rw [Array.length_toList, hfs]; omega), Array.getElem?_toList, Array.getElem?_eq_getElem (by rw [hfs]; omega)]
          have e2 := get_flatK en 4 σ.toArray (k * 4 + q) (by simp [hsl]; omega)
          rw [getElem!_pos _ _ (by rw [hfs]; omega)] at e2
          rw [e2]
          have e3 : (k * 4 + q) / 4 = k := by omega
          have e4 : (k * 4 + q) % 4 = q := by omega
          rw [e3, e4]
          have e5 : σ.toArray[k]! = σ[k] := by rw [getElem!_pos _ k (by simpa using hk')]; simp
          rw [e5, getElem!_pos _ q (by rw [hk4]; exact hq), List.getElem?_eq_getElem (by rw [hk4]; exact hq)]
        · rw [List.getElem?_eq_none (by simp; omega), List.getElem?_eq_none (by rw [hk4]; omega)]
      rw [e1, List.getElem_map]
      obtain ⟨A1, C2, e, hS⟩ := hat_ σ[k]
      exact ⟨A1, C2, e, hS.ev hE (by omega) (by omega)⟩
  · have e1 : xs = (List.finRange (l + 1)).map at_ := by
      apply List.ext_getElem
      · simp [hl]
      · intro k a b
        simp only [List.getElem_map, List.getElem_finRange]
        show _ = xs.getD k default
        rw [List.getD_eq_getElem?_getD, List.getElem?_eq_getElem a]
        rfl
    have := hperm.map at_
    rw [← e1] at this
    exact this
  · rw [List.map_map, List.pairwise_map]
    have hsrt : σ.Pairwise (fun x y => (!ltOf cf y x) = true) := by
      rw [← hσ]
      exact List.pairwise_mergeSort (le := fun x y => !ltOf cf y x) (fun a b c g1 g2 => by rw [hlt] at *; simp at *; omega) (fun a b => by rw [hlt, hlt]; simp; omega) _
    have hnd : σ.Nodup := hperm.nodup_iff.2 (List.nodup_finRange _)
    refine (List.Pairwise.and hsrt hnd).imp fun {x y} hxy => ?_
    obtain ⟨g1, g2⟩ := hxy
    have g3 : ltOf cf y x = false := by simpa using g1
    cases hq : ltOf cf x y with
    | true => rw [hlt] at hq; exact of_decide_eq_true hq
    | false => exact absurd (tot x y hq g3) g2
end Go.Proofs.Ytdlokohmdnkdoaa.G
/-! Told by hand: slices.Clone of bytes. -/
namespace Go.Proofs.Ytdlokohmdnkdoaa.G
open Go Go.RowKit
set_option linter.unusedVariables false
set_option linter.unusedSimpArgs false
section
variable {P : Program} {a : Act} {N : Nat} {L : List (Nat × Value)} {D : List Deferred} {w w' : World} {v u : Value} {x y : Operand} {d : Option Tmp} {t ty : TypeId} {pos : String} {af : Array Edge} {gd : Option (Nat × Bool)}
theorem r_sleq (F : Fr a N L D) {A : Option Addr} {n c : Nat} {e yt : TypeId} (hu : P.underlying t = some (.slice e)) (hx : ev L x = some (.slice A n c)) (hy : ev L y = some (.slice none 0 0)) : (execOp a.eval { dst := d, op := .binOp .eql t x y yt, type := ty, pos := pos, after := af, guard := gd }).run P w = .ok (.value (.bool A.isNone)) w := by
  have h : (binOp .eql t (.slice A n c) (.slice none 0 0)).run P w = .ok (.bool A.isNone) w := by
    simp only [binOp]
    simp [Op.equal, Op.maxDepth, Lib.run_equalIn_slice_nil w 9999 t e A n c 0 0 hu]
  simp [execOp, F.ev hx, F.ev hy, eqGuard, h]
end
theorem SL.none_nil {α : Type} {e : K α} {own : Bool} {j i : Nat} {c : Nat → Nat} {w : World} {cap : Nat} {xs : List α} (h : SL own e j i c w none cap xs) : xs = [] := by
  obtain ⟨cs, h2, h3, h4, h5, h6⟩ := h
  rcases h5 with h5 | ⟨a, e, _⟩
  · subst h5
    have := e.pos
    have h : cap * e.sz = 0 := h4.symm
    rcases Nat.mul_eq_zero.1 h with h | h
    · exact List.eq_nil_of_length_eq_zero (by omega)
    · omega
  · cases e
theorem slices_Clone.calls {m : Nat} {c0 : Nat → Nat} {w0 : World} {j1 : Nat} {A2 : Option Addr} {C3 : Nat} {a1 : List Int} (hm0 : 0 < m) (B0 : CB m c0 w0) (h4 : SL false (Kint .u8) j1 0 c0 w0 A2 C3 a1) (bj1 : j1 < m) (jr : Nat) (bjr : jr < m) (r : List Int) (H : slices_Clone.f a1 = some r) :
    Calls Try.prog 46 #[.slice A2 a1.length C3] w0 (fun e w_ => ∃ (c_ : Nat → Nat) (A0_ : Option Addr) (C0_ : Nat), e = .returned (.slice A0_ r.length C0_) ∧ Ev (fun x => False) c0 w0 c_ w_ ∧ CB m c_ w_ ∧ SL true (Kint .u8) jr 0 c_ w_ A0_ C0_ r) := by
  unfold slices_Clone.f at H
  obtain ⟨g, H⟩ := ifN H
  have H := Option.some.inj H
  subst H
  have B := B0.mono (show m ≤ m + 2 by omega)
  have E : Ev (fun x => False ∨ m ≤ x) c0 w0 c0 w0 := Ev.refl
  refine enter (N := 8) (l := [.slice A2 a1.length C3]) Try.func46 rfl rfl (Nat.le_of_ble_eq_true rfl) fun a F => ?_
  refine wp_seq_k fun K5 hK5 => ?_
  refine reg ?_
  refine q_val F rfl rfl (by decide) (r_assign F rfl) fun a F => ?_
  refine nil ?_
  refine hK5 _ _ ?_
  refine wp_seq_k fun K6 hK6 => ?_
  refine wp_seq_k fun K7 hK7 => ?_
  refine reg ?_
  refine q_val F rfl rfl (by decide) (r_move F rfl) fun a F => ?_
  refine q_val F rfl rfl (by decide) (r_sleq F Try.underlying27 rfl rfl) fun a F => ?_
  refine nil ?_
  refine hK7 _ _ ?_
  cases A2 with
  | none =>
    have e := h4.none_nil
    subst e
    refine wp_cond_true (F.ev rfl) ?_
    refine wp_seq_k fun K8 hK8 => ?_
    refine reg ?_
    refine q_val F rfl rfl (by decide) (r_assign F rfl) fun a F => ?_
    refine nil ?_
    refine hK8 _ _ ?_
    refine wp_ret ?_
    refine thenR ?_
    refine out1 F rfl rfl ?_
    exact ⟨c0, none, 0, rfl, Ev.refl, B0, SL.nil⟩
  | some q =>
    refine wp_cond_false (F.ev rfl) ?_
    refine wp_skip ?_
    refine hK6 _ _ ?_
    refine wp_seq_k fun K9 hK9 => ?_
    refine reg ?_
    refine q_eff F rfl rfl (by decide) (e_buildSlice (e := 5) (c := c0) (k := Kint .u8) (i := 0) F [] [] ([] : List Int) (by exact trivial) (fun w => by kernel_rfl) rfl (by decide) rfl trivial (fun q => q) (m + 1)) ?_
    rintro v w1 a ⟨c1, A1, C1, rfl, E1, h1, B1⟩ F
    have B := B1 _ B (by omega)
    have h4 := SL.ev h4 E1 (fun q => q.elim) (fun q => q.elim)
    have E := E.trans E1 (fun x q => q.elim)
    refine q_val F rfl rfl (by decide) (r_move F rfl) fun a F => ?_
    refine q_eff F rfl rfl (by decide) (e_append (k := Kint .u8) (xs := []) (ys := a1) (c := c1) (j := m + 1) (i := 0) F et_27 rfl rfl h1 h4 (by simpa using g) (by have g_ := g; unfold maxLen; simp at g_ ⊢; omega) (by omega)) ?_
    rintro v w2 a ⟨c2, A3, C4, rfl, E2, h2, B2⟩ F
    have B := B2 _ B (by omega)
    have E := E.trans E2 (fun x q => by replace q : x = m + 1 := q; show False ∨ m ≤ x; omega)
    refine q_val F rfl rfl (by decide) (r_assign F rfl) fun a F => ?_
    refine nil ?_
    refine hK9 _ _ ?_
    refine wp_ret ?_
    refine out1 F rfl rfl ?_
    rw [List.nil_append] at h2 ⊢
    exact ⟨fun b_ => (fun x_ => if x_ = m + 1 then jr else if x_ < m then x_ else 0) (c2 b_), A3, C4, rfl, E.leave B0 (fun x_ => if x_ = m + 1 then jr else if x_ < m then x_ else 0) (by intro x_ hx_; show (if x_ = m + 1 then jr else if x_ < m then x_ else 0) = x_; ((repeat' split) <;> omega)), (fun b_ hb_ => by show (if (c2 b_) = m + 1 then jr else if (c2 b_) < m then (c2 b_) else 0) < m; ((repeat' split) <;> omega)), SL.rc h2 (fun k_ hk_ => by show (if (c2 k_) = m + 1 then jr else if (c2 k_) < m then (c2 k_) else 0) = _; rw [hk_]; ((repeat' split) <;> omega)) (fun k_ hk_ => by show (if (c2 k_) = m + 1 then jr else if (c2 k_) < m then (c2 k_) else 0) = _; rw [hk_]; ((repeat' split) <;> omega))⟩
end Go.Proofs.Ytdlokohmdnkdoaa.G
namespace Go.Proofs.Ytdlokohmdnkdoaa.G
open Go Go.RowKit
set_option linter.unusedVariables false
set_option linter.unusedSimpArgs false
set_option maxRecDepth 100000 in
set_option maxHeartbeats 4000000 in
theorem bag_own.calls {m : Nat} {c0 : Nat → Nat} {w0 : World} {A2 : Option Addr} {C3 : Nat} {a1 : api_Letter} (hm0 : 0 < m) (B0 : CB m c0 w0) (h4 : SL false (Kint .u8) 0 0 c0 w0 A2 C3 a1.Data) (r : api_Letter) (H : bag_own.f a1 = some r) : Calls Try.prog 32 #[.agg #[.int .i64 a1.Number, .int .i64 a1.From, .int .i64 a1.To, .slice A2 a1.Data.length C3]] w0 (fun e w_ => ∃ (c_ : Nat → Nat) (A0_ : Option Addr) (C0_ : Nat), e = .returned (.agg #[.int .i64 r.Number, .int .i64 r.From, .int .i64 r.To, .slice A0_ r.Data.length C0_]) ∧ Ev (fun x => False) c0 w0 c_ w_ ∧ CB m c_ w_ ∧ SL false (Kint .u8) 0 0 c_ w_ A0_ C0_ r.Data) := by
  unfold bag_own.f at H
  have B := B0.mono (show m ≤ m + 3 by omega)
  have E : Ev (fun x => False ∨ m ≤ x) c0 w0 c0 w0 := Ev.refl
  refine enter (N := 8) (l := [.agg #[.int .i64 a1.Number, .int .i64 a1.From, .int .i64 a1.To, .slice A2 a1.Data.length C3]]) Try.func32 rfl rfl (Nat.le_of_ble_eq_true rfl) fun a F => ?_
  refine wp_seq_k fun K5 hK5 => ?_
  refine reg ?_
  refine q_eff F rfl rfl (by decide) (e_box F (v := .agg #[.int .i64 a1.Number, .int .i64 a1.From, .int .i64 a1.To, .slice A2 a1.Data.length C3]) rfl c0 (m + 1)) ?_
  rintro v w7 a ⟨c6, qa8, rfl, E9, h10, B11⟩ F
  replace B := B11 _ B (Nat.add_lt_add_left (by decide) m)
  replace h4 := SL.ev h4 E9 (fun q => q.elim) (fun q => q.elim)
  replace E := E.trans E9 (fun x q => q.elim)
  replace h10 : AT true (m + 1) c6 w7 qa8 [.int .i64 a1.Number, .int .i64 a1.From, .int .i64 a1.To, .slice A2 a1.Data.length C3] := h10
  refine q_eff F rfl rfl (by decide) (e_alloc F zv_40 c6 (m + 2)) ?_
  rintro v w14 a ⟨c13, qa15, rfl, E16, h17, B18⟩ F
  replace B := B18 _ B (Nat.add_lt_add_left (by decide) m)
  replace h4 := SL.ev h4 E16 (fun q => q.elim) (fun q => q.elim)
  replace h10 := AT.ev h10 E16 (fun q => q.elim)
  replace E := E.trans E16 (fun x q => q.elim)
  replace h17 : AT true (m + 2) c13 w14 qa15 [.int .i64 0, .int .i64 0, .int .i64 0, .slice none 0 0] := h17
  refine nil ?_
  refine hK5 _ _ ?_
  refine wp_seq_k fun K20 hK20 => ?_
  refine reg ?_
  refine q_val F rfl rfl (by decide) (r_fieldAddr F rfl ff_40_3) fun a F => ?_
  refine q_val F rfl rfl (by decide) (r_load F rfl ag_27 (AT.cell h10 rfl)) fun a F => ?_
  replace H := bind_some H
  obtain ⟨t21, q22, H⟩ := H
  refine q_call F rfl rfl (by decide) (r_call F Try.func46 rfl (by kernel_rfl) rfl) (slices_Clone.calls (m := m + 3) (Nat.add_pos_left hm0 _) B h4 (by omega) 0 (Nat.add_pos_left hm0 _) _ q22) ?_
  rintro e w24 ⟨c23, A27, C28, rfl, E25, B26, h29⟩
  refine ⟨_, rfl, fun a F => ?_⟩
  have B := B26
  replace h4 := SL.ev h4 E25 (fun q => q.elim) (fun q => q.elim)
  replace h10 := AT.ev h10 E25 (fun q => q.elim)
  replace h17 := AT.ev h17 E25 (fun q => q.elim)
  replace E := E.trans E25 (fun x q => q.elim)
  refine q_val F rfl rfl (by decide) (r_fieldAddr F rfl ff_40_3) fun a F => ?_
  refine q_eff0 F rfl rfl (e_store F rfl rfl sz_27 h10 (Nat.le_of_ble_eq_true rfl) rfl) ?_
  rintro w31 a ⟨E32, h10, Z33⟩ F
  replace B := B.size Z33
  replace h4 := SL.ev h4 E32 ne_zm ne_zm
  replace h17 := AT.ev h17 E32 (ne_mm (by decide))
  replace h29 := SL.ev h29 E32 ne_zm ne_zm
  replace E := E.trans E32 (fun x (q : x = m + 1) => Or.inr (le_col q))
  replace h10 : AT true (m + 1) c23 w31 qa8 [.int .i64 a1.Number, .int .i64 a1.From, .int .i64 a1.To, .slice A27 t21.length C28] := h10
  refine nil ?_
  refine hK20 _ _ ?_
  refine wp_seq_k fun K34 hK34 => ?_
  refine reg ?_
  refine q_val F rfl rfl (by decide) (r_loads (cs := [.int .i64 a1.Number, .int .i64 a1.From, .int .i64 a1.To, .slice A27 t21.length C28]) F rfl ag_40 sz_40 h10) fun a F => ?_
  refine q_eff0 F rfl rfl (e_storeN0 (us := [.int .i64 a1.Number, .int .i64 a1.From, .int .i64 a1.To, .slice A27 t21.length C28]) F rfl rfl sz_40 h17 (Nat.le_of_ble_eq_true rfl) (one_all rfl)) ?_
  rintro w35 a ⟨E36, h17, Z37⟩ F
  replace B := B.size Z37
  replace h4 := SL.ev h4 E36 ne_zm ne_zm
  replace h10 := AT.ev h10 E36 (ne_mm (by decide))
  replace h29 := SL.ev h29 E36 ne_zm ne_zm
  replace E := E.trans E36 (fun x (q : x = m + 2) => Or.inr (le_col q))
  replace h17 : AT true (m + 2) c23 w35 qa15 [.int .i64 a1.Number, .int .i64 a1.From, .int .i64 a1.To, .slice A27 t21.length C28] := h17
  refine nil ?_
  refine hK34 _ _ ?_
  refine wp_ret ?_
  replace H := Option.some.inj H
  subst H
  refine outR1 F rfl ⟨_, rfl, lv_agg (cs := [.int .i64 a1.Number, .int .i64 a1.From, .int .i64 a1.To, .slice A27 t21.length C28]) ag_40 sz_40 h17⟩ ?_
  exact ⟨fun b_ => (fun x_ => if x_ < m then x_ else 0) (c23 b_), A27, C28, rfl, E.leave B0 (fun x_ => if x_ < m then x_ else 0) (by intro x_ hx_; show (if x_ < m then x_ else 0) = x_; ((repeat' split) <;> omega)), (fun b_ hb_ => by show (if (c23 b_) < m then (c23 b_) else 0) < m; ((repeat' split) <;> omega)), SL.rc h29.r (fun k_ hk_ => by show (if (c23 k_) < m then (c23 k_) else 0) = _; rw [hk_]; ((repeat' split) <;> omega)) (fun k_ hk_ => by show (if (c23 k_) < m then (c23 k_) else 0) = _; rw [hk_]; ((repeat' split) <;> omega))⟩
end Go.Proofs.Ytdlokohmdnkdoaa.G
