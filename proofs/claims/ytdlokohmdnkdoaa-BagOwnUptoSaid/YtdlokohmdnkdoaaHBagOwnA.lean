/- Words and laws on which the row of 'BagOwn' hangs (its '..UptoSaid': bulk at most 1048576). -/
import GoSem.Claim
import Derived.WalkKit
import Derived.Orders
import Derived.OrdersHeld
import Derived.ArgAppend
import Derived.Lib.Hide
import Derived.Test.YtdlokohmdnkdoaaProg
import Derived.OrdersIn
import Derived.RangeFuncSeq
import Derived.RangeFuncCalls
import Derived.Laws.BytesArg
import Derived.Laws.BytesString
import Derived.Laws.OwnMore
import Derived.Laws.IdiomStrings
import Derived.MapKept
import Derived.Below
import Derived.Laws.Pointers
import Derived.KernelRfl
import Derived.Laws.MakeOwn
import Derived.RangeFuncLeaves
import Derived.RangeFuncNested
import Derived.RangeFuncBound
import Derived.Laws.CopyRow
import Derived.Lib.AppendZerosOnto
import Derived.Maps.OwnSet
import Derived.Laws.StructEq
import Derived.Maps.RangeWalk
namespace Go.Proofs.Ytdlokohmdnkdoaa.G
open Go
set_option linter.unusedVariables false
inductive Ctl (S X : Type) where
 | next (s : S)
 | done (x : X)
def loop {S X : Type} (f : S → Option (Ctl S X)) : Nat → S → Option X
 | 0, _ => none
 | n + 1, s => (f s).bind fun
  | .next s' => loop f n s'
  | .done x => some x
theorem loop_some {S X : Type} {f : S → Option (Ctl S X)} {k : Nat} {s : S} {x : X} (h : loop f k s = some x) :
  ∃ n ctl, k = n + 1 ∧ f s = some ctl ∧ (∀ s', ctl = .next s' → loop f n s' = some x) ∧ (∀ x', ctl = .done x' → x' = x) := by
 cases k with
 | zero => cases h
 | succ n =>
  unfold loop at h
  cases hf : f s with
  | none => rw [hf] at h; cases h
  | some ctl =>
   rw [hf] at h
   refine ⟨n, ctl, rfl, rfl, ?_, ?_⟩
   ·rintro s' rfl; exact h
   ·rintro x' rfl; exact Option.some.inj h
theorem bind_some {α β : Type} {x : Option α} {f : α → Option β} {r : β} (h : x.bind f = some r) : ∃ y, x = some y ∧ f y = some r := by
 cases x with
 | none => cases h
 | some y => exact ⟨y, rfl, h⟩
theorem ifN {β : Type} {p : Prop} [Decidable p] {x : Option β} {r : β} (h : (if p then x else none) = some r) : p ∧ x = some r := by
 split at h
 ·exact ⟨by assumption, h⟩
 ·cases h
theorem bfalse {b : Bool} (h : ¬ b = true) : b = false := by cases b <;> simp_all
def rd {α : Type} [Inhabited α] (xs : List α) (k : Int) : α := xs.getD k.toNat default
def sb (s : ByteArray) : List Int := s.data.toList.map fun b => (b.toNat : Int)
def Ctl.el {S X β : Type} (t : Ctl S X) (f : S → β) (g : X → β) : β := match t with
 | .next s => f s
 | .done x => g x
structure MpV (β : Type) where
 f : Int → Option β
 n : Nat
instance {β : Type} : Inhabited (MpV β) := ⟨⟨fun _ => none, 0⟩⟩
structure MkV (β : Type) where
 f : Int → Option β
 n : Nat
 len : Int
instance {β : Type} : Inhabited (MkV β) := ⟨⟨fun _ => none, 0, 0⟩⟩
def MkV.keys {β : Type} (o : MkV β) (n : Int) : List Int := ((List.range n.toNat).map fun i : Nat => (i : Int)).filter fun i => (o.f i).isSome
def MkV.put {β : Type} (o : MkV β) (k : Int) (x : β) : MkV β := ⟨fun i => if i = k then some x else o.f i, o.n + 1, if (o.f k).isSome then o.len else o.len + 1⟩
def MkV.del {β : Type} (o : MkV β) (k : Int) : MkV β := ⟨fun i => if i = k then none else o.f i, o.n, if (o.f k).isSome then o.len - 1 else o.len⟩
def rawI {β : Type} (k : IntKind) (v : Option (List Value)) (q : Nat) (F : Int → Option β) : Option β := match v with
 | none => none
 | some cs => match cs[q]? with
  | some (.int k' n) => if k' = k then F n else none
  | _ => none
theorem rawI_some {β : Type} {k : IntKind} {v : Option (List Value)} {q : Nat} {F : Int → Option β} {r : β} (h : rawI k v q F = some r) : ∃ n x, v = some x ∧ x[q]? = some (.int k n) ∧ F n = some r := by
 unfold rawI at h
 cases v with
 | none => cases h
 | some cs =>
  simp only at h
  split at h
  ·rename_i k' n hq
   by_cases c : k' = k
   ·rw [if_pos c] at h; subst c; exact ⟨n, cs, rfl, hq, h⟩
   ·rw [if_neg c] at h; cases h
  ·cases h
end Go.Proofs.Ytdlokohmdnkdoaa.G
namespace Go.Proofs.Ytdlokohmdnkdoaa.G
open Go
set_option linter.unusedVariables false
set_option linter.unusedSimpArgs false
structure api_Letter where
 Number : Int
 From : Int
 To : Int
 Data : List Int
deriving Inhabited, DecidableEq
structure api_Traffic where
 Sent : Int
 Twice : Int
 Delivered : Int
 Dropped : Int
 Lost : Int
deriving Inhabited, DecidableEq
structure haulagelaw20_Op where
 Who : Int
 Kind : Int
 Number : Int
 To : Int
 Data : List Int
deriving Inhabited, DecidableEq
structure Bag where
 under : MkV api_Letter
 next : Int
 told : api_Traffic
deriving Inhabited
structure Bg3 where
 Row : List api_Letter
 Next : Int
 Told : api_Traffic
deriving Inhabited
def slices_Clone.f (a1 : List Int) : Option (List Int) := if a1.length * 1 ≤ 140737488355328 then some a1 else none
def MkV.tidy (o : MkV api_Letter) (n : Int) : Prop := n ≤ 1000000000 ∧ ((o.keys n).length : Int) = o.len ∧ ∀ k ∈ o.keys n, ((o.f k).getD default).Number = k ∧ ((o.f k).getD default).Data.length ≤ 140737488355328
instance (o : MkV api_Letter) (n : Int) : Decidable (o.tidy n) := by unfold MkV.tidy; infer_instance
def MkV.all (o : MkV api_Letter) (n : Int) : List api_Letter := (o.keys n).map fun k => (o.f k).getD default
def bag_Bag_Waiting.f (o : Option Bag) : Option (List api_Letter) := match o with
 | none => some []
 | some b => if b.under.tidy b.next then some (b.under.all b.next) else none
def bag_Bag_For.f (o : Option Bag) (t : Int) : Option (List Int) := match o with
 | none => some []
 | some b => if b.under.tidy b.next then some ((b.under.keys b.next).filter fun k => decide (((b.under.f k).getD default).To = t)) else none
def bag_own.f (a1 : api_Letter) : Option api_Letter := (slices_Clone.f a1.Data).bind fun t22 => some (api_Letter.mk a1.Number a1.From a1.To t22)
def bag_New.f : Option (Option Bag) := some (some (Bag.mk (MkV.mk (fun _ => none) 0 0) 0 (api_Traffic.mk 0 0 0 0 0)))
def bag_Bag_put.f (a1 : Option Bag) (a6 : api_Letter) : Option (Int × (Option Bag)) := (a1).bind fun ob20 => ((bag_own.f (api_Letter.mk ob20.next a6.From a6.To a6.Data)).bind fun t34 => if (Lit.int .i64 ob20.next).wf = true ∧ ob20.under.n < 140737488355328 then (some (ob20.next, (some (Bag.mk (MkV.put ob20.under ob20.next t34) (IntKind.i64.wrap (ob20.next + 1)) ob20.told)))) else none)
def bag_Bag_room.f (a1 : Option Bag) : Option (Int × (Option Bag)) := (a1).bind fun ob9 => (if 65536 ≤ ob9.under.len then (some (201, (some (Bag.mk ob9.under ob9.next (api_Traffic.mk ob9.told.Sent ob9.told.Twice ob9.told.Delivered ob9.told.Dropped (IntKind.i64.wrap (ob9.told.Lost + 1))))))) else (some (0, a1)))
def bag_Bag_Send.j1 (a1 : Option Bag) (a6 : Int) (a7 : Int) (a8 : List Int) (b20 : Bool) : Option (Int × Int × (Option Bag)) := if b20 = true then (some (0, 2, a1)) else (if 524288 < (a8.length : Int) then (some (0, 3, a1)) else ((bag_Bag_room.f a1).bind fun t31 => if t31.1 = 0 then ((t31.2).bind fun ob43 => ((bag_Bag_put.f (some (Bag.mk ob43.under ob43.next (api_Traffic.mk (IntKind.i64.wrap (ob43.told.Sent + 1)) ob43.told.Twice ob43.told.Delivered ob43.told.Dropped ob43.told.Lost))) (api_Letter.mk 0 a6 a7 a8)).bind fun t56 => some (t56.1, 0, t56.2))) else (some (0, t31.1, t31.2))))
def bag_Bag_Send.f (a1 : Option Bag) (a6 : Int) (a7 : Int) (a8 : List Int) : Option (Int × Int × (Option Bag)) := if (Option.isNone a1) = true then (some (0, 1, a1)) else (if a6 < 0 then (bag_Bag_Send.j1 a1 a6 a7 a8 true) else (bag_Bag_Send.j1 a1 a6 a7 a8 (decide (a7 < 0))))
def bag_Bag_find.f (a1 : Option Bag) (a6 : Int) : Option (api_Letter × Int) := if (Option.isNone a1) = true then (some (api_Letter.mk 0 0 0 [], 1)) else ((a1).bind fun ob23 => (if (Lit.int .i64 a6).wf = true then (if ((ob23.under.f a6).isSome) = true then (some (((ob23.under.f a6).getD default), 0)) else (some (api_Letter.mk 0 0 0 [], 200))) else none))
def bag_Bag_Twice.f (a1 : Option Bag) (a6 : Int) : Option (Int × Int × (Option Bag)) := (bag_Bag_find.f a1 a6).bind fun t9 => if t9.2 = 0 then ((bag_Bag_room.f a1).bind fun t35 => if t35.1 = 0 then ((t35.2).bind fun ob47 => ((bag_Bag_put.f (some (Bag.mk ob47.under ob47.next (api_Traffic.mk ob47.told.Sent (IntKind.i64.wrap (ob47.told.Twice + 1)) ob47.told.Delivered ob47.told.Dropped ob47.told.Lost))) t9.1).bind fun t60 => some (t60.1, 0, t60.2))) else (some (0, t35.1, t35.2))) else (some (0, t9.2, a1))
def bag_Bag_Len.f (a1 : Option Bag) : Option Int := if (Option.isNone a1) = true then (some 0) else ((a1).bind fun ob12 => (some ob12.under.len))
def bag_Bag_Deliver.f (a1 : Option Bag) (a6 : Int) : Option (api_Letter × Int × (Option Bag)) := (bag_Bag_find.f a1 a6).bind fun t16 => if t16.2 = 0 then ((a1).bind fun ob44 => (if (Lit.int .i64 a6).wf = true then (some (t16.1, 0, (some (Bag.mk (MkV.del ob44.under a6) ob44.next (api_Traffic.mk ob44.told.Sent ob44.told.Twice (IntKind.i64.wrap (ob44.told.Delivered + 1)) ob44.told.Dropped ob44.told.Lost))))) else none)) else (some (api_Letter.mk 0 0 0 [], t16.2, a1))
def haulagelaw20_num.f (a1 : Int) : Option Int := some a1
def haulagelaw20_same.j2 : Option Bool := some true
def haulagelaw20_same.b1 (a1 : List Int) (a6 : List Int) (i18 : Int) : Option (Ctl Int (Sum Unit Bool)) := if i18 < (a1.length : Int) then (if 0 ≤ i18 ∧ i18 < (a1.length : Int) then (if 0 ≤ i18 ∧ i18 < (a6.length : Int) then (if (rd a1 i18) = (rd a6 i18) then (some (.next (IntKind.i64.wrap (i18 + 1)))) else (some (.done (.inr false)))) else none) else none) else (some (.done (.inl ())))
def haulagelaw20_same.f (k : Nat) (a1 : List Int) (a6 : List Int) : Option Bool := if (a1.length : Int) = (a6.length : Int) then ((loop (fun (s_ : Int) => haulagelaw20_same.b1 a1 a6 s_) k 0).bind fun x_ => match x_ with | .inl y_ => haulagelaw20_same.j2 | .inr q_ => some q_) else (some false)
def haulagelaw20_ints.j2 : Option Bool := some true
def haulagelaw20_ints.b1 (a1 : List Int) (a6 : List Int) (i18 : Int) : Option (Ctl Int (Sum Unit Bool)) := if i18 < (a1.length : Int) then (if 0 ≤ i18 ∧ i18 < (a1.length : Int) then (if 0 ≤ i18 ∧ i18 < (a6.length : Int) then (if (rd a1 i18) = (rd a6 i18) then (some (.next (IntKind.i64.wrap (i18 + 1)))) else (some (.done (.inr false)))) else none) else none) else (some (.done (.inl ())))
def haulagelaw20_ints.f (k : Nat) (a1 : List Int) (a6 : List Int) : Option Bool := if (a1.length : Int) = (a6.length : Int) then ((loop (fun (s_ : Int) => haulagelaw20_ints.b1 a1 a6 s_) k 0).bind fun x_ => match x_ with | .inl y_ => haulagelaw20_ints.j2 | .inr q_ => some q_) else (some false)
def haulagelaw20_lent.f (a1 : List Int) : Option (List Int) := if (0 : Int) ≤ 0 ∧ (0 : Int) ≤ (IntKind.i64.wrap ((a1.length : Int) + 3)) ∧ ((IntKind.i64.wrap ((a1.length : Int) + 3)) : Int) * (1 : Nat) ≤ 140737488355328 then (if ((List.replicate (0 : Int).toNat (0 : Int)).length + a1.length) * 1 ≤ 140737488355328 then (if (((List.replicate (0 : Int).toNat (0 : Int)) ++ a1).length + [201, 202, 203].length) * 1 ≤ 140737488355328 then (if (a1.length : Int) = (((List.replicate (0 : Int).toNat (0 : Int)) ++ a1).length : Int) then (some ((List.replicate (0 : Int).toNat (0 : Int)) ++ a1)) else none) else none) else none) else none
def haulagelaw20_over.j2 (a1 : List Int) (l87 : List Int) : Option (List Int) := if l87.length = a1.length then (some l87) else none
def haulagelaw20_over.b1 (l45 : List Int) (i46 : Int) : Option (Ctl ((List Int) × Int) (List Int)) := if i46 < (l45.length : Int) then (if 0 ≤ i46 ∧ i46 < (l45.length : Int) then (if 0 ≤ i46 ∧ i46 < (l45.length : Int) then (some (.next ((l45.set i46.toNat (IntKind.u8.wrap (255 - (rd l45 i46)))), IntKind.i64.wrap (i46 + 1)))) else none) else none) else (some (.done l45))
def haulagelaw20_over.f (k : Nat) (a1 : List Int) : Option (List Int) := (loop (fun (s_ : (List Int) × Int) => haulagelaw20_over.b1 s_.1 s_.2) k (a1, 0)).bind fun x_ => haulagelaw20_over.j2 a1 x_
def haulagelaw20_numbers.b3 (l126 : List Int) (i130 : Int) : Option (Ctl ((List Int) × Int) (List Int)) := if i130 < 70 then (if (l126.length + [IntKind.i64.wrap (5000 + i130)].length) * 8 ≤ 140737488355328 then (some (.next ((l126 ++ [IntKind.i64.wrap (5000 + i130)]), IntKind.i64.wrap (i130 + 1)))) else none) else (some (.done l126))
def haulagelaw20_numbers.b5 (l180 : List Int) (i184 : Int) : Option (Ctl ((List Int) × Int) (List Int)) := if i184 < 70 then (if (l180.length + [IntKind.i64.wrap ((-5000) - i184)].length) * 8 ≤ 140737488355328 then (some (.next ((l180 ++ [IntKind.i64.wrap ((-5000) - i184)]), IntKind.i64.wrap (i184 + 1)))) else none) else (some (.done l180))
def haulagelaw20_numbers.j7 (i234 : Int) (b303 : Bool) : Option (Ctl Int (Sum Unit Bool)) := if b303 = true then (some (.done (.inr false))) else (some (.next (IntKind.i64.wrap (i234 + 1))))
def haulagelaw20_numbers.b8 (l112 : List Int) (l116 : List Int) (l169 : List Int) (l223 : List Int) (i234 : Int) : Option (Ctl Int (Sum Unit Bool)) := if i234 < (l112.length : Int) then (if 0 ≤ i234 ∧ i234 < (l112.length : Int) then (if (rd l112 i234) = (IntKind.i64.wrap (10 + i234)) then (if 0 ≤ i234 ∧ i234 < (l116.length : Int) then (if (rd l116 i234) = (IntKind.i64.wrap ((-10) - i234)) then (if 0 ≤ i234 ∧ i234 < (l169.length : Int) then (if 0 ≤ i234 ∧ i234 < (l112.length : Int) then (if (rd l169 i234) = (rd l112 i234) then (if 0 ≤ i234 ∧ i234 < (l223.length : Int) then (if 0 ≤ i234 ∧ i234 < (l116.length : Int) then (haulagelaw20_numbers.j7 i234 (!decide ((rd l223 i234) = (rd l116 i234)))) else none) else none) else (haulagelaw20_numbers.j7 i234 true)) else none) else none) else (haulagelaw20_numbers.j7 i234 true)) else none) else (haulagelaw20_numbers.j7 i234 true)) else none) else (some (.done (.inl ())))
def haulagelaw20_numbers.j10 (i315 : Int) (b348 : Bool) : Option (Ctl Int (Sum Unit Bool)) := if b348 = true then (some (.done (.inr false))) else (some (.next (IntKind.i64.wrap (i315 + 1))))
def haulagelaw20_numbers.b11 (l112 : List Int) (l116 : List Int) (l169 : List Int) (l223 : List Int) (i315 : Int) : Option (Ctl Int (Sum Unit Bool)) := if i315 < 70 then (if 0 ≤ (IntKind.i64.wrap ((l112.length : Int) + i315)) ∧ (IntKind.i64.wrap ((l112.length : Int) + i315)) < (l169.length : Int) then (if (rd l169 (IntKind.i64.wrap ((l112.length : Int) + i315))) = (IntKind.i64.wrap (5000 + i315)) then (if 0 ≤ (IntKind.i64.wrap ((l116.length : Int) + i315)) ∧ (IntKind.i64.wrap ((l116.length : Int) + i315)) < (l223.length : Int) then (haulagelaw20_numbers.j10 i315 (!decide ((rd l223 (IntKind.i64.wrap ((l116.length : Int) + i315))) = (IntKind.i64.wrap ((-5000) - i315))))) else none) else (haulagelaw20_numbers.j10 i315 true)) else none) else (some (.done (.inl ())))
def haulagelaw20_numbers.j12 : Option Bool := some true
def haulagelaw20_numbers.j9 (k : Nat) (l112 : List Int) (l116 : List Int) (l169 : List Int) (l223 : List Int) : Option Bool := (loop (fun (s_ : Int) => haulagelaw20_numbers.b11 l112 l116 l169 l223 s_) k 0).bind fun x_ => match x_ with | .inl y_ => haulagelaw20_numbers.j12 | .inr q_ => some q_
def haulagelaw20_numbers.j6 (k : Nat) (l112 : List Int) (l116 : List Int) (l169 : List Int) (l223 : List Int) : Option Bool := (loop (fun (s_ : Int) => haulagelaw20_numbers.b8 l112 l116 l169 l223 s_) k 0).bind fun x_ => match x_ with | .inl y_ => haulagelaw20_numbers.j9 k l112 l116 l169 l223 | .inr q_ => some q_
def haulagelaw20_numbers.j4 (k : Nat) (l112 : List Int) (l116 : List Int) (l169 : List Int) : Option Bool := (loop (fun (s_ : (List Int) × Int) => haulagelaw20_numbers.b5 s_.1 s_.2) k (l116, 0)).bind fun x_ => haulagelaw20_numbers.j6 k l112 l116 l169 x_
def haulagelaw20_numbers.j2 (k : Nat) (l112 : List Int) (l116 : List Int) : Option Bool := (loop (fun (s_ : (List Int) × Int) => haulagelaw20_numbers.b3 s_.1 s_.2) k (l112, 0)).bind fun x_ => haulagelaw20_numbers.j4 k l112 l116 x_
def haulagelaw20_numbers.b1 (l57 : List Int) (l61 : List Int) (i62 : Int) : Option (Ctl ((List Int) × (List Int) × Int) ((List Int) × (List Int))) := if i62 < (l57.length : Int) then (if 0 ≤ i62 ∧ i62 < (l57.length : Int) then (if 0 ≤ i62 ∧ i62 < (l61.length : Int) then (some (.next ((l57.set i62.toNat (IntKind.i64.wrap (10 + i62))), (l61.set i62.toNat (IntKind.i64.wrap ((-10) - i62))), IntKind.i64.wrap (i62 + 1)))) else none) else none) else (some (.done (l57, l61)))
def haulagelaw20_numbers.f (k : Nat) (a1 : List Int) (a6 : List Int) : Option Bool := (loop (fun (s_ : (List Int) × (List Int) × Int) => haulagelaw20_numbers.b1 s_.1 s_.2.1 s_.2.2) k (a1, a6, 0)).bind fun x_ => haulagelaw20_numbers.j2 k x_.1 x_.2
def haulagelaw20_outer.j4 (i191 : Int) (l335 : List (List (Option (List Value)))) : Option (Ctl ((List (List (Option (List Value)))) × Int) (List (List (Option (List Value))))) := some (.next (l335, IntKind.i64.wrap (i191 + 1)))
def haulagelaw20_outer.b3 (i191 : Int) (l269 : List (List (Option (List Value)))) (i270 : Int) : Option (Ctl ((List (List (Option (List Value)))) × Int) (List (List (Option (List Value))))) := if 0 ≤ i191 ∧ i191 < (l269.length : Int) then (if i270 < ((rd l269 i191).length : Int) then (if 0 ≤ i191 ∧ i191 < (l269.length : Int) then (if 0 ≤ i270 ∧ i270 < ((rd l269 i191).length : Int) then (some (.next ((l269.set i191.toNat ((rd l269 i191).set i270.toNat (some ([.int .i64 (IntKind.i64.wrap ((IntKind.i64.wrap (1000 * i191)) + i270)), .int .i64 0, .int .i64 0, .slice none 0 0] : List Value)))), IntKind.i64.wrap (i270 + 1)))) else none) else none) else (some (.done l269))) else none
def haulagelaw20_outer.b9 (i458 : Int) (l489 : List (Option (List Value))) (i493 : Int) : Option (Ctl ((List (Option (List Value))) × Int) (List (Option (List Value)))) := if i493 < 70 then (if (l489.length + [some ([.int .i64 (IntKind.i64.wrap ((IntKind.i64.wrap ((IntKind.i64.wrap ((-1000) * i458)) - i493)) - 1)), .int .i64 0, .int .i64 0, .slice none 0 0] : List Value)].length) * 48 ≤ 140737488355328 then (some (.next ((l489 ++ [some ([.int .i64 (IntKind.i64.wrap ((IntKind.i64.wrap ((IntKind.i64.wrap ((-1000) * i458)) - i493)) - 1)), .int .i64 0, .int .i64 0, .slice none 0 0] : List Value)]), IntKind.i64.wrap (i493 + 1)))) else none) else (some (.done l489))
def haulagelaw20_outer.j10 (l454 : List (List (Option (List Value)))) (i458 : Int) (l531 : List (Option (List Value))) : Option (Ctl ((List (List (Option (List Value)))) × Int) (List (List (Option (List Value))))) := if (l454.length + [l531].length) * 24 ≤ 140737488355328 then (some (.next ((l454 ++ [l531]), IntKind.i64.wrap (i458 + 1)))) else none
def haulagelaw20_outer.b11 (k : Nat) (l347 : List (List (Option (List Value)))) (l454 : List (List (Option (List Value)))) (i458 : Int) : Option (Ctl ((List (List (Option (List Value)))) × Int) (List (List (Option (List Value))))) := if i458 < 3 then (if 0 ≤ i458 ∧ i458 < (l347.length : Int) then ((loop (fun (s_ : (List (Option (List Value))) × Int) => haulagelaw20_outer.b9 i458 s_.1 s_.2) k ((rd l347 i458), 0)).bind fun x_ => haulagelaw20_outer.j10 l454 i458 x_) else none) else (if l347.length ≤ i458.toNat then (some (.done l454)) else none)
def haulagelaw20_outer.j13 (i597 : Int) (b668 : Bool) : Option (Ctl Int (Sum Unit (Ctl Int (Sum Unit Bool)))) := if b668 = true then (some (.done (.inr (.done (.inr false))))) else (some (.next (IntKind.i64.wrap (i597 + 1))))
def haulagelaw20_outer.b14 (l347 : List (List (Option (List Value)))) (l560 : List (List (Option (List Value)))) (i568 : Int) (i597 : Int) : Option (Ctl Int (Sum Unit (Ctl Int (Sum Unit Bool)))) := if i597 < ((rd l347 i568).length : Int) then (if 0 ≤ i568 ∧ i568 < (l347.length : Int) then (if 0 ≤ i597 ∧ i597 < ((rd l347 i568).length : Int) then (rawI .i64 (rd (rd l347 i568) i597) 0 fun i636 => (if i636 = (IntKind.i64.wrap ((IntKind.i64.wrap (1000 * i568)) + i597)) then (if 0 ≤ i568 ∧ i568 < (l560.length : Int) then (if 0 ≤ i597 ∧ i597 < ((rd l560 i568).length : Int) then (rawI .i64 (rd (rd l560 i568) i597) 0 fun i664 => (haulagelaw20_outer.j13 i597 (!decide (i664 = (IntKind.i64.wrap ((IntKind.i64.wrap (1000 * i568)) + i597)))))) else none) else none) else (haulagelaw20_outer.j13 i597 true))) else none) else none) else (some (.done (.inl ())))
def haulagelaw20_outer.b16 (l347 : List (List (Option (List Value)))) (l560 : List (List (Option (List Value)))) (i568 : Int) (i679 : Int) : Option (Ctl Int (Sum Unit (Ctl Int (Sum Unit Bool)))) := if i679 < 70 then (if 0 ≤ i568 ∧ i568 < (l560.length : Int) then (if 0 ≤ (IntKind.i64.wrap (((rd l347 i568).length : Int) + i679)) ∧ (IntKind.i64.wrap (((rd l347 i568).length : Int) + i679)) < ((rd l560 i568).length : Int) then (rawI .i64 (rd (rd l560 i568) (IntKind.i64.wrap (((rd l347 i568).length : Int) + i679))) 0 fun i718 => (if i718 = (IntKind.i64.wrap ((IntKind.i64.wrap ((IntKind.i64.wrap ((-1000) * i568)) - i679)) - 1)) then (some (.next (IntKind.i64.wrap (i679 + 1)))) else (some (.done (.inr (.done (.inr false))))))) else none) else none) else (some (.done (.inl ())))
def haulagelaw20_outer.j17 (i568 : Int) : Option (Ctl Int (Sum Unit Bool)) := some (.next (IntKind.i64.wrap (i568 + 1)))
def haulagelaw20_outer.j15 (k : Nat) (l347 : List (List (Option (List Value)))) (l560 : List (List (Option (List Value)))) (i568 : Int) : Option (Ctl Int (Sum Unit Bool)) := (loop (fun (s_ : Int) => haulagelaw20_outer.b16 l347 l560 i568 s_) k 0).bind fun x_ => match x_ with | .inl y_ => haulagelaw20_outer.j17 i568 | .inr q_ => some q_
def haulagelaw20_outer.b18 (k : Nat) (l347 : List (List (Option (List Value)))) (l560 : List (List (Option (List Value)))) (i568 : Int) : Option (Ctl Int (Sum Unit Bool)) := if i568 < 3 then (if 0 ≤ i568 ∧ i568 < (l347.length : Int) then ((loop (fun (s_ : Int) => haulagelaw20_outer.b14 l347 l560 i568 s_) k 0).bind fun x_ => match x_ with | .inl y_ => haulagelaw20_outer.j15 k l347 l560 i568 | .inr q_ => some q_) else none) else (some (.done (.inl ())))
def haulagelaw20_outer.j19 : Option Bool := some true
def haulagelaw20_outer.j12 (k : Nat) (l347 : List (List (Option (List Value)))) (l560 : List (List (Option (List Value)))) : Option Bool := (loop (fun (s_ : Int) => haulagelaw20_outer.b18 k l347 l560 s_) k 0).bind fun x_ => match x_ with | .inl y_ => haulagelaw20_outer.j19 | .inr q_ => some q_
def haulagelaw20_outer.j6 (k : Nat) (l347 : List (List (Option (List Value)))) : Option Bool := (loop (fun (s_ : (List (List (Option (List Value)))) × Int) => haulagelaw20_outer.b11 k l347 s_.1 s_.2) k ([], 0)).bind fun x_ => haulagelaw20_outer.j12 k l347 x_
def haulagelaw20_outer.b5 (k : Nat) (l190 : List (List (Option (List Value)))) (i191 : Int) : Option (Ctl ((List (List (Option (List Value)))) × Int) (List (List (Option (List Value))))) := if i191 < 3 then ((loop (fun (s_ : (List (List (Option (List Value)))) × Int) => haulagelaw20_outer.b3 i191 s_.1 s_.2) k (l190, 0)).bind fun x_ => haulagelaw20_outer.j4 i191 x_) else (some (.done l190))
def haulagelaw20_outer.f (k : Nat) (a1 : List (Option (List Value))) (a6 : List (Option (List Value))) (a11 : List (Option (List Value))) : Option Bool := (loop (fun (s_ : (List (List (Option (List Value)))) × Int) => haulagelaw20_outer.b5 k s_.1 s_.2) k ([a1, a6, a11], 0)).bind fun x_ => haulagelaw20_outer.j6 k x_
def haulagelaw20_known.f : Option Bool := (bag_New.f).bind fun t3 => if (Option.isNone t3) = true then (some false) else ((bag_Bag_Send.f t3 0 1 [97]).bind fun t29 => (bag_Bag_Send.f t29.2.2 1 0 [98]).bind fun t50 => (bag_Bag_Send.f t50.2.2 0 1 []).bind fun t59 => (bag_Bag_Twice.f t59.2.2 1).bind fun t68 => if t29.1 = 0 then (if t50.1 = 1 then (if t59.1 = 2 then (if t68.1 = 3 then ((haulagelaw20_num.f t29.2.1).bind fun t81 => if t81 = 0 then ((haulagelaw20_num.f t50.2.1).bind fun t89 => if t89 = 0 then ((haulagelaw20_num.f t59.2.1).bind fun t97 => if t97 = 0 then ((haulagelaw20_num.f t68.2.1).bind fun t105 => if t105 = 0 then ((bag_Bag_Len.f t68.2.2).bind fun t113 => some (decide (t113 = 4))) else (some false)) else (some false)) else (some false)) else (some false)) else (some false)) else (some false)) else (some false)) else (some false))
def haulagelaw20_BagOwn.j4 (t248 : api_Letter × Int × (Option Bag)) (l330 : List (List Int)) (i334 : Int) (b399 : Bool) : Option (Ctl ((Option Bag) × (List (List Int)) × Int) (Sum ((Option Bag) × (List (List Int))) Bool)) := if b399 = true then (some (.done (.inr false))) else (if (l330.length + [t248.1.Data].length) * 24 ≤ 140737488355328 then (some (.next (t248.2.2, (l330 ++ [t248.1.Data]), IntKind.i64.wrap (i334 + 1)))) else none)
def haulagelaw20_BagOwn.b5 (k : Nat) (a1 : List (List Int)) (o329 : Option Bag) (l330 : List (List Int)) (i334 : Int) : Option (Ctl ((Option Bag) × (List (List Int)) × Int) (Sum ((Option Bag) × (List (List Int))) Bool)) := if i334 < (a1.length : Int) then ((bag_Bag_Twice.f o329 i334).bind fun t239 => (bag_Bag_Deliver.f t239.2.2 i334).bind fun t248 => (haulagelaw20_num.f t248.2.1).bind fun t273 => if t273 = 0 then (if 0 ≤ i334 ∧ i334 < (a1.length : Int) then ((haulagelaw20_same.f k t248.1.Data (rd a1 i334)).bind fun t292 => haulagelaw20_BagOwn.j4 t248 l330 i334 (!t292)) else none) else (haulagelaw20_BagOwn.j4 t248 l330 i334 true)) else (some (.done (.inl (o329, l330))))
def haulagelaw20_BagOwn.j8 (t177 : List api_Letter) (t188 : List api_Letter) (t462 : List api_Letter) (l478 : List (List Int)) (i482 : Int) (b633 : Bool) : Option (Ctl ((List (List Int)) × Int) (Sum (List (List Int)) Bool)) := if b633 = true then (some (.done (.inr false))) else (if (l478.length + [(rd t177 i482).Data, (rd t188 i482).Data, (rd t462 i482).Data].length) * 24 ≤ 140737488355328 then (some (.next ((l478 ++ [(rd t177 i482).Data, (rd t188 i482).Data, (rd t462 i482).Data]), IntKind.i64.wrap (i482 + 1)))) else none)
def haulagelaw20_BagOwn.b9 (k : Nat) (a1 : List (List Int)) (t177 : List api_Letter) (t188 : List api_Letter) (t462 : List api_Letter) (l478 : List (List Int)) (i482 : Int) : Option (Ctl ((List (List Int)) × Int) (Sum (List (List Int)) Bool)) := if i482 < (a1.length : Int) then (if 0 ≤ i482 ∧ i482 < (t177.length : Int) then (if 0 ≤ i482 ∧ i482 < (t188.length : Int) then (if 0 ≤ i482 ∧ i482 < (t462.length : Int) then (if 0 ≤ i482 ∧ i482 < (a1.length : Int) then ((haulagelaw20_same.f k ((rd t177 i482).Data) (rd a1 i482)).bind fun t558 => if t558 = true then (if 0 ≤ i482 ∧ i482 < (a1.length : Int) then ((haulagelaw20_same.f k ((rd t188 i482).Data) (rd a1 i482)).bind fun t577 => if t577 = true then (if 0 ≤ i482 ∧ i482 < (a1.length : Int) then ((haulagelaw20_same.f k ((rd t462 i482).Data) (rd a1 i482)).bind fun t596 => if t596 = true then (if 0 ≤ i482 ∧ i482 < (l478.length : Int) then (if 0 ≤ i482 ∧ i482 < (a1.length : Int) then ((haulagelaw20_same.f k (rd l478 i482) (rd a1 i482)).bind fun t626 => haulagelaw20_BagOwn.j8 t177 t188 t462 l478 i482 (!t626)) else none) else none) else (haulagelaw20_BagOwn.j8 t177 t188 t462 l478 i482 true)) else none) else (haulagelaw20_BagOwn.j8 t177 t188 t462 l478 i482 true)) else none) else (haulagelaw20_BagOwn.j8 t177 t188 t462 l478 i482 true)) else none) else none) else none) else none) else (some (.done (.inl l478)))
def haulagelaw20_BagOwn.b13 (i830 : Int) (l904 : List (List Int)) (i905 : Int) : Option (Ctl ((List (List Int)) × Int) (List (List Int))) := if 0 ≤ i830 ∧ i830 < (l904.length : Int) then (if i905 < ((rd l904 i830).length : Int) then (if 0 ≤ i830 ∧ i830 < (l904.length : Int) then (if 0 ≤ i905 ∧ i905 < ((rd l904 i830).length : Int) then (some (.next ((l904.set i830.toNat ((rd l904 i830).set i905.toNat (IntKind.u8.wrap (IntKind.i64.wrap ((IntKind.i64.wrap (7 * i830)) + (IntKind.i64.wrap (3 * i905))))))), IntKind.i64.wrap (i905 + 1)))) else none) else none) else (some (.done l904))) else none
def haulagelaw20_BagOwn.j14 (i830 : Int) (l966 : List (List Int)) : Option (Ctl ((List (List Int)) × Int) (List (List Int))) := some (.next (l966, IntKind.i64.wrap (i830 + 1)))
def haulagelaw20_BagOwn.b15 (k : Nat) (l829 : List (List Int)) (i830 : Int) : Option (Ctl ((List (List Int)) × Int) (List (List Int))) := if i830 < (l829.length : Int) then ((loop (fun (s_ : (List (List Int)) × Int) => haulagelaw20_BagOwn.b13 i830 s_.1 s_.2) k (l829, 0)).bind fun x_ => haulagelaw20_BagOwn.j14 i830 x_) else (some (.done l829))
def haulagelaw20_BagOwn.b19 (i1089 : Int) (l1120 : List Int) (i1124 : Int) : Option (Ctl ((List Int) × Int) (List Int)) := if i1124 < 70 then (if (l1120.length + [IntKind.u8.wrap (IntKind.i64.wrap ((IntKind.i64.wrap (100 + i1089)) + (IntKind.i64.wrap (5 * i1124))))].length) * 1 ≤ 140737488355328 then (some (.next ((l1120 ++ [IntKind.u8.wrap (IntKind.i64.wrap ((IntKind.i64.wrap (100 + i1089)) + (IntKind.i64.wrap (5 * i1124))))]), IntKind.i64.wrap (i1124 + 1)))) else none) else (some (.done l1120))
def haulagelaw20_BagOwn.j20 (l1085 : List (List Int)) (i1089 : Int) (l1162 : List Int) : Option (Ctl ((List (List Int)) × Int) (List (List Int))) := if (l1085.length + [l1162].length) * 24 ≤ 140737488355328 then (some (.next ((l1085 ++ [l1162]), IntKind.i64.wrap (i1089 + 1)))) else none
def haulagelaw20_BagOwn.b21 (k : Nat) (l978 : List (List Int)) (l1085 : List (List Int)) (i1089 : Int) : Option (Ctl ((List (List Int)) × Int) (List (List Int))) := if i1089 < (l978.length : Int) then (if 0 ≤ i1089 ∧ i1089 < (l978.length : Int) then ((loop (fun (s_ : (List Int) × Int) => haulagelaw20_BagOwn.b19 i1089 s_.1 s_.2) k ((rd l978 i1089), 0)).bind fun x_ => haulagelaw20_BagOwn.j20 l1085 i1089 x_) else none) else (if l978.length ≤ i1089.toNat then (some (.done l1085)) else none)
def haulagelaw20_BagOwn.j23 (i1228 : Int) (b1304 : Bool) : Option (Ctl Int (Sum Unit (Ctl Int (Sum Unit Bool)))) := if b1304 = true then (some (.done (.inr (.done (.inr false))))) else (some (.next (IntKind.i64.wrap (i1228 + 1))))
def haulagelaw20_BagOwn.b24 (l978 : List (List Int)) (l1191 : List (List Int)) (i1199 : Int) (i1228 : Int) : Option (Ctl Int (Sum Unit (Ctl Int (Sum Unit Bool)))) := if i1228 < ((rd l978 i1199).length : Int) then (if 0 ≤ i1199 ∧ i1199 < (l978.length : Int) then (if 0 ≤ i1228 ∧ i1228 < ((rd l978 i1199).length : Int) then (if (rd (rd l978 i1199) i1228) = (IntKind.u8.wrap (IntKind.i64.wrap ((IntKind.i64.wrap (7 * i1199)) + (IntKind.i64.wrap (3 * i1228))))) then (if 0 ≤ i1199 ∧ i1199 < (l1191.length : Int) then (if 0 ≤ i1228 ∧ i1228 < ((rd l1191 i1199).length : Int) then (if 0 ≤ i1199 ∧ i1199 < (l978.length : Int) then (if 0 ≤ i1228 ∧ i1228 < ((rd l978 i1199).length : Int) then (haulagelaw20_BagOwn.j23 i1228 (!decide ((rd (rd l1191 i1199) i1228) = (rd (rd l978 i1199) i1228)))) else none) else none) else none) else none) else (haulagelaw20_BagOwn.j23 i1228 true)) else none) else none) else (some (.done (.inl ())))
def haulagelaw20_BagOwn.b26 (l978 : List (List Int)) (l1191 : List (List Int)) (i1199 : Int) (i1315 : Int) : Option (Ctl Int (Sum Unit (Ctl Int (Sum Unit Bool)))) := if i1315 < 70 then (if 0 ≤ i1199 ∧ i1199 < (l1191.length : Int) then (if 0 ≤ (IntKind.i64.wrap (((rd l978 i1199).length : Int) + i1315)) ∧ (IntKind.i64.wrap (((rd l978 i1199).length : Int) + i1315)) < ((rd l1191 i1199).length : Int) then (if (rd (rd l1191 i1199) (IntKind.i64.wrap (((rd l978 i1199).length : Int) + i1315))) = (IntKind.u8.wrap (IntKind.i64.wrap ((IntKind.i64.wrap (100 + i1199)) + (IntKind.i64.wrap (5 * i1315))))) then (some (.next (IntKind.i64.wrap (i1315 + 1)))) else (some (.done (.inr (.done (.inr false)))))) else none) else none) else (some (.done (.inl ())))
def haulagelaw20_BagOwn.j27 (i1199 : Int) : Option (Ctl Int (Sum Unit Bool)) := some (.next (IntKind.i64.wrap (i1199 + 1)))
def haulagelaw20_BagOwn.j25 (k : Nat) (l978 : List (List Int)) (l1191 : List (List Int)) (i1199 : Int) : Option (Ctl Int (Sum Unit Bool)) := (loop (fun (s_ : Int) => haulagelaw20_BagOwn.b26 l978 l1191 i1199 s_) k 0).bind fun x_ => match x_ with | .inl y_ => haulagelaw20_BagOwn.j27 i1199 | .inr q_ => some q_
def haulagelaw20_BagOwn.b28 (k : Nat) (l978 : List (List Int)) (l1191 : List (List Int)) (i1199 : Int) : Option (Ctl Int (Sum Unit Bool)) := if i1199 < (l978.length : Int) then (if 0 ≤ i1199 ∧ i1199 < (l978.length : Int) then ((loop (fun (s_ : Int) => haulagelaw20_BagOwn.b24 l978 l1191 i1199 s_) k 0).bind fun x_ => match x_ with | .inl y_ => haulagelaw20_BagOwn.j25 k l978 l1191 i1199 | .inr q_ => some q_) else none) else (some (.done (.inl ())))
def haulagelaw20_BagOwn.b30 (k : Nat) (a1 : List (List Int)) (t1361 : List api_Letter) (i1373 : Int) : Option (Ctl Int (Sum Unit Bool)) := if i1373 < (t1361.length : Int) then (if 0 ≤ i1373 ∧ i1373 < (t1361.length : Int) then (if 0 ≤ i1373 ∧ i1373 < (a1.length : Int) then ((haulagelaw20_same.f k ((rd t1361 i1373).Data) (rd a1 i1373)).bind fun t1414 => if t1414 = true then (some (.next (IntKind.i64.wrap (i1373 + 1)))) else (some (.done (.inr false)))) else none) else none) else (some (.done (.inl ())))
def haulagelaw20_BagOwn.j31 (k : Nat) (t177 : List api_Letter) (t188 : List api_Letter) (t199 : List Int) (t210 : List Int) (t462 : List api_Letter) : Option Bool := (haulagelaw20_outer.f k (List.replicate t177.length (none : Option (List Value))) (List.replicate t188.length (none : Option (List Value))) (List.replicate t462.length (none : Option (List Value)))).bind fun t1428 => if t1428 = true then ((haulagelaw20_numbers.f k t199 t210).bind fun t1436 => some t1436) else (some false)
def haulagelaw20_BagOwn.j29 (k : Nat) (a1 : List (List Int)) (t177 : List api_Letter) (t188 : List api_Letter) (t199 : List Int) (t210 : List Int) (o435 : Option Bag) (t462 : List api_Letter) : Option Bool := (bag_Bag_Waiting.f o435).bind fun t1361 => (loop (fun (s_ : Int) => haulagelaw20_BagOwn.b30 k a1 t1361 s_) k 0).bind fun x_ => match x_ with | .inl y_ => haulagelaw20_BagOwn.j31 k t177 t188 t199 t210 t462 | .inr q_ => some q_
def haulagelaw20_BagOwn.j22 (k : Nat) (a1 : List (List Int)) (t177 : List api_Letter) (t188 : List api_Letter) (t199 : List Int) (t210 : List Int) (o435 : Option Bag) (t462 : List api_Letter) (l978 : List (List Int)) (l1191 : List (List Int)) : Option Bool := (loop (fun (s_ : Int) => haulagelaw20_BagOwn.b28 k l978 l1191 s_) k 0).bind fun x_ => match x_ with | .inl y_ => haulagelaw20_BagOwn.j29 k a1 t177 t188 t199 t210 o435 t462 | .inr q_ => some q_
def haulagelaw20_BagOwn.j16 (k : Nat) (a1 : List (List Int)) (t177 : List api_Letter) (t188 : List api_Letter) (t199 : List Int) (t210 : List Int) (o435 : Option Bag) (t462 : List api_Letter) (l978 : List (List Int)) : Option Bool := (loop (fun (s_ : (List (List Int)) × Int) => haulagelaw20_BagOwn.b21 k l978 s_.1 s_.2) k ([], 0)).bind fun x_ => haulagelaw20_BagOwn.j22 k a1 t177 t188 t199 t210 o435 t462 l978 x_
def haulagelaw20_BagOwn.j10 (k : Nat) (a1 : List (List Int)) (t177 : List api_Letter) (t188 : List api_Letter) (t199 : List Int) (t210 : List Int) (o435 : Option Bag) (t462 : List api_Letter) (l676 : List (List Int)) : Option Bool := (loop (fun (s_ : (List (List Int)) × Int) => haulagelaw20_BagOwn.b15 k s_.1 s_.2) k (l676, 0)).bind fun x_ => haulagelaw20_BagOwn.j16 k a1 t177 t188 t199 t210 o435 t462 x_
def haulagelaw20_BagOwn.j7 (k : Nat) (a1 : List (List Int)) (t177 : List api_Letter) (t188 : List api_Letter) (t199 : List Int) (t210 : List Int) (o435 : Option Bag) (l437 : List (List Int)) (b455 : Bool) : Option Bool := if b455 = true then (some false) else ((bag_Bag_Waiting.f o435).bind fun t462 => if (t462.length : Int) = (a1.length : Int) then ((loop (fun (s_ : (List (List Int)) × Int) => haulagelaw20_BagOwn.b9 k a1 t177 t188 t462 s_.1 s_.2) k (l437, 0)).bind fun x_ => match x_ with | .inl y_ => haulagelaw20_BagOwn.j10 k a1 t177 t188 t199 t210 o435 t462 y_ | .inr q_ => some q_) else (some false))
def haulagelaw20_BagOwn.j6 (k : Nat) (a1 : List (List Int)) (t177 : List api_Letter) (t188 : List api_Letter) (t199 : List Int) (t210 : List Int) (o435 : Option Bag) (l437 : List (List Int)) : Option Bool := if (t177.length : Int) = (a1.length : Int) then (if (t188.length : Int) = (a1.length : Int) then ((haulagelaw20_ints.f k t199 t210).bind fun t447 => if t447 = true then (haulagelaw20_BagOwn.j7 k a1 t177 t188 t199 t210 o435 l437 (!decide ((t199.length : Int) = (IntKind.i64.wrap (Int.tdiv (IntKind.i64.wrap ((a1.length : Int) + 1)) 2))))) else (haulagelaw20_BagOwn.j7 k a1 t177 t188 t199 t210 o435 l437 true)) else (haulagelaw20_BagOwn.j7 k a1 t177 t188 t199 t210 o435 l437 true)) else (haulagelaw20_BagOwn.j7 k a1 t177 t188 t199 t210 o435 l437 true)
def haulagelaw20_BagOwn.j2 (k : Nat) (a1 : List (List Int)) (o172 : Option Bag) : Option Bool := (bag_Bag_Waiting.f o172).bind fun t177 => (bag_Bag_Waiting.f o172).bind fun t188 => (bag_Bag_For.f o172 0).bind fun t199 => (bag_Bag_For.f o172 0).bind fun t210 => (loop (fun (s_ : (Option Bag) × (List (List Int)) × Int) => haulagelaw20_BagOwn.b5 k a1 s_.1 s_.2.1 s_.2.2) k (o172, [], 0)).bind fun x_ => match x_ with | .inl y_ => haulagelaw20_BagOwn.j6 k a1 t177 t188 t199 t210 y_.1 y_.2 | .inr q_ => some q_
def haulagelaw20_BagOwn.b1 (k : Nat) (a1 : List (List Int)) (o108 : Option Bag) (i109 : Int) : Option (Ctl ((Option Bag) × Int) (Sum (Option Bag) Bool)) := if i109 < (a1.length : Int) then (if 0 ≤ i109 ∧ i109 < (a1.length : Int) then ((haulagelaw20_lent.f (rd a1 i109)).bind fun t67 => (bag_Bag_Send.f o108 (Int.tmod i109 3) (Int.tmod i109 2) t67).bind fun t78 => (haulagelaw20_num.f t78.2.1).bind fun t88 => if t88 = 0 then ((haulagelaw20_over.f k t67).bind fun t97 => some (.next (t78.2.2, IntKind.i64.wrap (i109 + 1)))) else (some (.done (.inr (decide (524288 < (t67.length : Int))))))) else none) else (some (.done (.inl o108)))
def haulagelaw20_BagOwn.f (k : Nat) (a1 : List (List Int)) : Option Bool := (haulagelaw20_known.f).bind fun t8 => if t8 = true then ((bag_New.f).bind fun t18 => if 65535 < (a1.length : Int) then ((bag_Bag_Len.f t18).bind fun t31 => some (decide (t31 = 0))) else ((loop (fun (s_ : (Option Bag) × Int) => haulagelaw20_BagOwn.b1 k a1 s_.1 s_.2) k (t18, 0)).bind fun x_ => match x_ with | .inl y_ => haulagelaw20_BagOwn.j2 k a1 y_ | .inr q_ => some q_)) else (some false)
def lk : List (Nat × Value) → Nat → Option Value
 | [], _ => none
 | x :: l, t => bif Nat.beq x.1 t then some x.2 else lk l t
def ev (L : List (Nat × Value)) : Operand → Option Value
 | .tmp t => lk L t
 | .const v => some v
 | .global g => some (.pointer (some ⟨g, 0, none⟩))
 | .func f => some (.func (.func f) #[] #[])
structure Fr (a : Act) (N : Nat) (L : List (Nat × Value)) (D : List Deferred := []) : Prop where
 dfr : a.defers = D
 size : a.tmps.size = N
 get : ∀ t v, lk L t = some v → a.tmps.getD t undef = v
section
variable {a : Act} {N : Nat} {L L' : List (Nat × Value)} {v : Value} {x : Operand} {D : List Deferred}
theorem Fr.ev (h : Fr a N L D) (hx : G.ev L x = some v) : a.eval x = v := by
 cases x with
 | tmp t => exact h.get t v hx
 | const u => exact Option.some.inj hx
 | global g => exact Option.some.inj hx
 | func f => exact Option.some.inj hx
theorem Fr.put (h : Fr a N L D) {d : Nat} (v : Value) (hd : d < N) : Fr (a.put (some d) v) N ((d, v) :: L) D := by
 refine ⟨h.dfr, by show (a.tmps.setIfInBounds d v).size = N; rw [Array.size_setIfInBounds]; exact h.size, fun t u hu => ?_⟩
 show (a.tmps.setIfInBounds d v).getD t undef = u
 have hs := h.size
 unfold lk at hu
 cases hb : Nat.beq d t with
 | true =>
  rw [hb] at hu
  have e : d = t := Nat.eq_of_beq_eq_true hb
  subst e
  simp only [cond_true] at hu
  rw [← Option.some.inj hu]
  simp [Array.getD, hs, hd]
 | false =>
  rw [hb] at hu
  simp only [cond_false] at hu
  have e : d ≠ t := Nat.ne_of_beq_eq_false hb
  have hg := h.get t u hu
  rw [← hg]
  simp only [Array.getD_eq_getD_getElem?]
  rw [Array.getElem?_setIfInBounds_ne e]
def Sub (L : List (Nat × Value)) : List (Nat × Value) → Prop
 | [] => True
 | x :: l => lk L x.1 = some x.2 ∧ Sub L l
theorem Sub.spec : ∀ {l : List (Nat × Value)}, Sub L l → ∀ t v, lk l t = some v → lk L t = some v
 | [], _, t, v, h => by cases h
 | x :: l, hs, t, v, h => by
  unfold lk at h
  cases hb : Nat.beq x.1 t with
  | true =>
   rw [hb] at h; simp only [cond_true] at h
   have e : x.1 = t := Nat.eq_of_beq_eq_true hb
   rw [← e, ← Option.some.inj h]; exact hs.1
  | false => rw [hb] at h; exact Sub.spec hs.2 t v h
theorem Fr.sub (h : Fr a N L D) (hs : Sub L L') : Fr a N L' D := ⟨h.dfr, h.size, fun t v hv => h.get t v (hs.spec t v hv)⟩
def enum : Nat → List Value → List (Nat × Value)
 | _, [] => []
 | i, v :: l => (i, v) :: enum (i + 1) l
theorem enum_spec : ∀ (l : List Value) (i t : Nat) (v : Value), lk (enum i l) t = some v → i ≤ t ∧ l[t - i]? = some v
 | [], _, _, _, h => by cases h
 | u :: l, i, t, v, h => by
  unfold enum lk at h
  cases hb : Nat.beq i t with
  | true =>
   rw [hb] at h; simp only [cond_true] at h
   have e : i = t := Nat.eq_of_beq_eq_true hb
   subst e
   exact ⟨Nat.le_refl _, by rw [Nat.sub_self]; exact h⟩
  | false =>
   rw [hb] at h; simp only [cond_false] at h
   obtain ⟨h1, h2⟩ := enum_spec l (i + 1) t v h
   exact ⟨by omega, by rw [show t - i = (t - (i + 1)) + 1 by omega]; exact h2⟩
theorem Fr.enter (l : List Value) (n : Nat) (hN : l.length + n = N) : Fr { tmps := l.toArray ++ Array.replicate n undef, defers := [] } N (enum 0 l) := by
 refine ⟨rfl, by simp [hN], fun t v h => ?_⟩
 obtain ⟨_, h2⟩ := enum_spec l 0 t v h
 rw [Nat.sub_zero] at h2
 have hlt : t < l.length := (List.getElem?_eq_some_iff.1 h2).1
 simp only [Array.getD_eq_getD_getElem?]
 rw [Array.getElem?_append_left (by simpa using hlt)]
 simp [h2]
end
section
variable {P : Program} {a : Act} {N : Nat} {L : List (Nat × Value)} {w : World}
theorem enter {f : FuncId} {fn : Func} {c : Code} {l : List Value} {R : Ending → World → Prop} (hf : P.funcs[f]? = some fn) (hb : fn.body = some c) (hn : fn.ntmps = N) (hl : l.length ≤ N)
  (h : ∀ a, Fr a N (enum 0 l) → c.wp P (bodyPost P fn R) a w) : Calls P f l.toArray w R := by
 refine calls_of_wp hf hb ?_
 refine h _ ?_
 rw [show l.toArray.size = l.length by simp, hn]
 exact Fr.enter l (N - l.length) (by omega)
theorem out0n {fn : Func} {R : Ending → World → Prop} (F : Fr a N L) (hr : fn.results = #[]) (h : R (.returned (.tuple #[])) w) : bodyPost P fn R .normal a w :=
 ⟨F.dfr, _, results_none hr _ P w, h⟩
theorem out1 {fn : Func} {t : Tmp} {v : Value} {R : Ending → World → Prop} (F : Fr a N L) (hr : fn.results = #[.tmp t]) (hv : lk L t = some v) (h : R (.returned v) w) : bodyPost P fn R .ret a w :=
 ⟨F.dfr, v, by rw [results_tmp hr]; rw [F.get t v hv], h⟩
theorem out2 {fn : Func} {t1 t2 : Tmp} {v1 v2 : Value} {R : Ending → World → Prop} (F : Fr a N L) (hr : fn.results = #[.tmp t1, .tmp t2]) (h1 : lk L t1 = some v1) (h2 : lk L t2 = some v2) (h : R (.returned (.tuple #[v1, v2])) w) : bodyPost P fn R .ret a w :=
 ⟨F.dfr, .tuple #[v1, v2], by rw [results_tmp2 hr]; rw [F.get t1 v1 h1, F.get t2 v2 h2], h⟩
end
def upto (P : Program) (o : Oper) (a : Act) (K : Act → World → Prop) : Result Next → Prop
 | .ok (.value v) w' => K (a.put o.dst v) w'
 | .ok .skip w' => K (a.put o.dst undef) w'
 | .ok (.enter f args) w' => Calls P f args w' fun e w'' => ∃ v, e = .returned v ∧ K (a.put o.dst v) w''
 | .ok (.round l f tmps assign body) w' => RoundIn Fence.wide 0 P l f tmps assign body w' fun e w'' => ∃ v, e = .returned v ∧ K (a.put o.dst v) w''
 | _ => False
def OW (P : Program) (o : Oper) (a : Act) (w : World) (K : Act → World → Prop) : Prop := (∀ c, o.op ≠ .defer c) ∧ upto P o a K ((execOp a.eval o).run P w)
theorem OW.mono {P : Program} {o : Oper} {a : Act} {w : World} {K K' : Act → World → Prop} (hK : ∀ a w, K a w → K' a w) (h : OW P o a w K) : OW P o a w K' := by
 refine ⟨h.1, ?_⟩
 have h := h.2
 generalize (execOp a.eval o).run P w = r at *
 cases r with
 | ok n w' =>
  cases n <;> simp only [upto] at h ⊢ <;> first
   | exact hK _ _ h
   | exact Calls.mono h (fun e w'' ⟨v, he, hk⟩ => ⟨v, he, hK _ _ hk⟩)
   | exact RoundIn.mono h (fun e w'' ⟨v, he, hk⟩ => ⟨v, he, hK _ _ hk⟩)
 | halt x w' => simp only [upto] at h
def Fw (ro : Option Nat) : Fence := { Fence.wide with round := ro }
theorem callsIn_Fw {P : Program} {ro : Option Nat} {n : Nat} {f : FuncId} {args : Array Value} {w : World} {R : Ending → World → Prop} (h : Calls P f args w R) : CallsIn (Fw ro) n P f args w R := by
 have h2 : CallsIn Fence.wide n P f args w R := callsIn_wide.2 h
 cases ro with
 | none => exact h2
 | some l => exact h2.inRound l
theorem RoundIn_Fw {P : Program} {ro : Option Nat} {l : Nat} {f : FuncId} {tmps : Array Value} {assign body : Code} {w : World} {R : Ending → World → Prop} (h : RoundIn Fence.wide 0 P l f tmps assign body w R) : RoundIn (Fw ro) 0 P l f tmps assign body w R := by
 refine ⟨trivial, fun c cs hr => ?_⟩
 have := h.2 c cs (room_wide _)
 exact this
theorem OW.wpIn {P : Program} {o : Oper} {a : Act} {w : World} {K : Act → World → Prop} {Q : Exit → Act → World → Prop} {ro : Option Nat} (h : OW P o a w K) : o.wpIn (Fw ro) 0 P a w K Q := by
 obtain ⟨hd, h⟩ := h
 refine ⟨fun _ _ => trivial, ?_⟩
 have e : o.semAt (Fw ro).round a.eval = execOp a.eval o := Oper.semAt_eq _ _ _ hd
 rw [e]
 generalize (execOp a.eval o).run P w = r at *
 cases r with
 | ok n w' =>
  cases n <;> simp only [upto] at h <;> simp only [Oper.uponIn] <;> first
   | exact h
   | exact ⟨fun q => by cases ro <;> simp [Fw, Fence.wide] at q, (callsIn_Fw h).mono (fun e w'' ⟨v, he, hk⟩ => by subst he; exact hk)⟩
   | exact ⟨fun q => by cases ro <;> simp [Fw, Fence.wide] at q, (RoundIn_Fw h).mono (fun e w'' ⟨v, he, hk⟩ => by subst he; exact hk)⟩
 | halt x w' => simp only [upto] at h
def wL (P : Program) (ops : Array Oper) (K : Act → World → Prop) : List Oper → Act → World → Prop
 | [], a, w => K a w
 | o :: rest, a, w => if Region.wanted o (yielded ops a.tmps) then OW P o a w (wL P ops K rest) else wL P ops K rest (a.put o.dst undef) w
theorem wL_in {P : Program} {ops : Array Oper} {Q : Exit → Act → World → Prop} {ro : Option Nat} : ∀ (l : List Oper) (a : Act) (w : World), wL P ops (Q .normal) l a w → wpListIn (Fw ro) 0 P ops Q l a w
 | [], a, w, h => h
 | o :: rest, a, w, h => by
  unfold wL at h
  unfold wpListIn
  split
  ·rename_i hw; rw [if_pos hw] at h
   exact (h.mono (fun a w hk => wL_in rest a w hk)).wpIn
  ·rename_i hw; rw [if_neg hw] at h
   exact ⟨fun _ _ => trivial, wL_in rest _ _ h⟩
section
variable {P : Program} {ops : Array Oper} {Q : Exit → Act → World → Prop} {K : Act → World → Prop} {a : Act} {N : Nat} {L : List (Nat × Value)} {D : List Deferred} {w w' : World} {v : Value} {rest : List Oper} {o : Oper} {d : Nat} {ro : Option Nat}
theorem regR {id : Nat} {l : List Oper} (h : wL P l.toArray (Q .normal) l a w) : (Code.region id l.toArray false).wpIn (Fw ro) 0 P Q a w :=
 wpIn_region_lit (wL_in l a w h)
theorem reg {id : Nat} {l : List Oper} (h : wL P l.toArray (Q .normal) l a w) : (Code.region id l.toArray false).wp P Q a w := wpIn_wide.1 (regR (ro := none) h)
theorem nil (h : K a w) : wL P ops K [] a w := h
theorem wL_plain (hg : o.guard = none) (h : OW P o a w (wL P ops K rest)) : wL P ops K (o :: rest) a w := by
 unfold wL; rw [if_pos (by simp [Region.wanted, hg])]; exact h
theorem no_defer {o : Oper} {r : Result Next} (hr : (execOp a.eval o).run P w = r) (hn : ∀ d w', r ≠ .ok (.defer d) w') (hh : ∀ x w', r ≠ .halt x w') : ∀ c, o.op ≠ .defer c := by
 intro c hc
 subst hr
 simp only [execOp, hc, Sem.run_bind] at hn hh
 cases h : (resolve a.eval c o.type).run P w with
 | ok d w1 => rw [h] at hn; exact hn d w1 rfl
 | halt x w1 => rw [h] at hh; exact hh x w1 rfl
theorem ow_value (hr : (execOp a.eval o).run P w = .ok (.value v) w') (h : K (a.put o.dst v) w') : OW P o a w K := ⟨no_defer hr (by simp) (by simp), by rw [hr]; exact h⟩
theorem ow_skip (hr : (execOp a.eval o).run P w = .ok .skip w') (h : K (a.put o.dst undef) w') : OW P o a w K := ⟨no_defer hr (by simp) (by simp), by rw [hr]; exact h⟩
theorem ow_enter {f : FuncId} {args : Array Value} (hr : (execOp a.eval o).run P w = .ok (.enter f args) w') (h : Calls P f args w' fun e w'' => ∃ v, e = .returned v ∧ K (a.put o.dst v) w'') : OW P o a w K := ⟨no_defer hr (by simp) (by simp), by rw [hr]; exact h⟩
theorem q_val (F : Fr a N L D) (hg : o.guard = none) (hd : o.dst = some d) (hN : d < N) (hr : (execOp a.eval o).run P w = .ok (.value v) w')
  (k : ∀ a', Fr a' N ((d, v) :: L) D → wL P ops K rest a' w') : wL P ops K (o :: rest) a w :=
 wL_plain hg (ow_value hr (by rw [hd]; exact k _ (F.put v hN)))
theorem q_skip (F : Fr a N L D) (hg : o.guard = none) (hd : o.dst = none) (hr : (execOp a.eval o).run P w = .ok .skip w')
  (k : ∀ a', Fr a' N L D → wL P ops K rest a' w') : wL P ops K (o :: rest) a w :=
 wL_plain hg (ow_skip hr (by rw [hd]; exact k _ F))
theorem q_call (F : Fr a N L D) (hg : o.guard = none) (hd : o.dst = some d) (hN : d < N) {f : FuncId} {args : Array Value} {R : Ending → World → Prop} (hr : (execOp a.eval o).run P w = .ok (.enter f args) w) (hc : Calls P f args w R)
  (k : ∀ e w', R e w' → ∃ v, e = .returned v ∧ ∀ a', Fr a' N ((d, v) :: L) D → wL P ops K rest a' w') : wL P ops K (o :: rest) a w :=
 wL_plain hg (ow_enter hr (hc.mono fun e w' hR => by
  obtain ⟨v, he, hk⟩ := k e w' hR
  exact ⟨v, he, by rw [hd]; exact hk _ (F.put v hN)⟩))
theorem yielded_of (F : Fr a N L D) {j dj : Nat} {b : Bool} (hj : (ops[j]?).bind (·.dst) = some dj) (hN : dj < N) (hv : lk L dj = some (.bool b)) : yielded ops a.tmps j = some b := by
 unfold yielded
 have h := F.get dj _ hv
 have hs := F.size
 simp only [Array.getD_eq_getD_getElem?] at h
 rw [hj]
 simp only [Option.bind_some]
 rw [show a.tmps[dj]? = some (a.tmps[dj]'(by omega)) from Array.getElem?_eq_getElem (by omega)] at h ⊢
 simp only [Option.getD_some] at h
 rw [h]
theorem q_yes (F : Fr a N L D) {op : Op} {dst : Option Tmp} {ty : TypeId} {pos : String} {af : Array Edge} {j dj : Nat} {b c : Bool} (hj : (ops[j]?).bind (·.dst) = some dj) (hN : dj < N) (hv : lk L dj = some (.bool b)) (hb : b = c)
  (h : wL P ops K ({ dst := dst, op := op, type := ty, pos := pos, after := af, guard := none } :: rest) a w) : wL P ops K ({ dst := dst, op := op, type := ty, pos := pos, after := af, guard := some (j, c) } :: rest) a w := by
 unfold wL at h ⊢
 have hw : Region.wanted { dst := dst, op := op, type := ty, pos := pos, after := af, guard := some (j, c) } (yielded ops a.tmps) = true := by
  simp [Region.wanted, yielded_of F hj hN hv, hb]
 rw [if_pos hw]
 rw [if_pos (by simp [Region.wanted])] at h
 exact h
theorem q_no (F : Fr a N L D) {op : Op} {d : Nat} {ty : TypeId} {pos : String} {af : Array Edge} {j dj : Nat} {b c : Bool} (hj : (ops[j]?).bind (·.dst) = some dj) (hN : dj < N) (hv : lk L dj = some (.bool b)) (hb : b = !c) (hd : d < N)
  (k : ∀ a', Fr a' N ((d, undef) :: L) D → wL P ops K rest a' w) : wL P ops K ({ dst := some d, op := op, type := ty, pos := pos, after := af, guard := some (j, c) } :: rest) a w := by
 unfold wL
 have hw : Region.wanted { dst := some d, op := op, type := ty, pos := pos, after := af, guard := some (j, c) } (yielded ops a.tmps) = false := by
  subst hb; cases c <;> simp [Region.wanted, yielded_of F hj hN hv]
 rw [if_neg (by rw [hw]; simp)]
 exact k _ (F.put undef hd)
variable {S : World → Prop} {fin : Nat}
def wO (P : Program) (ops : Array Oper) (i : Nat) (K : Act → World → Prop) (a : Act) (w : World) : Prop :=
 match ops[i]? with
 | none => K a w
 | some o => if Region.wanted o (yielded ops a.tmps) then OW P o a w K else K (a.put o.dst undef) w
theorem wO_mono {i : Nat} {K K' : Act → World → Prop} (h : ∀ a w, K a w → K' a w) (hh : wO P ops i K a w) : wO P ops i K' a w := by
 unfold wO at *
 split
 ·exact h _ _ (by simpa [*] using hh)
 ·rename_i o ho
  simp only [ho] at hh
  split
  ·rename_i hw; simp only [hw, if_true] at hh; exact hh.mono h
  ·rename_i hw; simp only [hw] at hh; exact h _ _ hh
theorem wO_in {i : Nat} {K : Act → World → Prop} (hh : wO P ops i K a w) : wpOpIn (Fw ro) 0 P ops Q i K a w := by
 unfold wO at hh
 unfold wpOpIn
 split
 ·rename_i ho; simpa [ho] using hh
 ·rename_i o ho
  simp only [ho] at hh
  split
  ·rename_i hw; simp only [hw, if_true] at hh; exact hh.wpIn
  ·rename_i hw; simp only [hw] at hh; exact ⟨fun _ _ => trivial, hh⟩
def wpD (P : Program) (ops : Array Oper) (K : Act → World → Prop) (S : World → Prop) (fin : Nat) : Nat → Array Bool → Act → World → Prop
 | 0, listed, a, w => Region.ready .any ops listed = [] ∧ K a w
 | fuel + 1, listed, a, w =>
  (Region.ready .any ops listed = [] → K a w) ∧
  ∀ i ∈ Region.ready .any ops listed, wO P ops i (fun a' w' => (i ≠ fin → S w') ∧ wpD P ops K S fin fuel (listed.setIfInBounds i true) a' w') a w
theorem wpAny_of_D : ∀ (fuel : Nat) (listed : Array Bool) (a : Act) (w : World), wpD P ops (Q .normal) S fin fuel listed a w → wpAnyIn (Fw ro) 0 P .any ops Q fuel listed a w
 | 0, _, _, _, h => h
 | fuel + 1, _, _, _, h => ⟨h.1, fun i hi => wpOpIn_mono (fun a' w' h' => wpAny_of_D fuel _ a' w' h'.2) (wO_in (h.2 i hi))⟩
theorem wO_of_yields {i : Nat} {v : Value} {K : Act → World → Prop} (hi : ops[i]? = some o) (hy : YieldsIf P ops S o v a) (hS : S w) (h : K (a.put o.dst v) w) : wO P ops i K a w := by
 unfold wO
 simp only [hi]
 rcases hy with ⟨hw, hv⟩ | ⟨hw, rfl⟩
 ·simp only [hw, if_true]; exact ow_value (hv w hS) h
 ·simp only [hw, Bool.false_eq_true, if_false]; exact h
theorem wO_putIf {j : Nat} {oi oj : Oper} {v : Value} (hj : ops[j]? = some oj) (hap : oi.apart ops oj = true)
  (hsi : ∀ cs b, oi.op ≠ .select cs b) (hsj : ∀ cs b, oj.op ≠ .select cs b) {K : Act → World → Prop}
  (hy : YieldsIf P ops S oi v a) (h : wO P ops j K (a.put oi.dst v) w) :
  wO P ops j (fun a' w' => YieldsIf P ops S oi v a' ∧ K (a'.put oi.dst v) w') a w := by
 obtain ⟨h1, h2, h3⟩ := Oper.apart_spec hap
 have keep : ∀ (a : Act), YieldsIf P ops S oi v a → ∀ u, YieldsIf P ops S oi v (a.put oj.dst u) := fun a hy u =>
  hy.of_same (execOp_put oi hsi a oj.dst u h3) (wanted_put oi a oj.dst u h3)
 unfold wO at *
 simp only [hj] at *
 rw [wanted_put oj a oi.dst v h1] at h
 split
 ·rename_i hw
  simp only [hw, if_true] at h
  refine ⟨h.1, ?_⟩
  have h := h.2
  rw [execOp_put oj hsj a oi.dst v h1] at h
  generalize (execOp a.eval oj).run P w = r at *
  cases r with
  | ok n w' =>
   cases n <;> simp only [upto] at h ⊢
   case value u => exact ⟨keep a hy u, by rw [← Act.put_comm a v u h2]; exact h⟩
   case skip => exact ⟨keep a hy _, by rw [← Act.put_comm a v undef h2]; exact h⟩
   case enter f args => exact Calls.mono h fun e w'' ⟨u, he, hk⟩ => ⟨u, he, keep a hy u, by rw [← Act.put_comm a v u h2]; exact hk⟩
   case round l f tmps as_ body => exact RoundIn.mono h fun e w'' ⟨u, he, hk⟩ => ⟨u, he, keep a hy u, by rw [← Act.put_comm a v u h2]; exact hk⟩
  | halt x w' => simp only [upto] at h
 ·rename_i hw
  simp only [hw] at h
  exact ⟨keep a hy _, by rw [← Act.put_comm a v undef h2]; exact h⟩
theorem wpD_first {i : Nat} {oi : Oper} {v : Value} (hi : ops[i]? = some oi) (hsel : ∀ (j : Nat) (o : Oper) cs b, ops[j]? = some o → o.op ≠ .select cs b)
  (hfin : ∀ o, ops[fin]? = some o → fin ≠ i → ∃ e ∈ o.after, Region.binds .any e = true ∧ e.on = i) :
  ∀ (fuel : Nat) (listed : Array Bool) (a : Act) (w : World),
   (∀ j oj, ops[j]? = some oj → j ≠ i → listed.getD j true = false → (∀ e ∈ oj.after, Region.binds .any e = true → e.on ≠ i) → oi.apart ops oj = true) →
   i ∈ Region.ready .any ops listed → YieldsIf P ops S oi v a → S w →
   wpD P ops K S fin fuel (listed.setIfInBounds i true) (a.put oi.dst v) w → wpD P ops K S fin (fuel + 1) listed a w := by
 intro fuel
 induction fuel with
 | zero =>
  intro listed a w _ hr hy hS H
  refine ⟨fun h => (by rw [h] at hr; cases hr), fun j hj => ?_⟩
  by_cases hji : j = i
  ·subst hji; exact wO_of_yields hi hy hS ⟨fun _ => hS, H⟩
  ·have := ready_mono hj hji
   rw [H.1] at this
   cases this
 | succ fuel ih =>
  intro listed a w hfree hr hy hS H
  refine ⟨fun h => (by rw [h] at hr; cases hr), fun j hj => ?_⟩
  by_cases hji : j = i
  ·subst hji; exact wO_of_yields hi hy hS ⟨fun _ => hS, H⟩
  ·have h1 := H.2 j (ready_mono hj hji)
   obtain ⟨hjun, oj, hoj, hall⟩ := mem_ready.1 hj
   have hnot : ∀ e ∈ oj.after, Region.binds .any e = true → e.on ≠ i := fun e he hb heq => by
    have h1 := hall e he hb
    have h0 := (mem_ready.1 hr).1
    rw [heq] at h1
    rcases Nat.lt_or_ge i listed.size with h' | h'
    ·simp [h'] at h0 h1; rw [h0] at h1; cases h1
    ·simp [Array.getElem?_eq_none h'] at h1
   have hjf : j ≠ fin := fun e => by
    subst e
    obtain ⟨e, he, hb, he2⟩ := hfin oj hoj hji
    exact hnot e he hb he2
   have h2 := wO_putIf hoj (hfree j oj hoj hji hjun hnot) (fun cs b => hsel i oi cs b hi) (fun cs b => hsel j oj cs b hoj) hy h1
   have hfree' : ∀ k ok, ops[k]? = some ok → k ≠ i → (listed.setIfInBounds j true).getD k true = false →
     (∀ e ∈ ok.after, Region.binds .any e = true → e.on ≠ i) → oi.apart ops ok = true := fun k ok hk hki hun hno => by
    refine hfree k ok hk hki ?_ hno
    by_cases hjk : j = k
    ·subst hjk; exact hjun
    ·rw [getD_set_ne true hjk] at hun; exact hun
   refine wO_mono (fun a' w' h3 => ⟨h3.2.1, ih (listed.setIfInBounds j true) a' w' hfree' (ready_mono hr (Ne.symm hji)) h3.1 (h3.2.1 hjf) ?_⟩) h2
   rw [Array.setIfInBounds_comm _ _ hji]
   exact h3.2.2
inductive Sch where
 | nil
 | q (i : Nat) (s : Sch)
 | e (i : Nat) (s : Sch)
 | f (i : Nat) (s : Sch) (j : Nat) (t : Sch)
 | g (i : Nat) (s : Sch) (j : Nat) (t : Sch) (k : Nat) (u : Sch)
def finOk (ops : Array Oper) (fin i : Nat) : Bool := fin == i || match ops[fin]? with
 | none => true
 | some o => o.after.any fun e => Region.binds .any e && e.on == i
def cert (ops : Array Oper) (fin : Nat) : Sch → Array Bool → Bool
 | .nil, l => (Region.ready .any ops l) == []
 | .q i s, l => (Region.ready .any ops l).contains i && Region.free .any ops l i && finOk ops fin i && cert ops fin s (l.setIfInBounds i true)
 | .e i s, l => (Region.ready .any ops l) == [i] && cert ops fin s (l.setIfInBounds i true)
 | .f i s j t, l => (Region.ready .any ops l) == [i, j] && cert ops fin s (l.setIfInBounds i true) && cert ops fin t (l.setIfInBounds j true)
 | .g i s j t k u, l => (Region.ready .any ops l) == [i, j, k] && cert ops fin s (l.setIfInBounds i true) && cert ops fin t (l.setIfInBounds j true) && cert ops fin u (l.setIfInBounds k true)
def Sch.len : Sch → Nat
 | .nil => 0
 | .q _ s => s.len + 1
 | .e _ s => s.len + 1
 | .f _ s _ t => max s.len t.len + 1
 | .g _ s _ t _ u => max (max s.len t.len) u.len + 1
def wpS (P : Program) (ops : Array Oper) (K : Act → World → Prop) (S : World → Prop) (fin : Nat) : Sch → Act → World → Prop
 | .nil, a, w => K a w
 | .q i s, a, w => ∃ o v, ops[i]? = some o ∧ YieldsIf P ops S o v a ∧ S w ∧ wpS P ops K S fin s (a.put o.dst v) w
 | .e i s, a, w => wO P ops i (fun a' w' => (i ≠ fin → S w') ∧ wpS P ops K S fin s a' w') a w
 | .f i s j t, a, w => wO P ops i (fun a' w' => (i ≠ fin → S w') ∧ wpS P ops K S fin s a' w') a w ∧ wO P ops j (fun a' w' => (j ≠ fin → S w') ∧ wpS P ops K S fin t a' w') a w
 | .g i s j t k u, a, w => wO P ops i (fun a' w' => (i ≠ fin → S w') ∧ wpS P ops K S fin s a' w') a w ∧ wO P ops j (fun a' w' => (j ≠ fin → S w') ∧ wpS P ops K S fin t a' w') a w ∧ wO P ops k (fun a' w' => (k ≠ fin → S w') ∧ wpS P ops K S fin u a' w') a w
theorem finOk_spec {i : Nat} (h : finOk ops fin i = true) : ∀ o, ops[fin]? = some o → fin ≠ i → ∃ e ∈ o.after, Region.binds .any e = true ∧ e.on = i := by
 intro o ho hne
 simp only [finOk, ho, Bool.or_eq_true, beq_iff_eq, hne, false_or] at h
 obtain ⟨e, he, hb⟩ := Array.any_eq_true'.1 h
 simp only [Bool.and_eq_true, beq_iff_eq] at hb
 exact ⟨e, he, hb.1, hb.2⟩
theorem wpD_done {listed : Array Bool} {a : Act} {w : World} (hr : Region.ready .any ops listed = []) (h : K a w) : ∀ fuel, wpD P ops K S fin fuel listed a w
 | 0 => ⟨hr, h⟩
 | _ + 1 => ⟨fun _ => h, by rw [hr]; simp⟩
theorem wpD_of_S (hsel : Region.noSelect ops = true) : ∀ (s : Sch) (fuel : Nat) (listed : Array Bool) (a : Act) (w : World), s.len ≤ fuel → cert ops fin s listed = true → wpS P ops K S fin s a w → wpD P ops K S fin fuel listed a w
 | .nil, fuel, listed, a, w, hf, hc, h => wpD_done (by simpa [cert] using hc) h fuel
 | .q i s, 0, _, _, _, hf, _, _ => by simp [Sch.len] at hf
 | .q i s, fuel + 1, listed, a, w, hf, hc, h => by
  simp only [cert, Bool.and_eq_true] at hc
  obtain ⟨⟨⟨h1, h2⟩, h3⟩, h4⟩ := hc
  obtain ⟨o, v, ho, hy, hS, hk⟩ := h
  exact wpD_first ho (Region.noSelect_spec hsel) (finOk_spec h3) fuel listed a w (Region.free_spec ho h2) (by simpa using h1) hy hS (wpD_of_S hsel s fuel _ _ _ (by simp [Sch.len] at hf; omega) h4 hk)
 | .e i s, 0, _, _, _, hf, _, _ => by simp [Sch.len] at hf
 | .e i s, fuel + 1, listed, a, w, hf, hc, h => by
  simp only [cert, Bool.and_eq_true, beq_iff_eq] at hc
  simp only [Sch.len] at hf
  refine ⟨fun h0 => absurd (hc.1 ▸ h0) (by simp), fun j hj => ?_⟩
  rw [hc.1] at hj
  simp only [List.mem_singleton] at hj
  subst hj
  exact wO_mono (fun a' w' h' => ⟨h'.1, wpD_of_S hsel s fuel _ _ _ (by omega) hc.2 h'.2⟩) h
 | .f i s j t, 0, _, _, _, hf, _, _ => by simp [Sch.len] at hf
 | .f i s j t, fuel + 1, listed, a, w, hf, hc, h => by
  simp only [cert, Bool.and_eq_true, beq_iff_eq] at hc
  obtain ⟨⟨h1, h2⟩, h3⟩ := hc
  simp only [Sch.len] at hf
  refine ⟨fun h0 => absurd (h1 ▸ h0) (by simp), fun x hx => ?_⟩
  rw [h1] at hx
  simp only [List.mem_cons, List.not_mem_nil, or_false] at hx
  rcases hx with rfl | rfl
  ·exact wO_mono (fun a' w' h' => ⟨h'.1, wpD_of_S hsel s fuel _ _ _ (by omega) h2 h'.2⟩) h.1
  ·exact wO_mono (fun a' w' h' => ⟨h'.1, wpD_of_S hsel t fuel _ _ _ (by omega) h3 h'.2⟩) h.2
 | .g i s j t k u, 0, _, _, _, hf, _, _ => by simp [Sch.len] at hf
 | .g i s j t k u, fuel + 1, listed, a, w, hf, hc, h => by
  simp only [cert, Bool.and_eq_true, beq_iff_eq] at hc
  obtain ⟨⟨⟨h1, h2⟩, h3⟩, h4⟩ := hc
  simp only [Sch.len] at hf
  refine ⟨fun h0 => absurd (h1 ▸ h0) (by simp), fun x hx => ?_⟩
  rw [h1] at hx
  simp only [List.mem_cons, List.not_mem_nil, or_false] at hx
  rcases hx with rfl | rfl | rfl
  ·exact wO_mono (fun a' w' h' => ⟨h'.1, wpD_of_S hsel s fuel _ _ _ (by omega) h2 h'.2⟩) h.1
  ·exact wO_mono (fun a' w' h' => ⟨h'.1, wpD_of_S hsel t fuel _ _ _ (by omega) h3 h'.2⟩) h.2.1
  ·exact wO_mono (fun a' w' h' => ⟨h'.1, wpD_of_S hsel u fuel _ _ _ (by omega) h4 h'.2⟩) h.2.2
theorem regDR {id : Nat} {a : Act} {w : World} (S : World → Prop) (fin : Nat) (s : Sch) (hm : P.follows .mixedOrders = true) (hc : (Region.noSelect ops && cert ops fin s (Array.replicate ops.size false) && Nat.ble s.len ops.size) = true)
  (h : ∀ w1 : World, w1.heap = w.heap → w1.os = w.os → w1.tape = w.tape → w1.output = w.output → wpS P ops (Q .normal) S fin s a w1) : (Code.region id ops true).wpIn (Fw ro) 0 P Q a w := by
 simp only [Bool.and_eq_true] at hc
 obtain ⟨⟨h1, h2⟩, h3⟩ := hc
 exact wpIn_region_any hm (wpAny_of_D (S := S) (fin := fin) _ _ _ _ (wpD_of_S h1 s _ _ _ _ (Nat.le_of_ble_eq_true h3) h2 (h _ rfl rfl rfl rfl)))
theorem regD {id : Nat} {a : Act} {w : World} (S : World → Prop) (fin : Nat) (s : Sch) (hm : P.follows .mixedOrders = true) (hc : (Region.noSelect ops && cert ops fin s (Array.replicate ops.size false) && Nat.ble s.len ops.size) = true)
  (h : ∀ w1 : World, w1.heap = w.heap → w1.os = w.os → w1.tape = w.tape → w1.output = w.output → wpS P ops (Q .normal) S fin s a w1) : (Code.region id ops true).wp P Q a w := wpIn_wide.1 (regDR (ro := none) S fin s hm hc h)
theorem d_nil (h : K a w) : wpS P ops K S fin .nil a w := h
theorem d_q {i : Nat} {s : Sch} (F : Fr a N L D) (ho : ops[i]? = some o) (hg : o.guard = none) (hd : o.dst = some d) (hN : d < N) (hr : ∀ w, S w → (execOp a.eval o).run P w = .ok (.value v) w) (hS : S w)
  (k : ∀ a', Fr a' N ((d, v) :: L) D → wpS P ops K S fin s a' w) : wpS P ops K S fin (.q i s) a w :=
 ⟨o, v, ho, .inl ⟨by simp [Region.wanted, hg], hr⟩, hS, by rw [hd]; exact k _ (F.put v hN)⟩
theorem wanted_yes (F : Fr a N L D) {j dj : Nat} {b c : Bool} (hg : o.guard = some (j, c)) (hj : (ops[j]?).bind (·.dst) = some dj) (hN : dj < N) (hv : lk L dj = some (.bool b)) (hb : b = c) : Region.wanted o (yielded ops a.tmps) = true := by
 simp [Region.wanted, hg, yielded_of F hj hN hv, hb]
theorem wanted_no (F : Fr a N L D) {j dj : Nat} {b c : Bool} (hg : o.guard = some (j, c)) (hj : (ops[j]?).bind (·.dst) = some dj) (hN : dj < N) (hv : lk L dj = some (.bool b)) (hb : b = !c) : Region.wanted o (yielded ops a.tmps) = false := by
 subst hb; cases c <;> simp [Region.wanted, hg, yielded_of F hj hN hv]
theorem d_qy {i : Nat} {s : Sch} (F : Fr a N L D) {j dj : Nat} {b c : Bool} (ho : ops[i]? = some o) (hg : o.guard = some (j, c)) (hj : (ops[j]?).bind (·.dst) = some dj) (hjN : dj < N) (hv : lk L dj = some (.bool b)) (hb : b = c) (hd : o.dst = some d) (hN : d < N) (hr : ∀ w, S w → (execOp a.eval o).run P w = .ok (.value v) w) (hS : S w)
  (k : ∀ a', Fr a' N ((d, v) :: L) D → wpS P ops K S fin s a' w) : wpS P ops K S fin (.q i s) a w :=
 ⟨o, v, ho, .inl ⟨wanted_yes F hg hj hjN hv hb, hr⟩, hS, by rw [hd]; exact k _ (F.put v hN)⟩
theorem d_qn {i : Nat} {s : Sch} (F : Fr a N L D) {j dj : Nat} {b c : Bool} (ho : ops[i]? = some o) (hg : o.guard = some (j, c)) (hj : (ops[j]?).bind (·.dst) = some dj) (hjN : dj < N) (hv : lk L dj = some (.bool b)) (hb : b = !c) (hd : o.dst = some d) (hN : d < N) (hS : S w)
  (k : ∀ a', Fr a' N ((d, undef) :: L) D → wpS P ops K S fin s a' w) : wpS P ops K S fin (.q i s) a w :=
 ⟨o, undef, ho, .inr ⟨wanted_no F hg hj hjN hv hb, rfl⟩, hS, by rw [hd]; exact k _ (F.put undef hN)⟩
theorem o_val {i : Nat} {K : Act → World → Prop} (F : Fr a N L D) (ho : ops[i]? = some o) (hg : o.guard = none) (hd : o.dst = some d) (hN : d < N) (hr : (execOp a.eval o).run P w = .ok (.value v) w') (k : ∀ a', Fr a' N ((d, v) :: L) D → K a' w') : wO P ops i K a w := by
 unfold wO; simp only [ho]
 rw [if_pos (by simp [Region.wanted, hg])]
 exact ow_value hr (by rw [hd]; exact k _ (F.put v hN))
theorem o_skip {i : Nat} {K : Act → World → Prop} (F : Fr a N L D) (ho : ops[i]? = some o) (hg : o.guard = none) (hd : o.dst = none) (hr : (execOp a.eval o).run P w = .ok .skip w') (k : ∀ a', Fr a' N L D → K a' w') : wO P ops i K a w := by
 unfold wO; simp only [ho]
 rw [if_pos (by simp [Region.wanted, hg])]
 exact ow_skip hr (by rw [hd]; exact k _ F)
theorem o_call {i : Nat} {K : Act → World → Prop} (F : Fr a N L D) (ho : ops[i]? = some o) (hg : Region.wanted o (yielded ops a.tmps) = true) (hd : o.dst = some d) (hN : d < N) {f : FuncId} {args : Array Value} {R : Ending → World → Prop} (hr : (execOp a.eval o).run P w = .ok (.enter f args) w) (hc : Calls P f args w R)
  (k : ∀ e w', R e w' → ∃ v, e = .returned v ∧ ∀ a', Fr a' N ((d, v) :: L) D → K a' w') : wO P ops i K a w := by
 unfold wO; simp only [ho]
 rw [if_pos hg]
 exact ow_enter hr (hc.mono fun e w' hR => by
  obtain ⟨v, he, hk⟩ := k e w' hR
  exact ⟨v, he, by rw [hd]; exact hk _ (F.put v hN)⟩)
theorem wanted_none {ops : Array Oper} {tm : Array Value} (hg : o.guard = none) : Region.wanted o (yielded ops tm) = true := by simp [Region.wanted, hg]
theorem loop_fuel {c : Code} (I : Nat → Act → World → Prop) {k : Nat} (h0 : I k a w)
  (hs : ∀ k (X : Act → World → Prop), (∀ j a w, j < k → I j a w → X a w) → ∀ a w, I k a w → c.wp P (Exit.then X Q) a w) : (Code.loop c).wp P Q a w := by
 intro b todo cs
 have key : ∀ k a w, I k a w → ∃ e a' w', Q e a' w' ∧ Arrives P (lone (b.at a (.code c :: .inLoop c :: todo)) cs w) b todo cs e a' w' := by
  intro k
  induction k using Nat.strongRecOn with
  | _ k ih =>
   intro a w hI
   obtain ⟨e, a₁, w₁, hq, harr⟩ := hs k (fun a w => ∃ j, j < k ∧ I j a w) (fun j a w hj h => ⟨j, hj, h⟩) a w hI b (.inLoop c :: todo) cs
   cases e with
   | normal =>
    obtain ⟨j, hj, hI₁⟩ := hq
    obtain ⟨e₂, a₂, w₂, hq₂, harr₂⟩ := ih j hj a₁ w₁ hI₁
    exact ⟨e₂, a₂, w₂, hq₂, .of_steps (Steps.trans harr (.one step_inLoop)) harr₂⟩
   | exit id => exact ⟨_, a₁, w₁, hq, .pass (x := .inLoop c) rfl (fun _ _ => .inl (by simp)) harr⟩
   | goto l => exact ⟨_, a₁, w₁, hq, .pass (x := .inLoop c) rfl (fun _ _ => .inl (by simp)) harr⟩
   | ret => exact ⟨_, a₁, w₁, hq, .pass (x := .inLoop c) rfl (fun _ _ => .inl (by simp)) harr⟩
   | panic ch => exact ⟨_, a₁, w₁, hq, .pass (x := .inLoop c) rfl (fun _ _ => .inl (by simp)) harr⟩
   | outgrown => exact ⟨_, a₁, w₁, hq, .pass (x := .inLoop c) rfl (fun _ _ => .inl (by simp)) harr⟩
 obtain ⟨e, a', w', hq, harr⟩ := key k a w h0
 exact ⟨e, a', w', hq, .of_steps (.one step_loop) harr⟩
end
end Go.Proofs.Ytdlokohmdnkdoaa.G
namespace Go.Proofs.Ytdlokohmdnkdoaa.G
open Go Go.RowKit
set_option linter.unusedVariables false
set_option linter.unusedSimpArgs false
structure Ev (M : Nat → Prop) (c : Nat → Nat) (w : World) (c' : Nat → Nat) (w' : World) : Prop where
 os : w'.os = w.os
 tape : w'.tape = w.tape
 out : w'.output = w.output
 size : w.heap.size ≤ w'.heap.size
 col : ∀ k, k < w.heap.size → ¬ M (c k) → c' k = c k
 blk : ∀ k, k < w.heap.size → ¬ M (c k) → w'.heap[k]? = w.heap[k]?
def No : Nat → Prop := fun _ => False
def CB (m : Nat) (c : Nat → Nat) (w : World) : Prop := ∀ k, k < w.heap.size → c k < m
section
variable {M M' : Nat → Prop} {c c' c1 : Nat → Nat} {w w' w1 : World} {m j : Nat}
theorem Ev.refl : Ev M c w c w := ⟨rfl, rfl, rfl, Nat.le_refl _, fun _ _ _ => rfl, fun _ _ _ => rfl⟩
theorem Ev.trans (h : Ev M c w c1 w1) (h2 : Ev M' c1 w1 c' w') (hM : ∀ k, M' k → M k) : Ev M c w c' w' :=
  ⟨h2.os.trans h.os, h2.tape.trans h.tape, h2.out.trans h.out, Nat.le_trans h.size h2.size, fun k hk hm => (h2.col k (Nat.lt_of_lt_of_le hk h.size) (by rw [h.col k hk hm]; exact fun q => hm (hM _ q))).trans (h.col k hk hm),
   fun k hk hm => (h2.blk k (Nat.lt_of_lt_of_le hk h.size) (by rw [h.col k hk hm]; exact fun q => hm (hM _ q))).trans (h.blk k hk hm)⟩
theorem Ev.mono (h : Ev M c w c' w') (hM : ∀ k, M k → M' k) : Ev M' c w c' w' := ⟨h.os, h.tape, h.out, h.size, fun k hk hm => h.col k hk (fun q => hm (hM _ q)), fun k hk hm => h.blk k hk (fun q => hm (hM _ q))⟩
theorem Ev.same (h1 : w1.heap = w.heap) (h2 : w1.os = w.os) (h3 : w1.tape = w.tape) (h4 : w1.output = w.output) : Ev M c w c w1 :=
 ⟨h2, h3, h4, by rw [h1]; exact Nat.le_refl _, fun _ _ _ => rfl, fun _ _ _ => by rw [h1]⟩
theorem CB.mono (h : CB m c w) {n : Nat} (hn : m ≤ n) : CB n c w := fun k hk => Nat.lt_of_lt_of_le (h k hk) hn
theorem CB.same (h : CB m c w) (h1 : w1.heap = w.heap) : CB m c w1 := fun k hk => h k (by rw [← h1]; exact hk)
theorem Ev.leave (h : Ev (fun k => M k ∨ m ≤ k) c w c1 w1) (hB : CB m c w) (r : Nat → Nat) (hr : ∀ x, x < m → r x = x) : Ev M c w (fun k => r (c1 k)) w1 :=
 ⟨h.os, h.tape, h.out, h.size, fun k hk hm => by show r (c1 k) = c k; rw [h.col k hk (fun q => q.elim hm (fun q => absurd (hB k hk) (by omega)))]; exact hr _ (hB k hk), fun k hk hm => h.blk k hk (fun q => q.elim hm (fun q => absurd (hB k hk) (by omega)))⟩
theorem Ev.freeze {x : Nat} (h : Ev (fun k => M k ∨ m ≤ k) c w c1 w1) (hB : CB m c w) (hx : m ≤ x) : Ev (fun k => M k ∨ m ≤ k) c w (fun k => if c1 k = x then 0 else c1 k) w1 := by
 refine ⟨h.os, h.tape, h.out, h.size, fun k hk hm => ?_, h.blk⟩
 have e := h.col k hk hm
 have := hB k hk
 show (if c1 k = x then 0 else c1 k) = c k
 rw [e, if_neg (by omega)]
theorem CB.freeze {x n : Nat} (h : CB n c w) (hx : 0 < n) : CB n (fun k => if c k = x then 0 else c k) w := fun k hk => by
 show (if c k = x then 0 else c k) < n
 have := h k hk
 split <;> omega
theorem Ev.below (h : Ev No c w c' w') : Below w.heap.size w w' := ⟨h.os, h.tape, h.out, h.size, fun k hk => h.blk k hk (fun q => q)⟩
end
theorem ne_mm {m a b : Nat} (h : a ≠ b) : ¬ (m + a = m + b) := by omega
theorem ne_z {x : Nat} (h : 0 < x) : ¬ (0 = x) := by omega
theorem ne_zm {m b : Nat} : ¬ (0 = m + (b + 1)) := by omega
theorem nq {p : Prop} (q : False) : p := q.elim
theorem mm {m a b : Nat} (h : a ≠ b := by decide) : ¬ (m + a = m + b) := ne_mm h
theorem ne_pm {m b j : Nat} (h : j < m) : ¬ (j = m + b) := by omega
theorem ne_mp {m b j : Nat} (h : j < m) : ¬ (m + b = j) := by omega
theorem nor {p q : Prop} (h : ¬ p) (h' : ¬ q) : ¬ (p ∨ q) := fun x => x.elim h h'
theorem le_col {x m k : Nat} (q : x = m + k) : m ≤ x := by omega
theorem len_ok {n B : Nat} (h : n * (B + 1) ≤ 140737488355328) : n ≤ maxLen := by
 have : n * 1 ≤ n * (B + 1) := Nat.mul_le_mul_left _ (by omega)
 unfold maxLen; omega
theorem n_ok {n : Nat} (h : n < 140737488355328) : n < maxLen := by unfold maxLen; omega
def AT (own : Bool) (j : Nat) (c : Nat → Nat) (w : World) (p : Addr) (cs : List Value) : Prop :=
 ∃ b off cur ty fz, p = ⟨b, off, none⟩ ∧ w.heap[b]? = some (.cells cur ty fz) ∧ c b = j ∧ (∀ k, k < cs.length → cur[off + k]? = cs[k]?) ∧ (own = true → ∀ k, k < cs.length → ¬ (fz.1 ≤ off + k ∧ off + k < fz.2))
section
variable {M : Nat → Prop} {c c' : Nat → Nat} {w w' : World} {j j' : Nat} {own : Bool} {p : Addr} {cs : List Value}
theorem lt_of_get {b : Nat} {o : Obj} (h : w.heap[b]? = some o) : b < w.heap.size := (Array.getElem?_eq_some_iff.1 h).1
theorem AT.ev (h : AT own j c w p cs) (E : Ev M c w c' w') (hj : ¬ M j := by first | exact nq | exact ne_zm | exact mm) : AT own j c' w' p cs := by
 obtain ⟨b, off, cur, ty, fz, e, hb, hc, h1, h2⟩ := h
 exact ⟨b, off, cur, ty, fz, e, (E.blk b (lt_of_get hb) (by rw [hc]; exact hj)).trans hb, (E.col b (lt_of_get hb) (by rw [hc]; exact hj)).trans hc, h1, h2⟩
theorem AT.rc (h : AT own j c w p cs) (hr : ∀ k, c k = j → c' k = j') : AT own j' c' w p cs := by
 obtain ⟨b, off, cur, ty, fz, e, hb, hc, h1, h2⟩ := h
 exact ⟨b, off, cur, ty, fz, e, hb, hr b hc, h1, h2⟩
theorem AT.r (h : AT own j c w p cs) : AT false j c w p cs := by
 obtain ⟨b, off, cur, ty, fz, e, hb, hc, h1, h2⟩ := h
 exact ⟨b, off, cur, ty, fz, e, hb, hc, h1, fun q => by cases q⟩
theorem add_eq (b off n : Nat) : (⟨b, off, none⟩ : Addr).add n = ⟨b, off + n, none⟩ := by
 unfold Addr.add; split
 ·subst_vars; rfl
 ·rfl
theorem AT.cell (h : AT own j c w p cs) {n : Nat} {v : Value} (hv : cs[n]? = some v) : w.cell? (p.add n) = some v := by
 obtain ⟨b, off, cur, ty, fz, rfl, hb, hc, h1, h2⟩ := h
 rw [add_eq]
 simp only [World.cell?, hb]
 rw [if_neg (by simp), h1 n (List.getElem?_eq_some_iff.1 hv).1, hv]
theorem AT.cell0 (h : AT own j c w p cs) {v : Value} (hv : cs[0]? = some v) : w.cell? p = some v := by
 have := h.cell hv
 obtain ⟨b, off, cur, ty, fz, rfl, hb, hc, h1, h2⟩ := h
 rwa [add_eq, Nat.add_zero] at this
theorem AT.free (h : AT true j c w p cs) {n : Nat} (hn : n < cs.length) : w.frozen? (p.add n) = false := by
 obtain ⟨b, off, cur, ty, fz, rfl, hb, hc, h1, h2⟩ := h
 rw [add_eq]
 simp only [World.frozen?, hb]
 have := h2 rfl n hn
 obtain ⟨lo, hi⟩ := fz
 simp only [Bool.and_eq_false_iff, decide_eq_false_iff_not]
 simp only at this
 omega
theorem AT.sub (h : AT own j c w p cs) (n m : Nat) (hn : n + m ≤ cs.length) : AT own j c w (p.add n) ((cs.drop n).take m) := by
 obtain ⟨b, off, cur, ty, fz, rfl, hb, hc, h1, h2⟩ := h
 refine ⟨b, off + n, cur, ty, fz, add_eq b off n, hb, hc, fun k hk => ?_, fun q k hk => ?_⟩
 ·simp only [List.length_take, List.length_drop] at hk
  rw [Nat.add_assoc, h1 (n + k) (by omega), List.getElem?_take_of_lt (by omega), List.getElem?_drop]
 ·simp only [List.length_take, List.length_drop] at hk
  have := h2 q (n + k) (by omega)
  rw [Nat.add_assoc]; exact this
theorem AT.set (h : AT true j c w p cs) {n : Nat} (hn : n < cs.length) (u : Value) : Ev (fun k => k = j) c w c (w.setCell (p.add n) u) ∧ AT true j c (w.setCell (p.add n) u) p (cs.set n u) ∧ (w.setCell (p.add n) u).heap.size = w.heap.size := by
 obtain ⟨b, off, cur, ty, fz, rfl, hb, hc, h1, h2⟩ := h
 rw [add_eq]
 have hz : (w.setCell ⟨b, off + n, none⟩ u).heap.size = w.heap.size := World.size_setCell ..
 refine ⟨⟨rfl, rfl, rfl, by rw [hz]; exact Nat.le_refl _, fun _ _ _ => rfl, fun k hk hm => ?_⟩, ⟨b, off, cur.setIfInBounds (off + n) u, ty, fz, rfl, ?_, hc, fun k hk => ?_, fun q k hk => h2 q k (by simpa using hk)⟩, hz⟩
 ·have hne : k ≠ b := fun e => hm (by rw [e]; exact hc)
  simp only [World.setCell]
  rw [Array.getElem?_modify, if_neg (Ne.symm hne)]
 ·simp only [World.setCell]
  rw [Array.getElem?_modify, if_pos rfl, hb]
  simp
 ·rw [List.length_set] at hk
  rw [Array.getElem?_setIfInBounds, List.getElem?_set]
  have hsz := h1 n hn
  by_cases q : n = k
  ·subst q
   rw [if_pos rfl, if_pos rfl, if_pos hn]
   have : off + n < cur.size := by
    rcases Nat.lt_or_ge (off + n) cur.size with g | g
    ·exact g
    ·rw [Array.getElem?_eq_none g, List.getElem?_eq_getElem hn] at hsz; cases hsz
   rw [if_pos this]
  ·rw [if_neg (by omega), if_neg q]; exact h1 k hk
theorem CB.size {m : Nat} (h : CB m c w) (hs : w'.heap.size = w.heap.size) : CB m c w' := fun k hk => h k (by omega)
def cset (c : Nat → Nat) (b x : Nat) : Nat → Nat := fun k => if k = b then x else c k
theorem alloc_new (c : Nat → Nat) (w : World) (cells : Array Value) (ty : TypeId) (fz : Nat × Nat) (x : Nat) (own : Bool) (hf : own = true → ∀ k, k < cells.size → ¬ (fz.1 ≤ k ∧ k < fz.2)) :
  Ev M c w (cset c w.heap.size x) (w.alloc (.cells cells ty fz)) ∧ AT own x (cset c w.heap.size x) (w.alloc (.cells cells ty fz)) ⟨w.heap.size, 0, none⟩ cells.toList ∧ (∀ m, CB m c w → x < m → CB m (cset c w.heap.size x) (w.alloc (.cells cells ty fz))) := by
 have hz : (w.alloc (.cells cells ty fz)).heap.size = w.heap.size + 1 := World.size_alloc ..
 have hk := MapKept.heap_alloc w (.cells cells ty fz)
 refine ⟨⟨rfl, rfl, rfl, by omega, fun k hk _ => by unfold cset; rw [if_neg (by omega)], fun k hlt _ => hk.2 k hlt⟩, ⟨w.heap.size, 0, cells, ty, fz, rfl, hk.1, by unfold cset; rw [if_pos rfl], fun k hk => by rw [Nat.zero_add]; exact Array.getElem?_toList.symm, fun q k hk => ?_⟩, fun m hm hx k hk => ?_⟩
 ·rw [Nat.zero_add]; exact hf q k (by simpa using hk)
 ·unfold cset
  split
  ·exact hx
  ·exact hm k (by omega)
end
structure K (α : Type) where
 sz : Nat
 pos : 0 < sz
 rep : Nat → (Nat → Nat) → World → List Value → α → Prop
 ev : ∀ {M : Nat → Prop} {i c w c' w' cs x}, rep i c w cs x → Ev M c w c' w' → ¬ M i → rep i c' w' cs x
 rc : ∀ {i i' c c' w cs x}, rep i c w cs x → (∀ k, c k = i → c' k = i') → rep i' c' w cs x
 len : ∀ {i c w cs x}, rep i c w cs x → cs.length = sz
 one : ∀ {i c w cs x}, rep i c w cs x → ∀ v ∈ cs, v.oneCell' = true
def Kint (k : IntKind) : K Int where
 sz := 1
 pos := by decide
 rep := fun _ _ _ cs x => cs = [.int k x]
 ev := fun h _ _ => h
 rc := fun h _ => h
 len := fun h => by rw [h]; rfl
 one := fun h v hv => by rw [h] at hv; simp at hv; subst hv; rfl
section
variable {α : Type} {M : Nat → Prop} {c c' : Nat → Nat} {w w' : World} {j j' i i' : Nat} {own : Bool} {e : K α} {v : Value} {xs : List α}
def Row (own : Bool) (j : Nat) (c : Nat → Nat) (w : World) (A : Option Addr) (cs : List Value) : Prop := cs = [] ∨ ∃ a, A = some a ∧ AT own j c w a cs
def SL (own : Bool) (e : K α) (j i : Nat) (c : Nat → Nat) (w : World) (A : Option Addr) (cap : Nat) (xs : List α) : Prop :=
 ∃ cs, xs.length ≤ cap ∧ cap ≤ maxLen ∧ cs.length = cap * e.sz ∧ Row own j c w A cs ∧ ∀ n (h : n < xs.length), e.rep i c w ((cs.drop (n * e.sz)).take e.sz) xs[n]
variable {A : Option Addr} {cap : Nat}
theorem Row.ev {A : Option Addr} {cs : List Value} (h : Row own j c w A cs) (E : Ev M c w c' w') (hj : ¬ M j) : Row own j c' w' A cs := h.imp id (fun ⟨a, e, h⟩ => ⟨a, e, h.ev E hj⟩)
theorem SL.ev (h : SL own e j i c w A cap xs) (E : Ev M c w c' w') (hj : ¬ M j := by first | exact nq | exact ne_zm | exact mm) (hi : ¬ M i := by first | exact nq | exact ne_zm | exact mm) : SL own e j i c' w' A cap xs := by
 obtain ⟨cs, h2, h3, h4, h5, h6⟩ := h
 exact ⟨cs, h2, h3, h4, h5.ev E hj, fun n hn => e.ev (h6 n hn) E hi⟩
theorem SL.rc (h : SL own e j i c w A cap xs) (hj : ∀ k, c k = j → c' k = j') (hi : ∀ k, c k = i → c' k = i') : SL own e j' i' c' w A cap xs := by
 obtain ⟨cs, h2, h3, h4, h5, h6⟩ := h
 exact ⟨cs, h2, h3, h4, h5.imp id (fun ⟨a, e, h⟩ => ⟨a, e, h.rc hj⟩), fun n hn => e.rc (h6 n hn) hi⟩
theorem SL.r (h : SL own e j i c w A cap xs) : SL false e j i c w A cap xs := by
 obtain ⟨cs, h2, h3, h4, h5, h6⟩ := h
 exact ⟨cs, h2, h3, h4, h5.imp id (fun ⟨a, e, h⟩ => ⟨a, e, h.r⟩), h6⟩
theorem SL.nil : SL own e j i c w none 0 [] := ⟨[], Nat.le_refl _, Nat.zero_le _, by simp, .inl rfl, fun n hn => absurd hn (by simp)⟩
theorem SL.lenB (h : SL own e j i c w A cap xs) : xs.length ≤ maxLen := by
 obtain ⟨cs, h2, h3, h4, h5, h6⟩ := h; omega
theorem SL.at [Inhabited α] (h : SL own e j i c w A cap xs) (k : Int) (h0 : 0 ≤ k) (h1 : k < xs.length) :
  ∃ a cs, A = some a ∧ AT own j c w (a.add (k.toNat * e.sz)) cs ∧ e.rep i c w cs (rd xs k) := by
 obtain ⟨cs, h2, h3, h4, h5, h6⟩ := h
 have hk : k.toNat < xs.length := by omega
 have hle : (k.toNat + 1) * e.sz ≤ cap * e.sz := Nat.mul_le_mul_right _ (by omega)
 have hle2 : k.toNat * e.sz + e.sz ≤ cs.length := by rw [h4, ← Nat.succ_mul]; exact hle
 have hp := e.pos
 rcases h5 with h5 | ⟨a, rfl, h5⟩
 ·subst h5; simp at hle2; omega
 ·refine ⟨a, (cs.drop (k.toNat * e.sz)).take e.sz, rfl, h5.sub _ _ hle2, ?_⟩
  have := h6 k.toNat hk
  unfold rd
  rw [List.getD_eq_getElem?_getD, List.getElem?_eq_getElem hk]
  exact this
theorem SL.cut (h : SL own e j i c w A cap xs) (l r m : Nat) (hl : l ≤ r) (hr : r ≤ xs.length) (hm : m ≤ cap) (hrm : r ≤ m) :
  SL own e j i c w (if m = l then A else A.map fun a => a.add (l * e.sz)) (m - l) ((xs.take r).drop l) := by
 obtain ⟨cs, h2, h3, h4, h5, h6⟩ := h
 have hp := e.pos
 have hsz : m * e.sz ≤ cap * e.sz := Nat.mul_le_mul_right _ hm
 have hml : l * e.sz + (m - l) * e.sz = m * e.sz := by rw [← Nat.add_mul]; congr 1; omega
 refine ⟨(cs.drop (l * e.sz)).take ((m - l) * e.sz), by simp; omega, by omega, by simp; omega, ?_, fun n hn => ?_⟩
 ·by_cases q : m = l
  ·subst q; left; simp
  ·rw [if_neg q]
   rcases h5 with h5 | ⟨a, rfl, h5⟩
   ·left; subst h5; simp
   ·right; exact ⟨_, rfl, h5.sub _ _ (by omega)⟩
 ·simp only [List.length_drop, List.length_take] at hn
  have h7 := h6 (l + n) (by omega)
  have hle : (l + n) * e.sz + e.sz ≤ m * e.sz := by rw [← Nat.succ_mul]; exact Nat.mul_le_mul_right _ (by omega)
  rw [Nat.add_mul] at hle
  have he : (((cs.drop (l * e.sz)).take ((m - l) * e.sz)).drop (n * e.sz)).take e.sz = (cs.drop ((l + n) * e.sz)).take e.sz := by
   rw [List.drop_take, List.take_take, List.drop_drop, Nat.add_mul]
   congr 1
   omega
  rw [he]
  have hx : ((xs.take r).drop l)[n]'(by simp; omega) = xs[l + n]'(by omega) := by simp
  rw [hx]; exact h7
end
def Kslice {α : Type} (e : K α) : K (List α) where
 sz := 1
 pos := by decide
 rep := fun i c w cs x => ∃ A cap, cs = [.slice A x.length cap] ∧ SL false e i i c w A cap x
 ev := fun ⟨A, cap, h, h2⟩ E hi => ⟨A, cap, h, h2.ev E hi hi⟩
 rc := fun ⟨A, cap, h, h2⟩ hr => ⟨A, cap, h, h2.rc hr hr⟩
 len := fun ⟨A, cap, h, _⟩ => by rw [h]; rfl
 one := fun ⟨A, cap, h, h2⟩ u hu => by rw [h] at hu; simp at hu; subst hu; rfl
section
variable {P : Program} {a : Act} {N : Nat} {L : List (Nat × Value)} {D : List Deferred} {w w' : World} {v u : Value} {x y : Operand} {d : Option Tmp} {t ty : TypeId} {pos : String} {af : Array Edge} {gd : Option (Nat × Bool)}
theorem r_move (F : Fr a N L D) (hx : ev L x = some v) : (execOp a.eval { dst := d, op := .move x, type := ty, pos := pos, after := af, guard := gd }).run P w = .ok (.value v) w := by
 simp [execOp, F.ev hx]
theorem r_assign (F : Fr a N L D) (hx : ev L x = some v) : (execOp a.eval { dst := d, op := .assign x, type := ty, pos := pos, after := af, guard := gd }).run P w = .ok (.value v) w := by
 simp [execOp, F.ev hx]
theorem r_pick_t (F : Fr a N L D) {z : Operand} {b : Bool} (hc : ev L z = some (.bool b)) (hb : b = true) (hx : ev L x = some v) : (execOp a.eval { dst := d, op := .pick z x y, type := ty, pos := pos, after := af, guard := gd }).run P w = .ok (.value v) w := by
 subst hb; simp [execOp, F.ev hx, F.ev hc, asBool]
theorem r_pick_f (F : Fr a N L D) {z : Operand} {b : Bool} (hc : ev L z = some (.bool b)) (hb : b = false) (hy : ev L y = some v) : (execOp a.eval { dst := d, op := .pick z x y, type := ty, pos := pos, after := af, guard := gd }).run P w = .ok (.value v) w := by
 subst hb; simp [execOp, F.ev hy, F.ev hc, asBool]
theorem r_nil (F : Fr a N L D) {p : Addr} (hx : ev L x = some (.pointer (some p))) : (execOp a.eval { dst := d, op := .nilCheck x, type := ty, pos := pos, after := af, guard := gd }).run P w = .ok (.value (.pointer (some p))) w := by
 simp [execOp, F.ev hx]
theorem r_fieldAddr (F : Fr a N L D) {p : Addr} {f off : Nat} (hx : ev L x = some (.pointer (some p))) (hf : ∀ q w, (Instr.fieldAt t (.pointer (some q)) f).run P w = .ok (.pointer (some (q.add off))) w) :
  (execOp a.eval { dst := d, op := .fieldAddr t x f, type := ty, pos := pos, after := af, guard := gd }).run P w = .ok (.value (.pointer (some (p.add off)))) w := by
 simp [execOp, F.ev hx, hf]
theorem r_load (F : Fr a N L D) {p : Addr} (hx : ev L x = some (.pointer (some p))) (ha : ∀ w, (isAgg t).run P w = .ok false w) (hc : w.cell? p = some v) :
  (execOp a.eval { dst := d, op := .load t x, type := ty, pos := pos, after := af, guard := gd }).run P w = .ok (.value v) w := by
 simp [execOp, F.ev hx, Instr.loadAt, Instr.sureAddr, loadVar, ha, run_load, hc]
theorem r_loads (F : Fr a N L D) {p : Addr} {cs : List Value} {own : Bool} {j : Nat} {c : Nat → Nat} (hx : ev L x = some (.pointer (some p))) (ha : ∀ w, (isAgg t).run P w = .ok true w) (hs : ∀ w, (sizeOf t).run P w = .ok cs.length w) (hc : AT own j c w p cs) :
  (execOp a.eval { dst := d, op := .load t x, type := ty, pos := pos, after := af, guard := gd }).run P w = .ok (.value (.agg cs.toArray)) w := by
 have h := run_loadCells_list (P := P) w p cs (fun j v hj => hc.cell hj)
 simp [execOp, F.ev hx, Instr.loadAt, Instr.sureAddr, loadVar, ha, hs, h]
theorem r_add (F : Fr a N L D) {k : IntKind} {m n : Int} {yt : TypeId} (hx : ev L x = some (.int k m)) (hy : ev L y = some (.int k n)) : (execOp a.eval { dst := d, op := .binOp .add t x y yt, type := ty, pos := pos, after := af, guard := gd }).run P w = .ok (.value (.int k (k.wrap (m + n)))) w := by
 simp [execOp, F.ev hx, F.ev hy, binOp, Op.intArith, eqGuard]
theorem r_sub (F : Fr a N L D) {k : IntKind} {m n : Int} {yt : TypeId} (hx : ev L x = some (.int k m)) (hy : ev L y = some (.int k n)) : (execOp a.eval { dst := d, op := .binOp .sub t x y yt, type := ty, pos := pos, after := af, guard := gd }).run P w = .ok (.value (.int k (k.wrap (m - n)))) w := by
 simp [execOp, F.ev hx, F.ev hy, binOp, Op.intArith, eqGuard]
theorem r_mul (F : Fr a N L D) {k : IntKind} {m n : Int} {yt : TypeId} (hx : ev L x = some (.int k m)) (hy : ev L y = some (.int k n)) : (execOp a.eval { dst := d, op := .binOp .mul t x y yt, type := ty, pos := pos, after := af, guard := gd }).run P w = .ok (.value (.int k (k.wrap (m * n)))) w := by
 simp [execOp, F.ev hx, F.ev hy, binOp, Op.intArith, eqGuard]
theorem r_quo (F : Fr a N L D) {k : IntKind} {m n : Int} {yt : TypeId} (hx : ev L x = some (.int k m)) (hy : ev L y = some (.int k n)) (h0 : n ≠ 0) : (execOp a.eval { dst := d, op := .binOp .quo t x y yt, type := ty, pos := pos, after := af, guard := gd }).run P w = .ok (.value (.int k (k.wrap (m.tdiv n)))) w := by
 simp [execOp, F.ev hx, F.ev hy, binOp, Op.intDiv, eqGuard, h0]
theorem r_rem (F : Fr a N L D) {k : IntKind} {m n : Int} {yt : TypeId} (hx : ev L x = some (.int k m)) (hy : ev L y = some (.int k n)) (h0 : n ≠ 0) : (execOp a.eval { dst := d, op := .binOp .rem t x y yt, type := ty, pos := pos, after := af, guard := gd }).run P w = .ok (.value (.int k (m.tmod n))) w := by
 simp [execOp, F.ev hx, F.ev hy, binOp, Op.intDiv, eqGuard, h0]
theorem r_lss (F : Fr a N L D) {k : IntKind} {m n : Int} {yt : TypeId} (hx : ev L x = some (.int k m)) (hy : ev L y = some (.int k n)) : (execOp a.eval { dst := d, op := .binOp .lss t x y yt, type := ty, pos := pos, after := af, guard := gd }).run P w = .ok (.value (.bool (decide (m < n)))) w := by
 simp [execOp, F.ev hx, F.ev hy, binOp, Op.intCmp, eqGuard]
theorem r_gtr (F : Fr a N L D) {k : IntKind} {m n : Int} {yt : TypeId} (hx : ev L x = some (.int k m)) (hy : ev L y = some (.int k n)) : (execOp a.eval { dst := d, op := .binOp .gtr t x y yt, type := ty, pos := pos, after := af, guard := gd }).run P w = .ok (.value (.bool (decide (n < m)))) w := by
 simp [execOp, F.ev hx, F.ev hy, binOp, Op.intCmp, eqGuard]
theorem r_geq (F : Fr a N L D) {k : IntKind} {m n : Int} {yt : TypeId} (hx : ev L x = some (.int k m)) (hy : ev L y = some (.int k n)) : (execOp a.eval { dst := d, op := .binOp .geq t x y yt, type := ty, pos := pos, after := af, guard := gd }).run P w = .ok (.value (.bool (decide (n ≤ m)))) w := by
 simp [execOp, F.ev hx, F.ev hy, binOp, Op.intCmp, eqGuard]
theorem r_eql (F : Fr a N L D) {k : IntKind} {m n : Int} {yt : TypeId} (hx : ev L x = some (.int k m)) (hy : ev L y = some (.int k n)) : (execOp a.eval { dst := d, op := .binOp .eql t x y yt, type := ty, pos := pos, after := af, guard := gd }).run P w = .ok (.value (.bool (decide (m = n)))) w := by
 simp [execOp, F.ev hx, F.ev hy, binOp, Op.intCmp, eqGuard]; rfl
theorem r_neq (F : Fr a N L D) {k : IntKind} {m n : Int} {yt : TypeId} (hx : ev L x = some (.int k m)) (hy : ev L y = some (.int k n)) : (execOp a.eval { dst := d, op := .binOp .neq t x y yt, type := ty, pos := pos, after := af, guard := gd }).run P w = .ok (.value (.bool (!decide (m = n)))) w := by
 simp [execOp, F.ev hx, F.ev hy, binOp, Op.intCmp, eqGuard, bne]; rfl
theorem r_peql (F : Fr a N L D) {p : Option Addr} {yt : TypeId} (hu : P.underlying t = some (.pointer (P.pointee t))) (hx : ev L x = some (.pointer p)) (hy : ev L y = some (.pointer none)) : (execOp a.eval { dst := d, op := .binOp .eql t x y yt, type := ty, pos := pos, after := af, guard := gd }).run P w = .ok (.value (.bool p.isNone)) w := by
 have h := run_eql_pointer_nil (P := P) (w := w) t p hu
 simp [execOp, F.ev hx, F.ev hy, eqGuard, h]
theorem r_not (F : Fr a N L D) {b : Bool} (hx : ev L x = some (.bool b)) : (execOp a.eval { dst := d, op := .unOp .not t x, type := ty, pos := pos, after := af, guard := gd }).run P w = .ok (.value (.bool (!b))) w := by
 simp [execOp, F.ev hx, Op.unary]
theorem r_extract (F : Fr a N L D) {vs : Array Value} {n : Nat} (hx : ev L x = some (.tuple vs)) (hv : vs[n]? = some v) : (execOp a.eval { dst := d, op := .extract x n, type := ty, pos := pos, after := af, guard := gd }).run P w = .ok (.value v) w := by
 simp [execOp, F.ev hx, Instr.extract, hv]
theorem r_convi (F : Fr a N L D) {k k' : IntKind} {n : Int} {s : TypeId} (hd : P.underlying t = some (.int k')) (hs : (P.underlying s).isSome = true) (hx : ev L x = some (.int k n)) : (execOp a.eval { dst := d, op := .convert s t x, type := ty, pos := pos, after := af, guard := gd }).run P w = .ok (.value (.int k' (k'.wrap n))) w := by
 obtain ⟨q, hq⟩ := Option.isSome_iff_exists.1 hs
 simp [execOp, F.ev hx, convert, run_underlying hq, run_underlying hd, Conv.intToInt]
theorem r_lensl (F : Fr a N L D) {A : Option Addr} {n cap : Nat} {e : TypeId} (hu : P.underlying t = some (.slice e)) (hx : ev L x = some (.slice A n cap)) : (execOp a.eval { dst := d, op := .call { callee := .builtin .len, args := #[x], argTypes := #[t] }, type := ty, pos := pos, after := af, guard := gd }).run P w = .ok (.value (.int .i64 n)) w := by
 simp [execOp, resolve, invoke, builtin, F.ev hx, Builtin.len_, run_underlying hu, goInt]
theorem r_indexAddr (F : Fr a N L D) {A : Addr} {n cap sz : Nat} {k : IntKind} {i : Int} {e : TypeId} (hu : P.underlying t = some (.slice e)) (hs : ∀ w, (sizeOf e).run P w = .ok sz w) (hx : ev L x = some (.slice (some A) n cap)) (hy : ev L y = some (.int k i)) (h0 : 0 ≤ i) (h1 : i < n) :
  (execOp a.eval { dst := d, op := .indexAddr t x y, type := ty, pos := pos, after := af, guard := gd }).run P w = .ok (.value (.pointer (some (A.add (i.toNat * sz))))) w := by
 simp [execOp, F.ev hx, F.ev hy, Instr.indexAt, asIntOf, run_underlying hu, hs, h0, h1]
theorem r_call (F : Fr a N L D) {f : FuncId} {fn : Func} {oz : Array Operand} {ats : Array TypeId} {vs : List Value} (hf : P.funcs[f]? = some fn) (hb : fn.body.isNone = false) (hn : (fn.name == "runtime.NumGoroutine") = false) (hv : oz.toList.map (ev L) = vs.map some) :
  (execOp a.eval { dst := d, op := .call { callee := .value (.func f), args := oz, argTypes := ats }, type := ty, pos := pos, after := af, guard := gd }).run P w = .ok (.enter f vs.toArray) w := by
 have e : oz.map a.eval = vs.toArray := by
  apply Array.toList_inj.1
  simp only [Array.toList_map]
  clear hf hb hn
  generalize oz.toList = l at hv ⊢
  induction l generalizing vs with
  | nil => cases vs with
   | nil => rfl
   | cons _ _ => simp at hv
  | cons t ts ih => cases vs with
   | nil => simp at hv
   | cons v vs =>
    simp only [List.map_cons, List.cons.injEq] at hv
    simp only [List.map_cons]
    rw [F.ev hv.1, ih hv.2]
 have ef : a.eval (.func f) = .func (.func f) #[] #[] := rfl
 have hn' : ¬ fn.name = "runtime.NumGoroutine" := by simpa using hn
 have hb' : ¬ fn.body = none := by intro q; rw [q] at hb; cases hb
 simp [execOp, resolve, Deferred.ofValue, ef, e, invoke, callFunc, hf, hb', hn']
end
section
variable {P : Program} {ops : Array Oper} {Q : Exit → Act → World → Prop} {K : Act → World → Prop} {a : Act} {N : Nat} {L : List (Nat × Value)} {D : List Deferred} {w w' : World} {rest : List Oper} {o : Oper} {d : Nat} {R : Value → World → Prop} {R0 : World → Prop}
theorem q_eff (F : Fr a N L D) (hg : o.guard = none) (hd : o.dst = some d) (hN : d < N) (h : ∃ v w', (execOp a.eval o).run P w = .ok (.value v) w' ∧ R v w')
  (k : ∀ v w' a', R v w' → Fr a' N ((d, v) :: L) D → wL P ops K rest a' w') : wL P ops K (o :: rest) a w := by
 obtain ⟨v, w', hr, hR⟩ := h
 exact q_val F hg hd hN hr fun a' F' => k v w' a' hR F'
theorem q_eff0 (F : Fr a N L D) (hg : o.guard = none) (hd : o.dst = none) (h : ∃ w', (execOp a.eval o).run P w = .ok .skip w' ∧ R0 w')
  (k : ∀ w' a', R0 w' → Fr a' N L D → wL P ops K rest a' w') : wL P ops K (o :: rest) a w := by
 obtain ⟨w', hr, hR⟩ := h
 exact q_skip F hg hd hr fun a' F' => k w' a' hR F'
theorem o_eff {i : Nat} {K : Act → World → Prop} (F : Fr a N L D) (ho : ops[i]? = some o) (hg : o.guard = none) (hd : o.dst = some d) (hN : d < N) (h : ∃ v w', (execOp a.eval o).run P w = .ok (.value v) w' ∧ R v w')
  (k : ∀ v w' a', R v w' → Fr a' N ((d, v) :: L) D → K a' w') : wO P ops i K a w := by
 obtain ⟨v, w', hr, hR⟩ := h
 exact o_val F ho hg hd hN hr fun a' F' => k v w' a' hR F'
theorem o_eff0 {i : Nat} {K : Act → World → Prop} (F : Fr a N L D) (ho : ops[i]? = some o) (hg : o.guard = none) (hd : o.dst = none) (h : ∃ w', (execOp a.eval o).run P w = .ok .skip w' ∧ R0 w')
  (k : ∀ w' a', R0 w' → Fr a' N L D → K a' w') : wO P ops i K a w := by
 obtain ⟨w', hr, hR⟩ := h
 exact o_skip F ho hg hd hr fun a' F' => k w' a' hR F'
end
section
variable {P : Program} {a : Act} {N : Nat} {L : List (Nat × Value)} {D : List Deferred} {w w' : World} {v u : Value} {x y : Operand} {d : Option Tmp} {t ty : TypeId} {pos : String} {af : Array Edge} {gd : Option (Nat × Bool)} {c : Nat → Nat} {j i : Nat}
def New (cs : List Value) (c : Nat → Nat) (w : World) (j : Nat) (v : Value) (w' : World) : Prop :=
 ∃ c' p, v = .pointer (some p) ∧ Ev No c w c' w' ∧ AT true j c' w' p cs ∧ ∀ m, CB m c w → j < m → CB m c' w'
theorem e_alloc (F : Fr a N L D) {e : TypeId} {z : Value} (hz : ∀ w, (zeroValue e).run P w = .ok z w) (c : Nat → Nat) (j : Nat) :
  ∃ v w', (execOp a.eval { dst := d, op := .alloc e, type := ty, pos := pos, after := af, guard := gd }).run P w = .ok (.value v) w' ∧ New z.cells.toList c w j v w' := by
 obtain ⟨h1, h2, h3⟩ := alloc_new (M := No) c w z.cells e (0, 0) j true (fun _ k _ => by simp)
 refine ⟨_, _, ?_, _, _, rfl, h1, h2, h3⟩
 simp [execOp, Instr.alloc, hz, newVar, newRow]
theorem e_box (F : Fr a N L D) {e : TypeId} (hx : ev L x = some v) (c : Nat → Nat) (j : Nat) :
  ∃ v' w', (execOp a.eval { dst := d, op := .box e x, type := ty, pos := pos, after := af, guard := gd }).run P w = .ok (.value v') w' ∧ New v.cells.toList c w j v' w' := by
 obtain ⟨h1, h2, h3⟩ := alloc_new (M := No) c w v.cells e (0, 0) j true (fun _ k _ => by simp)
 refine ⟨_, _, ?_, _, _, rfl, h1, h2, h3⟩
 simp [execOp, Instr.box, F.ev hx, newVar, newRow]
def evs (L : List (Nat × Value)) : List (Nat × Operand) → List (Nat × Value) → Prop
 | [], [] => True
 | (i, x) :: l, (k, v) :: m => i = k ∧ ev L x = some v ∧ evs L l m
 | _, _ => False
theorem evs_map (F : Fr a N L D) : ∀ {l : List (Nat × Operand)} {m : List (Nat × Value)}, evs L l m → l.map (fun p => (p.1, a.eval p.2)) = m
 | [], [], _ => rfl
 | (i, x) :: l, (k, v) :: m, ⟨h1, h2, h3⟩ => by
  simp only [List.map_cons, evs_map F h3, F.ev h2, h1]
 | [], _ :: _, h => h.elim
 | _ :: _, [], h => h.elim
theorem r_build (F : Fr a N L D) {ps : List (Nat × Operand)} (vs : List (Nat × Value)) (hv : evs L ps vs) (hb : ∀ w, (Instr.build t vs.toArray).run P w = .ok v w) :
  (execOp a.eval { dst := d, op := .build t ps.toArray, type := ty, pos := pos, after := af, guard := gd }).run P w = .ok (.value v) w := by
 have e : (ps.toArray.map fun (i, x) => (i, a.eval x)) = vs.toArray := by
  rw [← evs_map F hv]; simp
 simp only [execOp]
 rw [e]
 simp [hb]
def NewS {α : Type} (k : K α) (xs : List α) (c : Nat → Nat) (w : World) (j i : Nat) (v : Value) (w' : World) : Prop :=
 ∃ c' A cap, v = .slice A xs.length cap ∧ Ev No c w c' w' ∧ SL true k j i c' w' A cap xs ∧ ∀ m, CB m c w → j < m → CB m c' w'
def Els {α : Type} (k : K α) (i : Nat) (c : Nat → Nat) (w : World) : List Value → List α → Prop
 | _, [] => True
 | cs, x :: xs => k.rep i c w (cs.take k.sz) x ∧ Els k i c w (cs.drop k.sz) xs
theorem Els.spec {α : Type} {k : K α} : ∀ {xs : List α} {cs : List Value}, Els k i c w cs xs → ∀ n (h : n < xs.length), k.rep i c w ((cs.drop (n * k.sz)).take k.sz) xs[n]
 | [], _, _, n, h => absurd h (by simp)
 | x :: xs, cs, ⟨h1, h2⟩, 0, _ => by simpa using h1
 | x :: xs, cs, ⟨h1, h2⟩, n + 1, h => by
  have := Els.spec h2 n (by simpa using h)
  rw [List.drop_drop] at this
  rw [show (n + 1) * k.sz = k.sz + n * k.sz by rw [Nat.add_mul, Nat.one_mul, Nat.add_comm]]
  simpa using this
theorem e_buildSlice {α : Type} {k : K α} (F : Fr a N L D) {n : Nat} {e : TypeId} {ps : List (Nat × Operand)} (vs : List (Nat × Value)) (cs : List Value) (xs : List α) (hv : evs L ps vs)
  (hb : ∀ w, (Instr.buildSlice t n vs.toArray).run P w = .ok (.slice (some ⟨w.heap.size, 0, none⟩) n n) (w.alloc (.cells cs.toArray e (0, 0)))) (hn : n = xs.length) (hm : n ≤ maxLen) (hl : cs.length = n * k.sz) (hr : Els k i c w cs xs) (hi : ¬ No i) (j : Nat) :
  ∃ v' w', (execOp a.eval { dst := d, op := .buildSlice t n ps.toArray, type := ty, pos := pos, after := af, guard := gd }).run P w = .ok (.value v') w' ∧ NewS k xs c w j i v' w' := by
 subst hn
 obtain ⟨h1, h2, h3⟩ := alloc_new (M := No) c w cs.toArray e (0, 0) j true (fun _ k _ => by simp)
 have e : (ps.toArray.map fun (i, x) => (i, a.eval x)) = vs.toArray := by
  rw [← evs_map F hv]; simp
 refine ⟨_, _, ?_, _, _, _, rfl, h1, ⟨cs, Nat.le_refl _, hm, hl, .inr ⟨_, rfl, by simpa using h2⟩, fun n hn => k.ev (hr.spec n hn) h1 hi⟩, h3⟩
 simp only [execOp]
 rw [e]
 simp [hb]
theorem oneCell_cells {v : Value} (h : v.oneCell' = true) : v.cells = #[v] := by
 cases v <;> first | rfl | (simp [Value.oneCell'] at h)
theorem run_store1 {p : Addr} {cs : List Value} {n : Nat} (h : AT true j c w p cs) (hn : n < cs.length) (hu : u.oneCell' = true) : (store (p.add n) u).run P w = .ok () (w.setCell (p.add n) u) := by
 rw [run_store P w _ _ _ hu]
 have h1 := h.cell (List.getElem?_eq_getElem hn)
 rw [h1]
 simp [h.free hn]
theorem e_store (F : Fr a N L D) {p : Addr} {cs : List Value} {n : Nat} (hx : ev L x = some (.pointer (some (p.add n)))) (hy : ev L y = some u) (hs : ∀ w, (sizeOf t).run P w = .ok 1 w) (h : AT true j c w p cs) (hn : n < cs.length) (hu : u.oneCell' = true) :
  ∃ w', (execOp a.eval { dst := d, op := .store t x y, type := ty, pos := pos, after := af, guard := gd }).run P w = .ok .skip w' ∧ (Ev (fun k => k = j) c w c w' ∧ AT true j c w' p (cs.set n u) ∧ w'.heap.size = w.heap.size) := by
 refine ⟨_, ?_, h.set hn u⟩
 have h1 := run_store1 (P := P) h hn hu
 have h0 : ((p.add n).add 0) = p.add n := by simp [Addr.add]
 simp [execOp, F.ev hx, F.ev hy, Instr.storeAt, Instr.sureAddr, storeVar, hs, oneCell_cells hu, storeCells, h0, h1]
def lay (cs : List Value) (n : Nat) (us : List Value) : List Value := cs.take n ++ us ++ cs.drop (n + us.length)
theorem lay_length {cs us : List Value} {n : Nat} (h : n + us.length ≤ cs.length) : (lay cs n us).length = cs.length := by simp [lay]; omega
theorem lay_cons {cs us : List Value} {n : Nat} {u : Value} (h : n + (us.length + 1) ≤ cs.length) : lay (cs.set n u) (n + 1) us = lay cs n (u :: us) := by
 apply List.ext_getElem?
 intro k
 simp only [lay, List.getElem?_append, List.length_append, List.length_take, List.length_set, List.getElem?_take, List.getElem?_drop, List.getElem?_set, List.length_cons]
 by_cases h1 : k < n
 ·simp [h1, show k < n + 1 by omega, show k < cs.length by omega, show ¬ n = k by omega, show min n cs.length = n by omega, show min (n+1) cs.length = n+1 by omega, show k < n + (us.length + 1) by omega, show k < n + 1 + us.length by omega]
 ·by_cases h2 : k = n
  ·subst h2
   simp [show min k cs.length = k by omega, show min (k+1) cs.length = k+1 by omega, show k < cs.length by omega]
   intro q; omega
  ·by_cases h3 : k < n + (us.length + 1)
   ·obtain ⟨q, rfl⟩ : ∃ q, k = n + 1 + q := ⟨k - (n + 1), by omega⟩
    have e1 : n + 1 + q - n = q + 1 := by omega
    have e2 : n + 1 + q - (n + 1) = q := by omega
    have e3 : min n cs.length = n := by omega
    have e4 : min (n + 1) cs.length = n + 1 := by omega
    simp [e1, e2, e3, e4, show ¬ n + 1 + q < n by omega, show n + 1 + q < n + (us.length + 1) by omega, show n + 1 + q < n + 1 + us.length by omega, show ¬ (n + 1 + q < n + 1) by omega]
   ·have e1 : min n cs.length = n := by omega
    have e2 : min (n + 1) cs.length = n + 1 := by omega
    have e3 : ∀ z, ¬ n = n + 1 + us.length + z := by intro z; omega
    simp [e1, e2, h3, show ¬ k < n + 1 + us.length by omega, e3]
    congr 1; omega
theorem run_lay {p : Addr} : ∀ {us : List Value} {cs : List Value} {w : World} {n : Nat}, AT true j c w p cs → n + us.length ≤ cs.length → (∀ u ∈ us, u.oneCell' = true) → ∃ w', (storeCells (p.add n) us).run P w = .ok () w' ∧ Ev (fun k => k = j) c w c w' ∧ AT true j c w' p (lay cs n us) ∧ w'.heap.size = w.heap.size := by
 have key : ∀ (us : List Value) (cs : List Value) (w : World) (n q : Nat), AT true j c w p cs → n + q + us.length ≤ cs.length → (∀ u ∈ us, u.oneCell' = true) → ∃ w', (storeCells (p.add n) us q).run P w = .ok () w' ∧ Ev (fun k => k = j) c w c w' ∧ AT true j c w' p (lay cs (n + q) us) ∧ w'.heap.size = w.heap.size := by
  intro us
  induction us with
  | nil => intro cs w n q h hl _; exact ⟨w, rfl, Ev.refl, by simpa [lay] using h, rfl⟩
  | cons u us ih =>
   intro cs w n q h hl hu
   simp only [List.length_cons] at hl
   obtain ⟨E, h2, hz⟩ := h.set (n := n + q) (by omega) u
   have hs := run_store1 (P := P) (n := n + q) h (by omega) (hu u (by simp))
   obtain ⟨w', hr, E2, h3, hz2⟩ := ih (cs.set (n + q) u) (w.setCell (p.add (n + q)) u) n (q + 1) h2 (by simp; omega) (fun x hx => hu x (by simp [hx]))
   refine ⟨w', ?_, E.trans E2 (fun _ h => h), ?_, hz2.trans hz⟩
   ·have e : (p.add n).add q = p.add (n + q) := by
     obtain ⟨b, off, cur, ty, fz, rfl, _⟩ := h
     rw [add_eq, add_eq, add_eq, Nat.add_assoc]
    simp only [storeCells, Sem.run_bind, e, hs, Result.andThen_ok, hr]
   ·rw [← Nat.add_assoc, lay_cons (by omega)] at h3; exact h3
 intro us cs w n h hl hu
 exact key us cs w n 0 h (by omega) hu
theorem e_storeN (F : Fr a N L D) {p : Addr} {cs us : List Value} {n : Nat} (hx : ev L x = some (.pointer (some (p.add n)))) (hy : ev L y = some (.agg us.toArray)) (hs : ∀ w, (sizeOf t).run P w = .ok us.length w) (h : AT true j c w p cs) (hn : n + us.length ≤ cs.length) (hu : ∀ u ∈ us, u.oneCell' = true) :
  ∃ w', (execOp a.eval { dst := d, op := .store t x y, type := ty, pos := pos, after := af, guard := gd }).run P w = .ok .skip w' ∧ (Ev (fun k => k = j) c w c w' ∧ AT true j c w' p (lay cs n us) ∧ w'.heap.size = w.heap.size) := by
 obtain ⟨w', hr, h1⟩ := run_lay (P := P) h hn hu
 refine ⟨w', ?_, h1⟩
 simp [execOp, F.ev hx, F.ev hy, Instr.storeAt, Instr.sureAddr, storeVar, hs, Value.cells, hr]
end
structure ET (P : Program) (t e : TypeId) (sz bytes : Nat) (z : Value) : Prop where
 ht : P.underlying t = some (.slice e)
 hi : ∃ i, P.info? e = some i ∧ i.zero = some z ∧ i.size = sz ∧ i.bytes = bytes
 hz : z.cells.size = sz
theorem blk_old {cs r : List Value} {n sz q : Nat} (hq : q < n) (hn : n * sz ≤ cs.length) : ((cs.take (n * sz) ++ r).drop (q * sz)).take sz = (cs.drop (q * sz)).take sz := by
 have h1 : (q + 1) * sz ≤ n * sz := Nat.mul_le_mul_right _ (by omega)
 rw [Nat.add_mul, Nat.one_mul] at h1
 rw [List.drop_append_of_le_length (by simp; omega), List.take_append_of_le_length (by simp; omega), List.drop_take, List.take_take]
 congr 1; omega
theorem blk_new {os ds r : List Value} {n m sz q : Nat} (ho : os.length = n * sz) (hq : q < m) (hm : m * sz ≤ ds.length) : ((os ++ (ds.take (m * sz) ++ r)).drop ((n + q) * sz)).take sz = (ds.drop (q * sz)).take sz := by
 rw [Nat.add_mul, ← ho, ← List.drop_drop, List.drop_left]
 exact blk_old hq hm
section
variable {P : Program} {w w' : World} {c : Nat → Nat} {j j2 i : Nat} {own own2 : Bool} {A B : Option Addr} {cap cap2 : Nat} {t e ty : TypeId} {bytes : Nat} {z : Value} {α : Type} {k : K α} {xs ys : List α}
theorem run_first {sz n len : Nat} {cs : List Value} (h : Row own j c w A cs) (hl : cs.length = cap * sz) (hn : n ≤ cap) (w1 : World) (hw : w1.heap = w.heap) :
  (Builtin.firstCells sz n (.slice A len cap)).run P w1 = .ok (cs.take (n * sz)).toArray w1 := by
 have hle : n * sz ≤ cap * sz := Nat.mul_le_mul_right _ hn
 rcases h with h | ⟨a, rfl, h⟩
 ·subst h
  simp at hl
  have h0 : n * sz = 0 := by omega
  cases A with
  | none => rw [run_firstCells_none]; simp
  | some a => exact run_firstCells_some w1 sz n a len cap _ (by simp [h0]) (fun j v hj => by simp at hj)
 ·refine run_firstCells_some w1 sz n a len cap _ (by simp; omega) (fun q v hq => ?_)
  have hlt : q < n * sz := by have := (List.getElem?_eq_some_iff.1 hq).1; simp at this; omega
  rw [List.getElem?_take_of_lt hlt] at hq
  have := h.cell hq
  simp only [World.cell?, hw] at this ⊢
  exact this
theorem run_append (T : ET P t e k.sz bytes z) (h1 : SL true k j i c w A cap xs) (h2 : SL own2 k j2 i c w B cap2 ys) (hb : (xs.length + ys.length) * bytes ≤ 140737488355328) (hm : xs.length + ys.length ≤ maxLen) (hij : i ≠ j) :
  ∃ A' cap' w', (Builtin.append_ #[t, t] ty #[.slice A xs.length cap, .slice B ys.length cap2]).run P w = .ok (.slice A' (xs ++ ys).length cap') w' ∧
   ∃ c', Ev (fun x => x = j) c w c' w' ∧ SL true k j i c' w' A' cap' (xs ++ ys) ∧ ∀ m, CB m c w → j < m → CB m c' w' := by
 obtain ⟨cs, a1, a2, a3, a4, a5⟩ := h1
 obtain ⟨ds, b1, b2, b3, b4, b5⟩ := h2
 obtain ⟨inf, hi, hz, hs, hby⟩ := T.hi
 subst hby
 have hp := k.pos
 have xl : xs.length * k.sz ≤ cs.length := by rw [a3]; exact Nat.mul_le_mul_right _ a1
 have yl : ys.length * k.sz ≤ ds.length := by rw [b3]; exact Nat.mul_le_mul_right _ b1
 have hlen : (xs ++ ys).length = xs.length + ys.length := by simp
 have reps : ∀ (c' : Nat → Nat) (w' : World) (r : List Value), Ev (fun x => x = j) c w c' w' → ∀ n (h : n < (xs ++ ys).length), k.rep i c' w' (((cs.take (xs.length * k.sz) ++ (ds.take (ys.length * k.sz) ++ r)).drop (n * k.sz)).take k.sz) (xs ++ ys)[n] := by
  intro c' w' r E n hn
  by_cases q : n < xs.length
  ·rw [blk_old q xl, List.getElem_append_left q]; exact k.ev (a5 n q) E hij
  ·obtain ⟨q', rfl⟩ : ∃ q', n = xs.length + q' := ⟨n - xs.length, by omega⟩
   have hq' : q' < ys.length := by simp at hn; omega
   rw [blk_new (by simp; omega) hq' yl, List.getElem_append_right (by omega)]
   simp only [Nat.add_sub_cancel_left]
   exact k.ev (b5 q' hq') E hij
 have f2 := fun w1 hw => run_first (P := P) (len := ys.length) (n := ys.length) b4 b3 b1 w1 hw
 by_cases room : xs.length + ys.length ≤ cap
 ·rcases a4 with a4 | ⟨a, rfl, a4⟩
  ·have hc0 : cap = 0 := by
    subst a4
    have h : cap * k.sz = 0 := a3.symm
    rcases Nat.mul_eq_zero.1 h with h | h
    ·exact h
    ·omega
   have x0 : xs = [] := List.eq_nil_of_length_eq_zero (by omega)
   have y0 : ys = [] := List.eq_nil_of_length_eq_zero (by omega)
   subst x0 y0 hc0
   refine ⟨A, 0, w, ?_, c, Ev.refl, ⟨cs, by simp, by simp, a3, .inl a4, fun n hn => by simp at hn⟩, fun m hm _ => hm⟩
   have f3 := f2 w rfl
   simp at f3
   cases A <;> simp [Builtin.append_, run_underlying T.ht, sizeOf, typeInfo, hi, hs, Builtin.lenOf, f3, storeCells]
  ·obtain ⟨w1, hr, E, hat, hsz⟩ := run_lay (P := P) (n := xs.length * k.sz) (us := ds.take (ys.length * k.sz)) a4 (by
     have : (xs.length + ys.length) * k.sz ≤ cap * k.sz := Nat.mul_le_mul_right _ room
     rw [Nat.add_mul] at this
     simp; omega) (fun u hu => by
     obtain ⟨q, hq, rfl⟩ := List.getElem_of_mem hu
     simp at hq
     have hlt : q / k.sz < ys.length := Nat.div_lt_of_lt_mul (by rw [Nat.mul_comm]; omega)
     have hone := k.one (b5 (q / k.sz) hlt)
     apply hone
     rw [List.getElem_take]
     have e1 : ((ds.drop (q / k.sz * k.sz)).take k.sz)[q % k.sz]? = some ds[q] := by
      rw [List.getElem?_take_of_lt (Nat.mod_lt _ hp), List.getElem?_drop, Nat.div_add_mod' q k.sz, List.getElem?_eq_getElem]
     exact List.mem_of_getElem? e1)
   refine ⟨some a, cap, w1, ?_, c, E, ⟨lay cs (xs.length * k.sz) (ds.take (ys.length * k.sz)), by rw [hlen]; exact room, a2, ?_, .inr ⟨a, rfl, hat⟩, fun n hn => ?_⟩, fun m hm _ => hm.size hsz⟩
   ·have f3 := f2 w rfl
    simp only [Builtin.append_, Sem.run_bind]
    simp [run_underlying T.ht, sizeOf, typeInfo, hi, hs, Builtin.lenOf, room, f3, hr]
   ·rw [lay_length]
    ·exact a3
    ·have : (xs.length + ys.length) * k.sz ≤ cap * k.sz := Nat.mul_le_mul_right _ room
     rw [Nat.add_mul] at this
     simp; omega
   ·have := reps c w1 (cs.drop (xs.length * k.sz + (ds.take (ys.length * k.sz)).length)) E n hn
    unfold lay
    rw [List.append_assoc]; exact this
 ·have f1 := fun w1 hw => run_first (P := P) (len := xs.length) (n := xs.length) a4 a3 a1 w1 hw
  have hg : cap < xs.length + ys.length := by omega
  have h63' : ¬ (9223372036854775807 < ((xs.length : Int) + (ys.length : Int))) := by simp only [maxLen] at hm; omega
  have h48' : ¬ (281474976710656 < Builtin.nextslicecap (xs.length + ys.length) cap * inf.bytes) := by have := growslice_fits hg hb; omega
  have g1 := grownCap_ge w (xs.length + ys.length) cap e
  have g2 := grownCap_le_maxLen w (xs.length + ys.length) cap e hm
  have e1 := f1 w.drew rfl
  have e2 := f2 w.drew rfl
  obtain ⟨n1, n2, n3⟩ := alloc_new (M := fun x => x = j) c w.drew ((cs.take (xs.length * k.sz)).toArray ++ (ds.take (ys.length * k.sz)).toArray ++ Builtin.zeroCells z.cells (grownCap w (xs.length + ys.length) cap e - (xs.length + ys.length))) e (0, 0) j true (fun _ k _ => by simp)
  refine ⟨some ⟨w.heap.size, 0, none⟩, grownCap w (xs.length + ys.length) cap e, _, ?_, _, ⟨n1.os, n1.tape, n1.out, n1.size, n1.col, n1.blk⟩, ⟨_, by rw [hlen]; exact g1, g2, ?_, .inr ⟨_, rfl, n2⟩, fun n hn => ?_⟩, fun m hm hj => n3 m (fun k hk => hm k hk) hj⟩
  ·rw [hlen]
   simp [Builtin.append_, run_underlying T.ht, sizeOf, typeInfo, zeroValue, hi, hz, hs, Builtin.lenOf, room, h63', h48', Question.forced, e1, e2, newRow, grownCap]
   congr 2
   apply Array.ext'
   simp [List.append_assoc]
  ·have hzz : (Builtin.zeroCells z.cells (grownCap w (xs.length + ys.length) cap e - (xs.length + ys.length))).size = (grownCap w (xs.length + ys.length) cap e - (xs.length + ys.length)) * k.sz := by rw [← T.hz]; simp [Builtin.zeroCells]
   simp [hzz]
   rw [Nat.min_eq_left xl, Nat.min_eq_left yl, ← Nat.add_mul, ← Nat.add_mul]
   congr 1; omega
  ·have := reps _ _ (Builtin.zeroCells z.cells (grownCap w (xs.length + ys.length) cap e - (xs.length + ys.length))).toList (⟨n1.os, n1.tape, n1.out, n1.size, n1.col, n1.blk⟩ : Ev (fun x => x = j) c w _ _) n hn
   simpa [List.append_assoc] using this
end
section
variable {P : Program} {a : Act} {N : Nat} {L : List (Nat × Value)} {D : List Deferred} {w w' : World} {v u : Value} {x y : Operand} {d : Option Tmp} {t e ty : TypeId} {pos : String} {af : Array Edge} {gd : Option (Nat × Bool)} {c : Nat → Nat} {j j2 i : Nat} {own own2 : Bool} {A B : Option Addr} {cap cap2 : Nat} {bytes : Nat} {z : Value} {α : Type} {k : K α} {xs ys : List α}
def NewA {α : Type} (k : K α) (xs : List α) (c : Nat → Nat) (w : World) (j i : Nat) (v : Value) (w' : World) : Prop :=
 ∃ c' A cap, v = .slice A xs.length cap ∧ Ev (fun x => x = j) c w c' w' ∧ SL true k j i c' w' A cap xs ∧ ∀ m, CB m c w → j < m → CB m c' w'
theorem e_append (F : Fr a N L D) (T : ET P t e k.sz bytes z) (hx : ev L x = some (.slice A xs.length cap)) (hy : ev L y = some (.slice B ys.length cap2)) (h1 : SL true k j i c w A cap xs) (h2 : SL own2 k j2 i c w B cap2 ys) (hb : (xs.length + ys.length) * bytes ≤ 140737488355328) (hm : xs.length + ys.length ≤ maxLen) (hij : i ≠ j) :
  ∃ v w', (execOp a.eval { dst := d, op := .call { callee := .builtin .append, args := #[x, y], argTypes := #[t, t] }, type := ty, pos := pos, after := af, guard := gd }).run P w = .ok (.value v) w' ∧ NewA k (xs ++ ys) c w j i v w' := by
 obtain ⟨A', cap', w1, hr, c', h⟩ := run_append (ty := ty) T h1 h2 hb hm hij
 refine ⟨_, w1, ?_, c', A', cap', rfl, h⟩
 simp [execOp, resolve, invoke, builtin, F.ev hx, F.ev hy, hr]
theorem r_slice (F : Fr a N L D) {lo hi mx : Option Operand} {vl vh vm : Option Value} (hx : ev L x = some (.slice A xs.length cap)) (h1 : lo.map (ev L) = vl.map some) (h2 : hi.map (ev L) = vh.map some) (h3 : mx.map (ev L) = vm.map some)
  (hr : ∀ w, (Instr.sliceAt t (.slice A xs.length cap) vl vh vm).run P w = .ok v w) :
  (execOp a.eval { dst := d, op := .slice t x lo hi mx, type := ty, pos := pos, after := af, guard := gd }).run P w = .ok (.value v) w := by
 have e1 : lo.map a.eval = vl := by
  cases lo <;> cases vl <;> simp at h1 ⊢; rw [F.ev h1]
 have e2 : hi.map a.eval = vh := by
  cases hi <;> cases vh <;> simp at h2 ⊢; rw [F.ev h2]
 have e3 : mx.map a.eval = vm := by
  cases mx <;> cases vm <;> simp at h3 ⊢; rw [F.ev h3]
 simp [execOp, F.ev hx, e1, e2, e3, hr]
theorem run_cut {n l r m : Nat} {e : TypeId} {sz : Nat} (hu : P.underlying t = some (.slice e)) (hs : ∀ w, (sizeOf e).run P w = .ok sz w) (vl vh vm : Option Value)
  (hb : ∀ w, (Instr.sliceBounds true n cap vl vh vm).run P w = .ok (l, r, m) w) : ∀ w, (Instr.sliceAt t (.slice A n cap) vl vh vm).run P w = .ok (.slice (if m = l then A else A.map fun a => a.add (l * sz)) (r - l) (m - l)) w := by
 intro w
 simp [Instr.sliceAt, run_underlying hu, Instr.slice, hb, hs]
theorem sb_h {n : Nat} {kh : IntKind} {h : Int} (h1 : 0 ≤ h) (h2 : h ≤ cap) : ∀ w, (Instr.sliceBounds true n cap none (some (.int kh h)) none).run P w = .ok (0, h.toNat, cap) w := by
 intro w
 simp [Instr.sliceBounds, Instr.sliceBound, asIntOf, h1, h2]
end
section
variable {P : Program} {ops : Array Oper} {Q : Exit → Act → World → Prop} {K : Act → World → Prop} {a : Act} {N : Nat} {L : List (Nat × Value)} {D : List Deferred} {w w' : World} {v u : Value} {x y : Operand} {d : Option Tmp} {t ty : TypeId} {pos : String} {af : Array Edge} {gd : Option (Nat × Bool)} {c : Nat → Nat} {j i : Nat} {own : Bool} {id id' : Nat}
theorem thenE (h : Q (.exit id) a w) : Exit.then K Q (.exit id) a w := h
theorem thenR (h : Q .ret a w) : Exit.then K Q .ret a w := h
theorem inbR (h : Q .ret a w) : Exit.inBlock id Q .ret a w := h
theorem inbE (h : Q .normal a w) : Exit.inBlock id Q (.exit id) a w := by simp only [Exit.inBlock, if_true]; exact h
theorem d_e {S : World → Prop} {fin i : Nat} {s : Sch} (h : wO P ops i (fun a' w' => (i ≠ fin → S w') ∧ wpS P ops K S fin s a' w') a w) : wpS P ops K S fin (.e i s) a w := h
theorem o_no {i : Nat} {o : Oper} {d : Nat} (F : Fr a N L D) {j dj : Nat} {b c : Bool} (ho : ops[i]? = some o) (hg : o.guard = some (j, c)) (hj : (ops[j]?).bind (·.dst) = some dj) (hjN : dj < N) (hv : lk L dj = some (.bool b)) (hb : b = !c) (hd : o.dst = some d) (hN : d < N)
  (k : ∀ a', Fr a' N ((d, undef) :: L) D → K a' w) : wO P ops i K a w := by
 unfold wO; simp only [ho]
 rw [if_neg (by rw [wanted_no F hg hj hjN hv hb]; simp)]
 rw [hd]; exact k _ (F.put undef hN)
def SB (M : Nat → Prop) (c : Nat → Nat) (w w' : World) : Prop := Ev M c w c w'
variable {M : Nat → Prop} {p : Addr} {cs : List Value}
theorem Ev.sb {c' : Nat → Nat} (E : Ev M c w c' w') : SB M c w w' := ⟨E.os, E.tape, E.out, E.size, fun _ _ _ => rfl, E.blk⟩
theorem AT.sb (h : AT own j c w p cs) (hS : SB M c w w') (hj : ¬ M j) : AT own j c w' p cs := h.ev hS hj
theorem one_all {us : List Value} (h : us.all (·.oneCell') = true) : ∀ u ∈ us, u.oneCell' = true := fun u hu => List.all_eq_true.1 h u hu
theorem r_fieldAddr2 (F : Fr a N L D) {n f off : Nat} (h : AT own j c w' p cs) (hx : ev L x = some (.pointer (some (p.add n)))) (hf : ∀ q w, (Instr.fieldAt t (.pointer (some q)) f).run P w = .ok (.pointer (some (q.add off))) w) :
  (execOp a.eval { dst := d, op := .fieldAddr t x f, type := ty, pos := pos, after := af, guard := gd }).run P w = .ok (.value (.pointer (some (p.add (n + off))))) w := by
 have e : (p.add n).add off = p.add (n + off) := by
  obtain ⟨b, o, cur, ty, fz, rfl, _⟩ := h
  rw [add_eq, add_eq, add_eq, Nat.add_assoc]
 rw [r_fieldAddr F hx hf, e]
theorem r_peqlA (F : Fr a N L D) {q : Option Addr} {yt : TypeId} {b : Bool} (hu : P.underlying t = some (.pointer (P.pointee t))) (hx : ev L x = some (.pointer q)) (hy : ev L y = some (.pointer none)) (hb : q.isNone = b) : (execOp a.eval { dst := d, op := .binOp .eql t x y yt, type := ty, pos := pos, after := af, guard := gd }).run P w = .ok (.value (.bool b)) w := by
 rw [r_peql F hu hx hy, hb]
theorem e_storeN0 (F : Fr a N L D) {us : List Value} (hx : ev L x = some (.pointer (some p))) (hy : ev L y = some (.agg us.toArray)) (hs : ∀ w, (sizeOf t).run P w = .ok us.length w) (h : AT true j c w p cs) (hn : 0 + us.length ≤ cs.length) (hu : ∀ u ∈ us, u.oneCell' = true) :
  ∃ w', (execOp a.eval { dst := d, op := .store t x y, type := ty, pos := pos, after := af, guard := gd }).run P w = .ok .skip w' ∧ (Ev (fun k => k = j) c w c w' ∧ AT true j c w' p (lay cs 0 us) ∧ w'.heap.size = w.heap.size) := by
 have e : p.add 0 = p := by simp [Addr.add]
 exact e_storeN F (by rw [e]; exact hx) hy hs h hn hu
theorem r_indexAddr' (F : Fr a N L D) {A : Option Addr} {A' q : Addr} {n cap sz : Nat} {k : IntKind} {i : Int} {e : TypeId} (hu : P.underlying t = some (.slice e)) (hs : ∀ w, (sizeOf e).run P w = .ok sz w) (hx : ev L x = some (.slice A n cap)) (hy : ev L y = some (.int k i)) (h0 : 0 ≤ i) (h1 : i < n) (hA : A = some A') (hq : q = A'.add (i.toNat * sz)) :
  (execOp a.eval { dst := d, op := .indexAddr t x y, type := ty, pos := pos, after := af, guard := gd }).run P w = .ok (.value (.pointer (some q))) w := by
 subst hA; subst hq; exact r_indexAddr F hu hs hx hy h0 h1
theorem info_parts' {e : TypeId} {z : Value} {sz by_ : Nat} (h : (P.info? e).map (fun i => (i.zero, i.size, i.bytes)) = some (some z, sz, by_)) : ∃ i, P.info? e = some i ∧ i.zero = some z ∧ i.size = sz ∧ i.bytes = by_ := by
 cases hi : P.info? e with
 | none => rw [hi] at h; cases h
 | some i => rw [hi] at h; simp at h; exact ⟨i, rfl, h.1, h.2.1, h.2.2⟩
def RV (P : Program) (L : List (Nat × Value)) (w : World) : ResultVar → Value → Prop
 | .tmp t, v => lk L t = some v
 | .cell q t, v => ∃ p, lk L q = some (.pointer (some p)) ∧ (loadVar t p).run P w = .ok v w
theorem lv_agg (ha : ∀ w, (isAgg t).run P w = .ok true w) (hs : ∀ w, (sizeOf t).run P w = .ok cs.length w) (hc : AT own j c w p cs) : (loadVar t p).run P w = .ok (.agg cs.toArray) w := by
 have h := run_loadCells_list (P := P) w p cs (fun j v hj => hc.cell hj)
 simp [loadVar, ha, hs, h]
def rvS (tmps : Array Value) : ResultVar → Sem Value
 | .tmp t => pure (tmps.getD t undef)
 | .cell a t => do loadVar t (← asAddr (tmps.getD a undef))
theorem RV.run (F : Fr a N L D) {r : ResultVar} (h : RV P L w r v) : (rvS a.tmps r).run P w = .ok v w := by
 cases r with
 | tmp t => simp only [rvS, Sem.run_pure]; rw [F.get t v h]
 | cell q t =>
  obtain ⟨p, h1, h2⟩ := h
  simp only [rvS, Sem.run_bind]; rw [F.get q _ h1]
  simp [asAddr, h2]
theorem outR1 {fn : Func} {r1 : ResultVar} {v1 : Value} {R : Ending → World → Prop} (F : Fr a N L) (hr : fn.results = #[r1]) (h1 : RV P L w r1 v1) (h : R (.returned v1) w) : bodyPost P fn R .ret a w := by
 refine ⟨F.dfr, v1, ?_, h⟩
 have e1 := h1.run F
 show Sem.run P (results fn a.tmps) w = _
 unfold results; rw [hr]
 change Sem.run P ((do let vs ← #[r1].mapM (rvS a.tmps); pure (if h : vs.size = 1 then vs[0] else .tuple vs)) : Sem Value) w = _
 simp [e1]
theorem outR2 {fn : Func} {r1 r2 : ResultVar} {v1 v2 : Value} {R : Ending → World → Prop} (F : Fr a N L) (hr : fn.results = #[r1, r2]) (h1 : RV P L w r1 v1) (h2 : RV P L w r2 v2) (h : R (.returned (.tuple #[v1, v2])) w) : bodyPost P fn R .ret a w := by
 refine ⟨F.dfr, .tuple #[v1, v2], ?_, h⟩
 have e1 := h1.run F
 have e2 := h2.run F
 show Sem.run P (results fn a.tmps) w = _
 unfold results; rw [hr]
 change Sem.run P ((do let vs ← #[r1, r2].mapM (rvS a.tmps); pure (if h : vs.size = 1 then vs[0] else .tuple vs)) : Sem Value) w = _
 simp [e1, e2]
end
section
variable {P : Program} {α : Type} {k : K α} {own : Bool} {j i : Nat} {c c' : Nat → Nat} {w w' : World} {A : Option Addr} {cap : Nat} {xs : List α} {M : Nat → Prop} {t e : TypeId}
theorem SL.sb (h : SL own k j i c w A cap xs) (hS : SB M c w w') (hj : ¬ M j) (hi : ¬ M i) : SL own k j i c w' A cap xs := h.ev hS hj hi
theorem SL.fl {i' : Nat} (h : SL own k j i c w A cap xs) (hf : ∀ {cs x}, k.rep i c w cs x → k.rep i' c w cs x) : SL own k j i' c w A cap xs := by
 obtain ⟨cs, h2, h3, h4, h5, h6⟩ := h
 exact ⟨cs, h2, h3, h4, h5, fun n hn => hf (h6 n hn)⟩
end
section
variable {P : Program} {M : Nat → Prop} {c c' : Nat → Nat} {w w' : World} {y b : Nat} {o o' : Obj}
end
section
variable {P : Program} {a : Act} {N : Nat} {L : List (Nat × Value)} {D : List Deferred} {w : World} {c : Nat → Nat} {y : Nat}
end
section
variable {P : Program} {a : Act} {N : Nat} {L : List (Nat × Value)} {D : List Deferred} {w : World} {c : Nat → Nat} {y bd : Nat} {fn : Func} {R : Ending → World → Prop}
end
theorem inbN {id : Nat} {Q : Exit → Act → World → Prop} {a : Act} {w : World} (h : Q .normal a w) : Exit.inBlock id Q .normal a w := h
theorem made_blk {z : Array Value} {sz n m : Nat} (hz : z.size = sz) (hp : 0 < sz) (hn : n < m) : ((madeCells z (m * sz)).toList.drop (n * sz)).take sz = z.toList := by
 have h1 : (n + 1) * sz ≤ m * sz := Nat.mul_le_mul_right _ (by omega)
 rw [Nat.add_mul, Nat.one_mul] at h1
 apply List.ext_getElem
 ·simp [size_madeCells, hz]; omega
 ·intro q h2 h3
  have hq : q < sz := by simpa [hz] using h3
  simp [madeCells, hz, Nat.mul_add_mod', Nat.mod_eq_of_lt hq, hq]
section
variable {P : Program} {a : Act} {N : Nat} {L : List (Nat × Value)} {D : List Deferred} {w w' : World} {v u : Value} {x y lo hi : Operand} {d : Option Tmp} {t tn e ty : TypeId} {pos : String} {af : Array Edge} {gd : Option (Nat × Bool)} {c : Nat → Nat} {own own2 : Bool} {A B : Option Addr} {cap cap2 : Nat} {bytes : Nat} {z : Value} {α : Type} {k : K α} {xs ys : List α} {x0 : α} {j2 i : Nat}
theorem e_make (F : Fr a N L D) (T : ET P t e k.sz bytes z) {l m : Int} {kl kc : IntKind} (hl : ev L lo = some (.int kl l)) (hc : ev L hi = some (.int kc m)) (hr : ∀ i c w, k.rep i c w z.cells.toList x0) (hb0 : 0 < bytes) (g : 0 ≤ l ∧ l ≤ m ∧ m * bytes ≤ 140737488355328) (c : Nat → Nat) (j i : Nat) :
  ∃ v' w', (execOp a.eval { dst := d, op := .makeSlice t lo hi, type := ty, pos := pos, after := af, guard := gd }).run P w = .ok (.value v') w' ∧ NewS k (List.replicate l.toNat x0) c w j i v' w' := by
 obtain ⟨g0, g1, g2⟩ := g
 obtain ⟨inf, hi', hz, hs, hby⟩ := T.hi
 have hm : m * 1 ≤ m * (bytes : Int) := Int.mul_le_mul_of_nonneg_left (by omega) (by omega)
 have hr' := run_make (P := P) w t e inf z T.ht hi' hz kl kc l m g0 g1 (by rw [hby, Int.mul_comm]; omega) (by omega)
 obtain ⟨h1, h2, h3⟩ := alloc_new (M := No) c w (madeCells z.cells (m.toNat * inf.size)) e (0, 0) j true (fun _ k _ => by simp)
 refine ⟨_, _, ?_, _, some ⟨w.heap.size, 0, none⟩, m.toNat, rfl, h1, ⟨_, ?_, ?_, ?_, .inr ⟨_, rfl, h2⟩, fun n hn => ?_⟩, h3⟩
 ·simp [execOp, F.ev hl, F.ev hc, hr']
 ·simp; omega
 ·unfold maxLen; omega
 ·simp [size_madeCells, hs]
 ·rw [hs, made_blk T.hz k.pos (by simp at hn; omega)]
  simp only [List.getElem_replicate]
  exact hr _ _ _
end
theorem lay_get {cs us : List Value} {p : Nat} (h : p + us.length ≤ cs.length) (q : Nat) : (lay cs p us)[q]? = if q < p then cs[q]? else if q < p + us.length then us[q - p]? else cs[q]? := by
 have e1 : min p cs.length = p := by omega
 unfold lay
 by_cases h1 : q < p
 ·rw [if_pos h1, List.append_assoc, List.getElem?_append_left (by simp; omega), List.getElem?_take_of_lt h1]
 ·rw [if_neg h1]
  by_cases h2 : q < p + us.length
  ·rw [if_pos h2, List.append_assoc, List.getElem?_append_right (by simp; omega), List.getElem?_append_left (by simp; omega)]
   simp [e1]
  ·rw [if_neg h2, List.getElem?_append_right (by simp; omega), List.getElem?_drop]
   simp [e1]
   congr 1; omega
theorem sub_get {cs : List Value} {a sz q : Nat} (hq : q < sz) : ((cs.drop a).take sz)[q]? = cs[a + q]? := by
 rw [List.getElem?_take_of_lt hq, List.getElem?_drop]
theorem lay_other {cs us : List Value} {n m sz off : Nat} (h : n * sz + off + us.length ≤ cs.length) (ho : off + us.length ≤ sz) (hm : m ≠ n) : ((lay cs (n * sz + off) us).drop (m * sz)).take sz = (cs.drop (m * sz)).take sz := by
 apply List.ext_getElem?
 intro q
 by_cases hq : q < sz
 ·rw [sub_get hq, sub_get hq, lay_get h]
  rcases Nat.lt_or_gt_of_ne hm with hlt | hlt
  ·have h1 : (m + 1) * sz ≤ n * sz := Nat.mul_le_mul_right _ hlt
   rw [Nat.add_mul, Nat.one_mul] at h1
   rw [if_pos (by omega)]
  ·have h1 : (n + 1) * sz ≤ m * sz := Nat.mul_le_mul_right _ hlt
   rw [Nat.add_mul, Nat.one_mul] at h1
   rw [if_neg (by omega), if_neg (by omega)]
 ·rw [List.getElem?_take, List.getElem?_take, if_neg hq, if_neg hq]
theorem lay_same {cs us : List Value} {n sz off : Nat} (h : (n + 1) * sz ≤ cs.length) (ho : off + us.length ≤ sz) : ((lay cs (n * sz + off) us).drop (n * sz)).take sz = lay ((cs.drop (n * sz)).take sz) off us := by
 rw [Nat.add_mul, Nat.one_mul] at h
 apply List.ext_getElem?
 intro q
 have hl : ((cs.drop (n * sz)).take sz).length = sz := by simp; omega
 rw [lay_get (by rw [hl]; exact ho)]
 by_cases hq : q < sz
 ·rw [sub_get hq, lay_get (by omega), sub_get hq]
  by_cases h1 : q < off
  ·rw [if_pos (by omega), if_pos h1]
  ·rw [if_neg (by omega), if_neg h1]
   by_cases h2 : q < off + us.length
   ·rw [if_pos (by omega), if_pos h2]; congr 1; omega
   ·rw [if_neg (by omega), if_neg h2]
 ·rw [List.getElem?_take, if_neg hq, if_neg (by omega), if_neg (by omega), List.getElem?_take, if_neg hq]
section
variable {P : Program} {a : Act} {N : Nat} {L : List (Nat × Value)} {D : List Deferred} {w w' : World} {v u : Value} {x y : Operand} {d : Option Tmp} {t ty : TypeId} {pos : String} {af : Array Edge} {gd : Option (Nat × Bool)} {c : Nat → Nat} {A : Option Addr} {cap : Nat} {α : Type} {k : K α} {xs : List α} {j i : Nat}
theorem SL.lay (h : SL true k j i c w A cap xs) {n : Nat} (h1 : n < xs.length) {a0 : Addr} (hA : A = some a0) {off : Nat} {us cs : List Value} (hat : AT true j c w (a0.add (n * k.sz)) cs) (hcl : cs.length = k.sz) (ho : off + us.length ≤ cs.length) (hu : ∀ u ∈ us, u.oneCell' = true) (x' : α) (hr : k.rep i c w (G.lay cs off us) x') (hij : i ≠ j) :
  ∃ w', (storeCells ((a0.add (n * k.sz)).add off) us).run P w = .ok () w' ∧ Ev (fun x => x = j) c w c w' ∧ SL true k j i c w' A cap (xs.set n x') ∧ w'.heap.size = w.heap.size := by
 subst hA
 obtain ⟨cs0, a1, a2, a3, a4, a5⟩ := h
 have hp := k.pos
 have hle : (n + 1) * k.sz ≤ cap * k.sz := Nat.mul_le_mul_right _ (by omega)
 have hle' := hle
 rw [Nat.add_mul, Nat.one_mul] at hle'
 rcases a4 with a4 | ⟨a', e, a4⟩
 ·subst a4; simp at a3; omega
 ·obtain rfl := Option.some.inj e
  have haa : ∀ q, (a0.add (n * k.sz)).add q = a0.add (n * k.sz + q) := by
   intro q
   obtain ⟨b, of, cur, ty, fz, rfl, _⟩ := a4
   rw [add_eq, add_eq, add_eq, Nat.add_assoc]
  have hcs : cs = (cs0.drop (n * k.sz)).take k.sz := by
   apply List.ext_getElem?
   intro q
   by_cases hq : q < k.sz
   ·rw [sub_get hq]
    have e1 := hat.cell (List.getElem?_eq_getElem (by omega : q < cs.length))
    have e2 := a4.cell (List.getElem?_eq_getElem (by omega : n * k.sz + q < cs0.length))
    rw [haa] at e1
    rw [e1] at e2
    rw [List.getElem?_eq_getElem (by omega : q < cs.length), List.getElem?_eq_getElem (by omega : n * k.sz + q < cs0.length)]
    exact e2
   ·rw [List.getElem?_eq_none (by omega), List.getElem?_take, if_neg hq]
  obtain ⟨w', hrun, E, hat', hz⟩ := run_lay (P := P) (n := n * k.sz + off) (us := us) a4 (by omega) hu
  rw [haa]
  refine ⟨w', hrun, E, ⟨G.lay cs0 (n * k.sz + off) us, by simpa using a1, a2, by rw [lay_length (by omega)]; exact a3, .inr ⟨_, rfl, hat'⟩, fun m hm => ?_⟩, hz⟩
  rw [List.length_set] at hm
  by_cases hmn : m = n
  ·subst hmn
   rw [lay_same (by omega) (by omega), ← hcs]
   simp only [List.getElem_set_self]
   exact k.ev hr E hij
  ·rw [lay_other (by omega) (by omega) hmn, List.getElem_set_ne (fun e => hmn e.symm)]
   exact k.ev (a5 m hm) E hij
theorem e_storeel0 (F : Fr a N L D) {n : Int} {a0 q : Addr} {cs : List Value} (hx : ev L x = some (.pointer (some q))) (hy : ev L y = some u) (hs : ∀ w, (sizeOf t).run P w = .ok 1 w) (h : SL true k j i c w A cap xs) (h0 : 0 ≤ n) (h1 : n < xs.length) (hA : A = some a0) (hq : q = a0.add (n.toNat * k.sz)) (hat : AT true j c w q cs) (hcl : cs.length = k.sz) (ho : 1 ≤ cs.length) (hu : u.oneCell' = true) (x' : α) (hr : k.rep i c w (lay cs 0 [u]) x') (hij : i ≠ j) :
  ∃ w', (execOp a.eval { dst := d, op := .store t x y, type := ty, pos := pos, after := af, guard := gd }).run P w = .ok .skip w' ∧ (Ev (fun k => k = j) c w c w' ∧ SL true k j i c w' A cap (xs.set n.toNat x') ∧ w'.heap.size = w.heap.size) := by
 subst hq
 obtain ⟨w', hrun, h2⟩ := SL.lay (P := P) (us := [u]) (off := 0) h (by omega) hA hat hcl (by simpa using ho) (by intro z hz; simp at hz; rw [hz]; exact hu) x' hr hij
 refine ⟨w', ?_, h2⟩
 rw [show (a0.add (n.toNat * k.sz)).add 0 = a0.add (n.toNat * k.sz) by simp [Addr.add]] at hrun
 simp [execOp, F.ev hx, F.ev hy, Instr.storeAt, Instr.sureAddr, storeVar, hs, oneCell_cells hu, hrun]
theorem e_storeelN (F : Fr a N L D) {n : Int} {a0 q : Addr} {us cs : List Value} (hx : ev L x = some (.pointer (some q))) (hy : ev L y = some (.agg us.toArray)) (hs : ∀ w, (sizeOf t).run P w = .ok us.length w) (h : SL true k j i c w A cap xs) (h0 : 0 ≤ n) (h1 : n < xs.length) (hA : A = some a0) (hq : q = a0.add (n.toNat * k.sz)) (hat : AT true j c w q cs) (hcl : cs.length = k.sz) (ho : us.length ≤ cs.length) (hu : ∀ u ∈ us, u.oneCell' = true) (x' : α) (hr : k.rep i c w (lay cs 0 us) x') (hij : i ≠ j) :
  ∃ w', (execOp a.eval { dst := d, op := .store t x y, type := ty, pos := pos, after := af, guard := gd }).run P w = .ok .skip w' ∧ (Ev (fun k => k = j) c w c w' ∧ SL true k j i c w' A cap (xs.set n.toNat x') ∧ w'.heap.size = w.heap.size) := by
 subst hq
 obtain ⟨w', hrun, h2⟩ := SL.lay (P := P) (us := us) (off := 0) h (by omega) hA hat hcl (by omega) hu x' hr hij
 refine ⟨w', ?_, h2⟩
 rw [show (a0.add (n.toNat * k.sz)).add 0 = a0.add (n.toNat * k.sz) by simp [Addr.add]] at hrun
 simp [execOp, F.ev hx, F.ev hy, Instr.storeAt, Instr.sureAddr, storeVar, hs, Value.cells, hrun]
end
end Go.Proofs.Ytdlokohmdnkdoaa.G
namespace Go.Proofs.Ytdlokohmdnkdoaa.G
open Go Go.RowKit
open Go.Maps (Keyed IsMap Tidy)
set_option linter.unusedVariables false
set_option linter.unusedSimpArgs false
def heldElem (v : Value) : Option (DataW Value × List MemPlace) := some (.held v, [])
section
variable {β : Type} {q : IntKind} {K : TypeId} {emb : β → Value} {P : Program} {j : Nat} {c : Nat → Nat} {w : World} {p : Option Addr} {o : MpV β}
end
section
variable {β : Type} {q : IntKind} {K : TypeId} {emb : β → Value} {P : Program} {a : Act} {N : Nat} {L : List (Nat × Value)} {D : List Deferred} {w w' : World} {v u : Value} {x y m : Operand} {d : Option Tmp} {t e ty : TypeId} {pos : String} {af : Array Edge} {gd : Option (Nat × Bool)} {c : Nat → Nat} {j : Nat} {p : Option Addr} {o : MpV β}
end
end Go.Proofs.Ytdlokohmdnkdoaa.G
namespace Go.Proofs.Ytdlokohmdnkdoaa.G
open Go Go.RowKit
set_option linter.unusedVariables false
set_option linter.unusedSimpArgs false
section
variable {P : Program} {a : Act} {N : Nat} {L : List (Nat × Value)} {D : List Deferred} {w w' : World} {v u : Value} {x y : Operand} {d : Option Tmp} {t e ty : TypeId} {pos : String} {af : Array Edge} {gd : Option (Nat × Bool)} {c : Nat → Nat} {own : Bool} {j : Nat} {p : Addr} {cs : List Value}
def FR0 (j : Nat) (c : Nat → Nat) (w : World) (A : Option Addr) : Prop := ∃ b cur ty, A = some ⟨b, 0, none⟩ ∧ w.heap[b]? = some (.cells cur ty (0, 0)) ∧ c b = j
theorem e_buildSliceF {α : Type} {k : K α} (F : Fr a N L D) {n i : Nat} {ps : List (Nat × Operand)} (vs : List (Nat × Value)) (cs : List Value) (xs : List α) (hv : evs L ps vs)
  (hb : ∀ w, (Instr.buildSlice t n vs.toArray).run P w = .ok (.slice (some ⟨w.heap.size, 0, none⟩) n n) (w.alloc (.cells cs.toArray e (0, 0)))) (hn : n = xs.length) (hm : n ≤ maxLen) (hl : cs.length = n * k.sz) (hr : Els k i c w cs xs) (hi : ¬ No i) (j : Nat) :
  ∃ v' w', (execOp a.eval { dst := d, op := .buildSlice t n ps.toArray, type := ty, pos := pos, after := af, guard := gd }).run P w = .ok (.value v') w' ∧
   ∃ c' A cap, v' = .slice A xs.length cap ∧ Ev No c w c' w' ∧ SL true k j i c' w' A cap xs ∧ (∀ m, CB m c w → j < m → CB m c' w') ∧ FR0 j c' w' A := by
 subst hn
 obtain ⟨h1, h2, h3⟩ := alloc_new (M := No) c w cs.toArray e (0, 0) j true (fun _ k _ => by simp)
 have e1 : (ps.toArray.map fun (i, x) => (i, a.eval x)) = vs.toArray := by
  rw [← evs_map F hv]; simp
 refine ⟨_, _, ?_, _, _, _, rfl, h1, ⟨cs, Nat.le_refl _, hm, hl, .inr ⟨_, rfl, by simpa using h2⟩, fun n hn => k.ev (hr.spec n hn) h1 hi⟩, h3, _, _, _, rfl, (MapKept.heap_alloc w _).1, by unfold cset; rw [if_pos rfl]⟩
 simp [execOp, e1, hb]
theorem e_convb (F : Fr a N L D) {A : Option Addr} {cap j : Nat} {xs : List Int} (ht : P.underlying t = some (.slice e)) (he : P.underlying e = some (.int .u8)) (hx : ev L x = some (.slice A xs.length cap)) (h : SL true (Kint .u8) j 0 c w A cap xs) (hf : FR0 j c w A) :
  ∃ v w', (execOp a.eval { dst := d, op := .convert t t x, type := ty, pos := pos, after := af, guard := gd }).run P w = .ok (.value v) w' ∧ (v = .slice A xs.length cap ∧ Ev (fun k => k = j) c w c w' ∧ SL true (Kint .u8) j 0 c w' A cap xs ∧ w'.heap.size = w.heap.size) := by
 obtain ⟨b, cur, ty0, rfl, hb, hc⟩ := hf
 have hlt := lt_of_get hb
 have hsh : w.shape? b = some (ty0, cur.size) := by unfold World.shape?; rw [hb]
 have hfr : w.freeze ⟨b, cur.size, none⟩ 1 = { w with heap := w.heap.setIfInBounds b (.cells cur ty0 (cur.size, cur.size + 1)) } := by
  unfold World.freeze
  rw [if_neg (by decide)]
  congr 1
  apply Array.ext_getElem?
  intro k
  rw [Array.getElem?_modify, Array.getElem?_setIfInBounds]
  by_cases q : b = k
  ·subst q
   rw [if_pos rfl, if_pos rfl, hb, if_pos hlt]
   rfl
  ·rw [if_neg q, if_neg q]
 refine ⟨.slice (some ⟨b, 0, none⟩) xs.length cap, w.freeze ⟨b, cur.size, none⟩ 1, by simp [execOp, F.ev hx, convert, run_underlying ht, run_underlying he, markStringish, hsh], rfl, ?_, ?_, ?_⟩
 all_goals rw [hfr]
 ·refine ⟨rfl, rfl, rfl, by simp, fun _ _ _ => rfl, fun k hk hm => ?_⟩
  have hne : b ≠ k := fun e => hm (by rw [← e]; exact hc)
  simp only
  rw [Array.getElem?_setIfInBounds_ne hne]
 ·obtain ⟨cs, h2, h3, h4, h5, h6⟩ := h
  refine ⟨cs, h2, h3, h4, ?_, h6⟩
  rcases h5 with h5 | ⟨a1, e1, b1, off, cur1, ty1, fz1, e2, hb1, hc1, g1, g2⟩
  ·exact .inl h5
  ·cases e1
   cases e2
   rw [hb] at hb1
   cases hb1
   refine .inr ⟨_, rfl, b, 0, cur, ty0, (cur.size, cur.size + 1), rfl, by simp [hlt], hc, g1, fun _ k hk => ?_⟩
   have := g1 k hk
   rw [List.getElem?_eq_getElem hk] at this
   have := (Array.getElem?_eq_some_iff.1 this).1
   simp only
   omega
 ·simp
end
end Go.Proofs.Ytdlokohmdnkdoaa.G
namespace Go.Proofs.Ytdlokohmdnkdoaa.G
open Go Go.RowKit
open Go.Maps (Keyed IsMap Tidy)
set_option linter.unusedVariables false
set_option linter.unusedSimpArgs false
section
variable {β : Type} {q : IntKind} {K : TypeId} {mk : List Value → Value} {P : Program} {j i : Nat} {c : Nat → Nat} {w : World} {p : Option Addr} {o : MkV β}
def MKat (e : Go.Proofs.Ytdlokohmdnkdoaa.G.K β) (mk : List Value → Value) (i : Nat) (c : Nat → Nat) (w : World) (D : DataW Value) (kl : Lit) : Option β → Prop
 | none => Maps.has D kl = false
 | some x => Maps.has D kl = true ∧ ∃ cs, (∀ z, D.atKey kl z = .held (mk cs)) ∧ e.rep i c w cs x
def MK (q : IntKind) (K : TypeId) (e : Go.Proofs.Ytdlokohmdnkdoaa.G.K β) (mk : List Value → Value) (P : Program) (j i : Nat) (c : Nat → Nat) (w : World) (p : Option Addr) (o : MkV β) : Prop :=
 ∃ a : Addr, p = some a ∧ c a.block = j ∧ ∃ D : DataW Value, w.ownsMap P K heldElem a.block o.n D ∧ (Maps.size D : Int) = o.len ∧ ∀ k, MKat e mk i c w D (.int q k) (o.f k)
theorem MK.ev {M : Nat → Prop} {c' : Nat → Nat} {w' : World} {e : Go.Proofs.Ytdlokohmdnkdoaa.G.K β} (h : MK q K e mk P j i c w p o) (E : Ev M c w c' w') (hj : ¬ M j := by first | exact nq | exact ne_zm | exact mm) (hi : ¬ M i := by first | exact nq | exact ne_zm | exact mm) : MK q K e mk P j i c' w' p o := by
 obtain ⟨a, ea, hc, D, hD, hs, r⟩ := h
 have hlt := hD.lt
 refine ⟨a, ea, (E.col _ hlt (by rw [hc]; exact hj)).trans hc, D, ?_, hs, fun k => ?_⟩
 ·obtain ⟨es, clock, h1, h2⟩ := hD
  exact ⟨es, clock, (E.blk _ hlt (by rw [hc]; exact hj)).trans h1, h2⟩
 ·have := r k
  cases hf : o.f k with
  | none => rw [hf] at this; exact this
  | some x => rw [hf] at this; obtain ⟨h1, cs, h2, h3⟩ := this; exact ⟨h1, cs, h2, e.ev h3 E hi⟩
theorem MK.rc {j' i' : Nat} {c' : Nat → Nat} {e : Go.Proofs.Ytdlokohmdnkdoaa.G.K β} (h : MK q K e mk P j i c w p o) (hr : ∀ k, c k = j → c' k = j') (hi : ∀ k, c k = i → c' k = i') : MK q K e mk P j' i' c' w p o := by
 obtain ⟨a, ea, hc, D, hD, hs, r⟩ := h
 refine ⟨a, ea, hr _ hc, D, hD, hs, fun k => ?_⟩
 have := r k
 cases hf : o.f k with
 | none => rw [hf] at this; exact this
 | some x => rw [hf] at this; obtain ⟨h1, cs, h2, h3⟩ := this; exact ⟨h1, cs, h2, e.rc h3 hi⟩
end
section
variable {β : Type} {q : IntKind} {K : TypeId} {e : Go.Proofs.Ytdlokohmdnkdoaa.G.K β} {mk : List Value → Value} {P : Program} {a : Act} {N : Nat} {L : List (Nat × Value)} {D : List Deferred} {w w' : World} {v u : Value} {x y m : Operand} {d : Option Tmp} {t et ty : TypeId} {pos : String} {af : Array Edge} {gd : Option (Nat × Bool)} {c : Nat → Nat} {j i : Nat} {p : Option Addr} {o : MkV β}
theorem e_makeMapK (F : Fr a N L D) (c : Nat → Nat) (j : Nat) (ht : ∀ w, (Instr.makeMap t none).run P w = .ok (.map (some w.heap.size)) (w.alloc (.map #[] 0))) :
  ∃ v w', (execOp a.eval { dst := d, op := .makeMap t none, type := ty, pos := pos, after := af, guard := gd }).run P w = .ok (.value v) w' ∧
   ∃ c' p, v = .map (Option.map Addr.block (some p)) ∧ Ev No c w c' w' ∧ MK q K e mk P j i c' w' (some p) ⟨fun _ => none, 0, 0⟩ ∧ ∀ m, CB m c w → j < m → CB m c' w' := by
 have hz : (w.alloc (.map #[] 0)).heap.size = w.heap.size + 1 := World.size_alloc ..
 have hk := MapKept.heap_alloc w (.map #[] 0)
 refine ⟨.map (some w.heap.size), w.alloc (.map #[] 0), by simp [execOp, ht], cset c w.heap.size j, ⟨w.heap.size, 0, none⟩, rfl, ⟨rfl, rfl, rfl, by omega, fun k hk _ => by unfold cset; rw [if_neg (by omega)], fun k hlt _ => hk.2 k hlt⟩, ⟨_, rfl, by unfold cset; rw [if_pos rfl], _, World.ownsMap_made w P K heldElem, rfl, fun k => rfl⟩, fun m hm hx k hk => ?_⟩
 unfold cset
 split
 ·exact hx
 ·exact hm k (by omega)
theorem q_effv0 {ops : Array Oper} {Kk : Act → World → Prop} {rest : List Oper} {oo : Oper} {R0 : World → Prop} {v : Value} (F : Fr a N L D) (hg : oo.guard = none) (hd : oo.dst = none) (h : ∃ w', (execOp a.eval oo).run P w = .ok (.value v) w' ∧ R0 w')
  (k : ∀ w' a', R0 w' → Fr a' N L D → wL P ops Kk rest a' w') : wL P ops Kk (oo :: rest) a w := by
 obtain ⟨w', hr, hR⟩ := h
 exact wL_plain hg (ow_value hr (by rw [hd]; exact k _ _ hR F))
theorem r_lookK {v1 v2 : Value} {b : Option Nat} (F : Fr a N L D) (hm : ev L m = some (.map b)) (hx : ev L x = some v1) (hr : (Instr.lookup t (.map b) v1 true).run P w = .ok v2 w) : (execOp a.eval { dst := d, op := .lookup t m x true, type := ty, pos := pos, after := af, guard := gd }).run P w = .ok (.value v2) w := by
 simp [execOp, F.ev hm, F.ev hx, hr, Result.andThen]
theorem MKlook {k : Int} {x0 : β} {zcs : List Value} (h : MK q K e mk P j i c w p o) (hk : P.underlying K = some (.int q)) (ht : P.underlying t = some (.map K et)) (hz : ∀ w, (zeroValue et).run P w = .ok (mk zcs) w) (hz0 : e.rep i c w zcs x0) (hw : (Lit.int q k).wf = true) :
  ∃ cs, e.rep i c w cs ((o.f k).getD x0) ∧ (Instr.lookup t (.map (Option.map Addr.block p)) (.int q k) true).run P w = .ok (.tuple #[mk cs, .bool (o.f k).isSome]) w := by
 obtain ⟨a0, rfl, hc, D0, hD, hs, r⟩ := h
 obtain ⟨v, ps, hrun, hv⟩ := hD.look_ok (Maps.int_keyed hk) ht (hz w) (zd := .held (mk zcs)) (zp := []) rfl (Maps.keyOf_int_mk hk hw)
 simp only [heldElem, Option.some.injEq, Prod.mk.injEq] at hv
 have hr := r k
 cases hf : o.f k with
 | none =>
  rw [hf] at hr
  have hr : Maps.has D0 (.int q k) = false := hr
  rw [Maps.atKey_of_not_has hr] at hv
  rw [hr] at hrun
  injection hv.1 with e1
  subst e1
  exact ⟨zcs, hz0, hrun⟩
 | some x1 =>
  rw [hf] at hr
  obtain ⟨h1, cs, h2, h3⟩ := hr
  rw [h2] at hv
  rw [h1] at hrun
  injection hv.1 with e1
  subst e1
  exact ⟨cs, h3, hrun⟩
theorem turned_ev {a0 : Addr} {w' : World} (hc : c a0.block = j) (h : w.mapTurned w' a0.block) : Ev (fun k => k = j) c w c w' ∧ w'.heap.size = w.heap.size := by
 obtain ⟨es, clock, es', clock', hb, rfl⟩ := h
 refine ⟨⟨rfl, rfl, rfl, by simp [ChangeMaps.setBlock], fun _ _ _ => rfl, fun k hk hm => ?_⟩, by simp [ChangeMaps.setBlock]⟩
 have hne : a0.block ≠ k := fun e => hm (by rw [← e]; exact hc)
 simp only [ChangeMaps.setBlock]
 rw [Array.getElem?_setIfInBounds_ne hne]
theorem e_mapUpdateK (F : Fr a N L D) {k : Int} {z : β} {cs : List Value} (hk : P.underlying K = some (.int q)) (ht : P.underlying t = some (.map K et)) (hm : ev L m = some (.map (Option.map Addr.block p))) (hx : ev L x = some (.int q k)) (hy : ev L y = some (mk cs))
  (h : MK q K e mk P j i c w p o) (hr : e.rep i c w cs z) (hij : i ≠ j) (hw : (Lit.int q k).wf = true) (hn : o.n < maxLen) :
  ∃ w', (execOp a.eval { dst := d, op := .mapUpdate t m x y, type := ty, pos := pos, after := af, guard := gd }).run P w = .ok .skip w' ∧ (Ev (fun k => k = j) c w c w' ∧ MK q K e mk P j i c w' p (o.put k z) ∧ w'.heap.size = w.heap.size) := by
 obtain ⟨a0, rfl, hc, D0, hD, hs, r⟩ := h
 obtain ⟨w', hrun, r1, r2⟩ := hD.store (Maps.int_keyed hk) ht hn (Maps.keyOf_int_mk hk hw) (val := mk cs) (d := .held (mk cs)) (ps := []) rfl
 have hm' := F.ev hm
 simp only [Option.map_some] at hm'
 obtain ⟨E, hz⟩ := turned_ev hc r2
 have hkl : WideAt.IsKeyLit (.int q k) := trivial
 refine ⟨w', by simp [execOp, hm', F.ev hx, F.ev hy, hrun, Result.andThen], E, ⟨a0, rfl, hc, _, r1, ?_, fun k' => ?_⟩, hz⟩
 ·rw [Maps.size_put (hD.tidy (Maps.int_keyed hk))]
  have hrk := r k
  show _ = (if (o.f k).isSome then o.len else o.len + 1)
  cases hf : o.f k with
  | none => rw [hf] at hrk; have hrk : Maps.has D0 (.int q k) = false := hrk; rw [hrk]; simp; omega
  | some x1 => rw [hf] at hrk; rw [hrk.1]; simp; omega
 ·show MKat e mk i c w' _ _ (if k' = k then some z else o.f k')
  by_cases ck : k' = k
  ·subst ck
   rw [if_pos rfl]
   exact ⟨Maps.has_put_same hD.isMap hkl _, cs, fun z0 => Maps.atKey_put_same hD.isMap hkl _ _, e.ev hr E hij⟩
  ·rw [if_neg ck]
   have hne : (Lit.int q k') ≠ .int q k := fun e => ck (by injection e)
   have hrk := r k'
   cases hf : o.f k' with
   | none => rw [hf] at hrk; exact (Maps.has_put_other hne _).trans hrk
   | some x1 => rw [hf] at hrk; obtain ⟨h1, cs1, h2, h3⟩ := hrk; exact ⟨(Maps.has_put_other hne _).trans h1, cs1, fun z0 => (Maps.atKey_put_other hne _ _).trans (h2 z0), e.ev h3 E hij⟩
theorem e_mapDeleteK (F : Fr a N L D) {k : Int} (hk : P.underlying K = some (.int q)) (ht : P.underlying t = some (.map K et)) (hm : ev L m = some (.map (Option.map Addr.block p))) (hx : ev L x = some (.int q k))
  (h : MK q K e mk P j i c w p o) (hij : i ≠ j) (hw : (Lit.int q k).wf = true) :
  ∃ w', (execOp a.eval { dst := d, op := .call { callee := .builtin .delete, args := #[m, x], argTypes := #[t, K] }, type := ty, pos := pos, after := af, guard := gd }).run P w = .ok (.value (.tuple #[])) w' ∧ (Ev (fun k => k = j) c w c w' ∧ MK q K e mk P j i c w' p (o.del k) ∧ w'.heap.size = w.heap.size) := by
 obtain ⟨a0, rfl, hc, D0, hD, hs, r⟩ := h
 obtain ⟨w', hrun, r1, r2⟩ := hD.drop (Maps.int_keyed hk) ht (Maps.keyOf_int_mk hk hw) ty
 have hm' := F.ev hm
 simp only [Option.map_some] at hm'
 obtain ⟨E, hz⟩ := turned_ev hc r2
 refine ⟨w', by simp [execOp, resolve, invoke, builtin, hm', F.ev hx, hrun, Result.andThen], E, ⟨a0, rfl, hc, _, r1, ?_, fun k' => ?_⟩, hz⟩
 ·have h1 := Maps.size_del (k := .int q k) (hD.tidy (Maps.int_keyed hk))
  have hrk := r k
  show _ = (if (o.f k).isSome then o.len - 1 else o.len)
  cases hf : o.f k with
  | none => rw [hf] at hrk; have hrk : Maps.has D0 (.int q k) = false := hrk; rw [hrk] at h1; simp at h1 ⊢; omega
  | some x1 => rw [hf] at hrk; rw [hrk.1] at h1; simp at h1 ⊢; omega
 ·show MKat e mk i c w' _ _ (if k' = k then none else o.f k')
  by_cases ck : k' = k
  ·subst ck
   rw [if_pos rfl]
   exact Maps.has_del_same
  ·rw [if_neg ck]
   have hne : (Lit.int q k') ≠ .int q k := fun e => ck (by injection e)
   have hrk := r k'
   cases hf : o.f k' with
   | none => rw [hf] at hrk; exact (Maps.has_del_other hne).trans hrk
   | some x1 => rw [hf] at hrk; obtain ⟨h1, cs1, h2, h3⟩ := hrk; exact ⟨(Maps.has_del_other hne).trans h1, cs1, fun z0 => (Maps.atKey_del_other hne _).trans (h2 z0), e.ev h3 E hij⟩
theorem r_lenmap (F : Fr a N L D) (h : MK q K e mk P j i c w p o) (ht : P.underlying t = some (.map K et)) (hm : ev L m = some (.map (Option.map Addr.block p))) :
  (execOp a.eval { dst := d, op := .call { callee := .builtin .len, args := #[m], argTypes := #[t] }, type := ty, pos := pos, after := af, guard := gd }).run P w = .ok (.value (.int .i64 o.len)) w := by
 obtain ⟨a0, rfl, hc, D0, hD, hs, r⟩ := h
 have hrun := hD.len ht ty
 have hm' := F.ev hm
 simp only [Option.map_some] at hm'
 simp [execOp, resolve, invoke, builtin, hm', hrun, Result.andThen, hs]
end
end Go.Proofs.Ytdlokohmdnkdoaa.G
namespace Go.Proofs.Ytdlokohmdnkdoaa.G
open Go Go.RowKit
set_option linter.unusedVariables false
set_option linter.unusedSimpArgs false
structure KO (α : Type) where
 sz : Nat
 pos : 0 < sz
 np : Nat
 rep : (Nat → Nat) → (Nat → Nat) → World → List Value → α → Prop
 ev : ∀ {M : Nat → Prop} {γ c w c' w' cs x}, rep γ c w cs x → Ev M c w c' w' → (∀ q, q < np → ¬ M (γ q)) → ¬ M 0 → rep γ c' w' cs x
 rc : ∀ {γ γ' c c' w cs x}, rep γ c w cs x → (∀ q, q < np → ∀ k, c k = γ q → c' k = γ' q) → (∀ k, c k = 0 → c' k = 0) → (∀ q, q < np → 0 < γ' q) → rep γ' c' w cs x
 len : ∀ {γ c w cs x}, rep γ c w cs x → cs.length = sz
 one : ∀ {γ c w cs x}, rep γ c w cs x → ∀ v ∈ cs, v.oneCell' = true
def KOsl {α : Type} (e : K α) : KO (List α) where
 sz := 1
 pos := by decide
 np := 1
 rep := fun γ c w cs x => ∃ A cap, cs = [.slice A x.length cap] ∧ SL true e (γ 0) 0 c w A cap x
 ev := fun ⟨A, cap, h, h2⟩ E hi h0 => ⟨A, cap, h, h2.ev E (hi 0 (by decide)) h0⟩
 rc := fun ⟨A, cap, h, h2⟩ hr h0 _ => ⟨A, cap, h, h2.rc (hr 0 (by decide)) h0⟩
 len := fun ⟨A, cap, h, _⟩ => by rw [h]; rfl
 one := fun ⟨A, cap, h, h2⟩ u hu => by rw [h] at hu; simp at hu; subst hu; rfl
def sub (c d : Nat → Nat) (i : Nat) : Nat → Nat := fun b => if c b = i then 2 * d b + 1 else 2 * c b
def gcol (np k : Nat) : Nat → Nat := fun q => 2 * (k * np + q) + 1
section
variable {α : Type} {e : KO α} {i i' : Nat} {c c' d : Nat → Nat} {w w' : World} {css : List (List Value)} {xs : List α} {M : Nat → Prop}
theorem sub_eq {b n : Nat} (h : sub c d i b = 2 * n + 1) : c b = i ∧ d b = n := by
 unfold sub at h
 split at h
 ·exact ⟨by assumption, by omega⟩
 ·omega
theorem sub_mk {b n : Nat} (h1 : c b = i) (h2 : d b = n) : sub c d i b = 2 * n + 1 := by unfold sub; rw [if_pos h1, h2]
theorem sub_zero {b : Nat} (h : sub c d i b = 0) : c b = 0 ∧ c b ≠ i := by
 unfold sub at h
 split at h
 ·omega
 ·exact ⟨by omega, by assumption⟩
theorem sub_zero' {b : Nat} (h : c b = 0) (hi : 0 < i) : sub c d i b = 0 := by unfold sub; rw [if_neg (by omega), h]
theorem idx_inj {np k q k' q' : Nat} (hq : q < np) (hq' : q' < np) (h : k * np + q = k' * np + q') : k = k' ∧ q = q' := by
 have e1 : (k * np + q) / np = k := by rw [Nat.mul_comm, Nat.mul_add_div (by omega), Nat.div_eq_of_lt hq, Nat.add_zero]
 have e2 : (k' * np + q') / np = k' := by rw [Nat.mul_comm, Nat.mul_add_div (by omega), Nat.div_eq_of_lt hq', Nat.add_zero]
 have : k = k' := by rw [← e1, ← e2, h]
 subst this
 exact ⟨rfl, by omega⟩
def GRh (e : KO α) (i : Nat) (c : Nat → Nat) (w : World) (css : List (List Value)) (xs : List α) (hole : Nat → Prop) : Prop :=
 0 < i ∧ css.length = xs.length ∧ ∃ d : Nat → Nat, ∀ k (h : k < xs.length) (h' : k < css.length), ¬ hole k → e.rep (gcol e.np k) (sub c d i) w css[k] xs[k]
def noHole : Nat → Prop := fun _ => False
def GR (e : KO α) (i : Nat) (c : Nat → Nat) (w : World) (css : List (List Value)) (xs : List α) : Prop := GRh e i c w css xs noHole
variable {hole : Nat → Prop}
theorem GRh.ev (h : GRh e i c w css xs hole) (E : Ev M c w c' w') (hi : ¬ M i := by first | exact nq | exact ne_zm | exact mm) (h0 : ¬ M 0 := by first | exact nq | exact ne_zm | exact mm) : GRh e i c' w' css xs hole := by
 obtain ⟨h1, h2, d, h3⟩ := h
 refine ⟨h1, h2, d, fun k a b hk => ?_⟩
 have E' : Ev (fun q => q % 2 = 0 ∧ M (q / 2)) (sub c d i) w (sub c' d i) w' := by
  have nm : ∀ q, ¬ (sub c d i q % 2 = 0 ∧ M (sub c d i q / 2)) → ¬ M (c q) := fun q hm hM => hm (by
   unfold sub
   by_cases ci : c q = i
   ·rw [ci] at hM; exact absurd hM hi
   ·rw [if_neg ci]; exact ⟨by omega, by rw [Nat.mul_div_cancel_left _ (by decide)]; exact hM⟩)
  refine ⟨E.os, E.tape, E.out, E.size, fun q hq hm => ?_, fun q hq hm => ?_⟩
  ·unfold sub; rw [E.col q hq (nm q hm)]
  ·refine E.blk q hq fun hM => hm ?_
   unfold sub
   by_cases ci : c q = i
   ·rw [ci] at hM; exact absurd hM hi
   ·rw [if_neg ci]; exact ⟨by omega, by rw [Nat.mul_div_cancel_left _ (by decide)]; exact hM⟩
 exact e.ev (h3 k a b hk) E' (fun q _ hm => by unfold gcol at hm; omega) (fun hm => h0 hm.2)
theorem GRh.rc (h : GRh e i c w css xs hole) (hr : ∀ k, c k = i → c' k = i') (h0 : ∀ k, c k = 0 → c' k = 0) (hi' : 0 < i') : GRh e i' c' w css xs hole := by
 obtain ⟨h1, h2, d, h3⟩ := h
 refine ⟨hi', h2, d, fun k a b hk => e.rc (h3 k a b hk) (fun q _ b hb => ?_) (fun b hb => ?_) (fun _ _ => Nat.succ_pos _)⟩
 ·obtain ⟨e1, e2⟩ := sub_eq hb
  exact sub_mk (hr b e1) e2
 ·exact sub_zero' (h0 b (sub_zero hb).1) hi'
theorem GRh.read (h : GRh e i c w css xs hole) {k : Nat} (hk : k < xs.length) (hk' : k < css.length) (hh : ¬ hole k) : e.rep (fun _ => i) c w css[k] xs[k] := by
 obtain ⟨h1, h2, d, h3⟩ := h
 exact e.rc (h3 k hk hk' hh) (fun q _ b hb => (sub_eq hb).1) (fun b hb => (sub_zero hb).1) (fun _ _ => h1)
theorem GR.borrow (h : GR e i c w css xs) {n : Nat} (hn : n < xs.length) (ξ : Nat → Nat) (hξ : ∀ q, q < e.np → ξ q ≠ i ∧ 0 < ξ q) :
  ∃ c', (∀ b, c b ≠ i → c' b = c b) ∧ (∀ b, c' b = c b ∨ (c b = i ∧ ∃ q, q < e.np ∧ c' b = ξ q)) ∧ (∃ h' : n < css.length, e.rep ξ c' w css[n] xs[n]) ∧ GRh e i c' w css xs (fun k => k = n) := by
 obtain ⟨h1, h2, d, h3⟩ := h
 have hn' : n < css.length := by omega
 let P : Nat → Prop := fun b => c b = i ∧ ∃ q, q < e.np ∧ d b = n * e.np + q
 have hdec : ∀ b, Decidable (P b) := fun b => Classical.propDecidable _
 let c' : Nat → Nat := fun b => @ite _ (P b) (hdec b) (ξ (d b - n * e.np)) (c b)
 have hc : ∀ b q, q < e.np → c b = i → d b = n * e.np + q → c' b = ξ q := fun b q hq hi hd => by
  show @ite _ (P b) (hdec b) _ _ = _
  rw [if_pos (show P b from ⟨hi, q, hq, hd⟩), hd]
  congr 1; omega
 have ho : ∀ b, ¬ P b → c' b = c b := fun b hp => if_neg hp
 refine ⟨c', fun b hb => ho b fun p => hb p.1, fun b => ?_, ⟨hn', e.rc (h3 n hn hn' (fun q => q)) (fun q hq b hb => ?_) (fun b hb => ?_) (fun q hq => (hξ q hq).2)⟩, h1, h2, d, fun k a b hk => e.rc (h3 k a b (fun q => q)) (fun q hq b hb => ?_) (fun b hb => ?_) (fun _ _ => Nat.succ_pos _)⟩
 ·by_cases p : P b
  ·obtain ⟨p1, q, hq, p2⟩ := p
   exact .inr ⟨p1, q, hq, hc b q hq p1 p2⟩
  ·exact .inl (ho b p)
 ·obtain ⟨e1, e2⟩ := sub_eq hb
  exact hc b q hq e1 e2
 ·obtain ⟨e1, e2⟩ := sub_zero hb
  rw [ho b fun p => e2 p.1]; exact e1
 ·obtain ⟨e1, e2⟩ := sub_eq hb
  have hnp : ¬ P b := fun ⟨_, q', hq', hd⟩ => hk (idx_inj hq hq' (by omega)).1
  exact sub_mk ((ho b hnp).trans e1) e2
 ·obtain ⟨e1, e2⟩ := sub_zero hb
  exact sub_zero' ((ho b fun p => e2 p.1).trans e1) h1
theorem GRh.fill {n : Nat} (h : GRh e i c w css xs (fun k => k = n)) {ξ : Nat → Nat} {ds : List Value} {y : α} (hy : e.rep ξ c w ds y) (hξ : ∀ q, q < e.np → ξ q ≠ i ∧ 0 < ξ q) (hinj : ∀ q q', q < e.np → q' < e.np → ξ q = ξ q' → q = q') :
  ∃ c', (∀ b, (∀ q, q < e.np → c b ≠ ξ q) → c' b = c b) ∧ (∀ b, c' b = c b ∨ c' b = i) ∧ GR e i c' w (css.set n ds) (xs.set n y) := by
 obtain ⟨h1, h2, d, h3⟩ := h
 let P : Nat → Prop := fun b => ∃ q, q < e.np ∧ c b = ξ q
 have hdec : ∀ b, Decidable (P b) := fun b => Classical.propDecidable _
 let c' : Nat → Nat := fun b => @ite _ (P b) (hdec b) i (c b)
 let d' : Nat → Nat := fun b => @dite _ (P b) (hdec b) (fun p => n * e.np + Classical.choose p) (fun _ => d b)
 have hc : ∀ b, P b → c' b = i := fun b p => if_pos p
 have ho : ∀ b, ¬ P b → c' b = c b := fun b p => if_neg p
 have hd : ∀ b q, q < e.np → c b = ξ q → d' b = n * e.np + q := fun b q hq hb => by
  have p : P b := ⟨q, hq, hb⟩
  show @dite _ (P b) (hdec b) _ _ = _
  rw [dif_pos p]
  have hs := Classical.choose_spec p
  rw [hinj _ _ hs.1 hq (hs.2.symm.trans hb)]
 have hdo : ∀ b, ¬ P b → d' b = d b := fun b p => dif_neg p
 refine ⟨c', fun b hb => ho b fun ⟨q, hq, p⟩ => hb q hq p, fun b => ?_, h1, by simpa using h2, d', fun k a b _ => ?_⟩
 ·by_cases p : P b
  ·exact .inr (hc b p)
  ·exact .inl (ho b p)
 ·rw [List.length_set] at a b
  by_cases hk : k = n
  ·subst hk
   simp only [List.getElem_set_self]
   refine e.rc hy (fun q hq b hb => sub_mk (hc b ⟨q, hq, hb⟩) (hd b q hq hb)) (fun b hb => sub_zero' ?_ h1) (fun _ _ => Nat.succ_pos _)
   rw [ho b fun ⟨q, hq, p⟩ => by have := (hξ q hq).2; omega]; exact hb
  ·rw [List.getElem_set_ne (fun e => hk e.symm), List.getElem_set_ne (fun e => hk e.symm)]
   refine e.rc (h3 k a b hk) (fun q hq b hb => ?_) (fun b hb => ?_) (fun _ _ => Nat.succ_pos _)
   ·obtain ⟨e1, e2⟩ := sub_eq hb
    have hp : ¬ P b := fun ⟨q', hq', p⟩ => (hξ q' hq').1 (p.symm.trans e1)
    exact sub_mk ((ho b hp).trans e1) ((hdo b hp).trans e2)
   ·obtain ⟨e1, e2⟩ := sub_zero hb
    have hp : ¬ P b := fun ⟨q', hq', p⟩ => by have := (hξ q' hq').2; omega
    exact sub_zero' ((ho b hp).trans e1) h1
theorem GR.nil (hi : 0 < i) : GR e i c w [] [] := ⟨hi, rfl, fun _ => 0, fun k h _ => absurd h (by simp)⟩
theorem GR.push (h : GR e i c w css xs) {ξ : Nat → Nat} {ds : List Value} {y : α} (hy : e.rep ξ c w ds y) (hξ : ∀ q, q < e.np → ξ q ≠ i ∧ 0 < ξ q) (hinj : ∀ q q', q < e.np → q' < e.np → ξ q = ξ q' → q = q') :
  ∃ c', (∀ b, (∀ q, q < e.np → c b ≠ ξ q) → c' b = c b) ∧ (∀ b, c' b = c b ∨ c' b = i) ∧ GR e i c' w (css ++ [ds]) (xs ++ [y]) := by
 obtain ⟨h1, h2, d, h3⟩ := h
 have hh : GRh e i c w (css ++ [ds]) (xs ++ [y]) (fun k => k = xs.length) := ⟨h1, by simpa using h2, d, fun k a b hk => by
  have hk' : k < xs.length := by simp at a; omega
  rw [List.getElem_append_left hk', List.getElem_append_left (by omega)]
  exact h3 k hk' (by omega) (fun q => q)⟩
 obtain ⟨c', g1, g2, g3⟩ := hh.fill hy hξ hinj
 refine ⟨c', g1, g2, ?_⟩
 rw [List.set_append_right _ _ (by omega), List.set_append_right _ _ (by omega)] at g3
 simpa [h2] using g3
theorem GR.append (h : GR e i c w css xs) {dss : List (List Value)} {ys : List α} {i2 : Nat} (h2 : GR e i2 c w dss ys) (hne : i2 ≠ i) :
  GR e i (fun b => if c b = i2 then i else c b) w (css ++ dss) (xs ++ ys) := by
 obtain ⟨a1, a2, d, a3⟩ := h
 obtain ⟨b1, b2, d2, b3⟩ := h2
 refine ⟨a1, by simp [a2, b2], fun b => if c b = i2 then xs.length * e.np + d2 b else d b, fun k hk hk' _ => ?_⟩
 by_cases q : k < xs.length
 ·rw [List.getElem_append_left q, List.getElem_append_left (by omega)]
  refine e.rc (a3 k q (by omega) (fun q => q)) (fun q hq b hb => ?_) (fun b hb => ?_) (fun _ _ => Nat.succ_pos _)
  ·obtain ⟨e1, e2⟩ := sub_eq hb
   have : ¬ c b = i2 := fun q => hne (q.symm.trans e1)
   exact sub_mk (by show (if c b = i2 then i else c b) = i; rw [if_neg this]; exact e1) (by show (if c b = i2 then _ else d b) = _; rw [if_neg this]; exact e2)
  ·obtain ⟨e1, e2⟩ := sub_zero hb
   exact sub_zero' (by show (if c b = i2 then i else c b) = 0; rw [if_neg (by omega)]; exact e1) a1
 ·obtain ⟨k', rfl⟩ : ∃ k', k = xs.length + k' := ⟨k - xs.length, by omega⟩
  have hk1 : k' < ys.length := by simp at hk; omega
  rw [List.getElem_append_right (by omega), List.getElem_append_right (by omega)]
  have e3 : xs.length + k' - css.length = k' := by omega
  have e4 : xs.length + k' - xs.length = k' := by omega
  simp only [e3, e4]
  refine e.rc (b3 k' hk1 (by omega) (fun q => q)) (fun q hq b hb => ?_) (fun b hb => ?_) (fun _ _ => Nat.succ_pos _)
  ·obtain ⟨e1, e2⟩ := sub_eq hb
   refine sub_mk (by show (if c b = i2 then i else c b) = i; rw [if_pos e1]) ?_
   show (if c b = i2 then xs.length * e.np + d2 b else d b) = _
   rw [if_pos e1, e2, Nat.add_mul, Nat.add_assoc]
  ·obtain ⟨e1, e2⟩ := sub_zero hb
   exact sub_zero' (by show (if c b = i2 then i else c b) = 0; rw [if_neg (by omega)]; exact e1) a1
end
section
variable {α : Type} {M : Nat → Prop} {c c' : Nat → Nat} {w w' : World} {i i' j : Nat} {own : Bool} {p : Addr} {pre post cs : List Value} {n : Nat} {xs : List α}
variable {e : K α}
theorem AT.inj {own2 : Bool} {cs ds : List Value} (h1 : AT own j c w p cs) (h2 : AT own2 j c w p ds) (hl : cs.length = ds.length) : cs = ds := by
 apply List.ext_getElem?
 intro q
 by_cases hq : q < cs.length
 ·have e1 := h1.cell (List.getElem?_eq_getElem hq)
  have e2 := h2.cell (List.getElem?_eq_getElem (by omega : q < ds.length))
  rw [e1] at e2
  rw [List.getElem?_eq_getElem hq, List.getElem?_eq_getElem (by omega : q < ds.length)]
  exact e2
 ·rw [List.getElem?_eq_none (by omega), List.getElem?_eq_none (by omega)]
end
section
variable {α : Type} {M : Nat → Prop} {c c' : Nat → Nat} {w w' : World} {i i' j : Nat} {own : Bool} {p : Addr} {pre post cs : List Value} {n : Nat} {xs : List α} {hole : Nat → Prop}
variable {e : KO α}
end
section
variable {α : Type} {c : Nat → Nat} {w : World} {i j n : Nat} {own : Bool} {p : Addr} {pre post cs ds : List Value} {xs : List α}
end
section
variable {P : Program} {a : Act} {N : Nat} {L : List (Nat × Value)} {D : List Deferred} {w w' : World} {v u : Value} {x y : Operand} {d : Option Tmp} {t e ty : TypeId} {pos : String} {af : Array Edge} {gd : Option (Nat × Bool)} {c : Nat → Nat} {own : Bool} {j i : Nat} {p q : Addr} {cs pre post us : List Value}
variable {α : Type} {k : K α} {xs : List α} {n off : Nat}
end
structure BP (P : Program) (t : TypeId) (Z : List Value) (places : Array (Nat × Nat)) : Prop where
 h : ∃ fields, P.underlying t = some (.struct fields) ∧ (∀ w, (zeroValue t).run P w = .ok (.agg Z.toArray) w) ∧ ∀ w, (fields.mapM fun f => (do pure (f.offset, ← sizeOf f.type) : Sem (Nat × Nat))).run P w = .ok places w
section
variable {α : Type} {e : K α} {i j n off z : Nat} {c c' c0 : Nat → Nat} {w w' w0 : World} {cs pre post : List Value} {xs : List (List α)} {own : Bool} {p : Addr} {m : Nat} {M : Nat → Prop}
theorem Ev.recol (h : Ev (fun k => M k ∨ m ≤ k) c0 w0 c w) (hB : CB m c0 w0) (hr : ∀ b, c b < m → c' b = c b) : Ev (fun k => M k ∨ m ≤ k) c0 w0 c' w :=
 ⟨h.os, h.tape, h.out, h.size, fun k hk hm => by have e := h.col k hk hm; rw [hr k (by rw [e]; exact hB k hk), e], h.blk⟩
theorem CB.recol {N : Nat} (h : CB N c w) (hr : ∀ b, c' b = c b ∨ c' b < N) : CB N c' w := fun k hk => by
 rcases hr k with q | q
 ·rw [q]; exact h k hk
 ·exact q
end
section
variable {P : Program} {a : Act} {N : Nat} {L : List (Nat × Value)} {D : List Deferred} {w w' : World} {v u : Value} {x y : Operand} {d : Option Tmp} {t ty : TypeId} {pos : String} {af : Array Edge} {gd : Option (Nat × Bool)}
variable {α : Type} {e : K α} {i j n off m : Nat} {c : Nat → Nat} {cs pre post : List Value} {xs : List (List α)} {p q : Addr}
end
theorem rk {z : Nat} {c c' : Nat → Nat} {j : Nat} (e : ∀ b, c b ≠ z → c' b = c b) (x : j ≠ z) : ∀ k, c k = j → c' k = j := fun k hk => (e k (by rw [hk]; exact x)).trans hk
theorem Ev.rk {M : Nat → Prop} {m z : Nat} {c0 c c' : Nat → Nat} {w0 w : World} (h : Ev (fun k => M k ∨ m ≤ k) c0 w0 c w) (hB : CB m c0 w0) (e : ∀ b, c b ≠ z → c' b = c b) (hz : m ≤ z := by omega) : Ev (fun k => M k ∨ m ≤ k) c0 w0 c' w := h.recol hB (fun b hb => e b (by omega))
theorem CB.rk {N y : Nat} {c c' : Nat → Nat} {w : World} (h : CB N c w) (e : ∀ b, c' b = c b ∨ c' b = y) (hy : y < N) : CB N c' w := h.recol (fun b => (e b).imp id (fun q => by rw [q]; exact hy))
end Go.Proofs.Ytdlokohmdnkdoaa.G
namespace Go.Proofs.Ytdlokohmdnkdoaa.G
open Go Go.RowKit
set_option linter.unusedVariables false
section
variable {P : Program} {ops : Array Oper} {K : Act → World → Prop} {a : Act} {N : Nat} {L : List (Nat × Value)} {D : List Deferred} {w w' : World} {v : Value} {rest : List Oper} {o : Oper} {d : Nat} {S : World → Prop} {fin : Nat}
theorem nx {p : Nat → Prop} : ∀ x, No x → p x := fun _ q => q.elim
theorem qv (F : Fr a N L D) (hr : (execOp a.eval o).run P w = .ok (.value v) w') (k : ∀ a', Fr a' N ((d, v) :: L) D → wL P ops K rest a' w') (hg : o.guard = none := by exact rfl) (hd : o.dst = some d := by exact rfl) (hN : d < N := by decide) : wL P ops K (o :: rest) a w :=
 q_val F hg hd hN hr k
theorem qm (F : Fr a N L D) {x : Operand} {ty : TypeId} {pos : String} {af : Array Edge} (k : ∀ a', Fr a' N ((d, v) :: L) D → wL P ops K rest a' w) (hx : ev L x = some v := by exact rfl) (hN : d < N := by decide) : wL P ops K ({ dst := some d, op := .move x, type := ty, pos := pos, after := af, guard := none } :: rest) a w :=
 q_val F rfl rfl hN (r_move F hx) k
theorem qa (F : Fr a N L D) {x : Operand} {ty : TypeId} {pos : String} {af : Array Edge} (k : ∀ a', Fr a' N ((d, v) :: L) D → wL P ops K rest a' w) (hx : ev L x = some v := by exact rfl) (hN : d < N := by decide) : wL P ops K ({ dst := some d, op := .assign x, type := ty, pos := pos, after := af, guard := none } :: rest) a w :=
 q_val F rfl rfl hN (r_assign F hx) k
theorem dq {i : Nat} {s : Sch} (F : Fr a N L D) (hr : ∀ w, S w → (execOp a.eval o).run P w = .ok (.value v) w) (hS : S w) (k : ∀ a', Fr a' N ((d, v) :: L) D → wpS P ops K S fin s a' w) (ho : ops[i]? = some o := by exact rfl) (hg : o.guard = none := by exact rfl) (hd : o.dst = some d := by exact rfl) (hN : d < N := by decide) : wpS P ops K S fin (.q i s) a w :=
 d_q F ho hg hd hN hr hS k
theorem qn (F : Fr a N L D) {op : Op} {ty : TypeId} {pos : String} {af : Array Edge} {j dj : Nat} {b c : Bool} (hb : b = !c) (k : ∀ a', Fr a' N ((d, undef) :: L) D → wL P ops K rest a' w) (hj : (ops[j]?).bind (·.dst) = some dj := by exact rfl) (hN : dj < N := by decide) (hv : lk L dj = some (.bool b) := by exact rfl) (hd : d < N := by decide) : wL P ops K ({ dst := some d, op := op, type := ty, pos := pos, after := af, guard := some (j, c) } :: rest) a w :=
 q_no F hj hN hv hb hd k
theorem qy (F : Fr a N L D) {op : Op} {dst : Option Tmp} {ty : TypeId} {pos : String} {af : Array Edge} {j dj : Nat} {b c : Bool} (hb : b = c) (h : wL P ops K ({ dst := dst, op := op, type := ty, pos := pos, after := af, guard := none } :: rest) a w) (hj : (ops[j]?).bind (·.dst) = some dj := by exact rfl) (hN : dj < N := by decide) (hv : lk L dj = some (.bool b) := by exact rfl) : wL P ops K ({ dst := dst, op := op, type := ty, pos := pos, after := af, guard := some (j, c) } :: rest) a w := q_yes F hj hN hv hb h
theorem dy {i : Nat} {s : Sch} (F : Fr a N L D) {j dj : Nat} {b c : Bool} (hb : b = c) (hr : ∀ w, S w → (execOp a.eval o).run P w = .ok (.value v) w) (hS : S w) (k : ∀ a', Fr a' N ((d, v) :: L) D → wpS P ops K S fin s a' w) (ho : ops[i]? = some o := by exact rfl) (hg : o.guard = some (j, c) := by exact rfl) (hj : (ops[j]?).bind (·.dst) = some dj := by exact rfl) (hjN : dj < N := by decide) (hv : lk L dj = some (.bool b) := by exact rfl) (hd : o.dst = some d := by exact rfl) (hN : d < N := by decide) : wpS P ops K S fin (.q i s) a w := d_qy F ho hg hj hjN hv hb hd hN hr hS k
theorem dn {i : Nat} {s : Sch} (F : Fr a N L D) {j dj : Nat} {b c : Bool} (hb : b = !c) (hS : S w) (k : ∀ a', Fr a' N ((d, undef) :: L) D → wpS P ops K S fin s a' w) (ho : ops[i]? = some o := by exact rfl) (hg : o.guard = some (j, c) := by exact rfl) (hj : (ops[j]?).bind (·.dst) = some dj := by exact rfl) (hjN : dj < N := by decide) (hv : lk L dj = some (.bool b) := by exact rfl) (hd : o.dst = some d := by exact rfl) (hN : d < N := by decide) : wpS P ops K S fin (.q i s) a w := d_qn F ho hg hj hjN hv hb hd hN hS k
theorem dm {i : Nat} {s : Sch} (F : Fr a N L D) {x : Operand} {ty : TypeId} {pos : String} {af : Array Edge} (hS : S w) (k : ∀ a', Fr a' N ((d, v) :: L) D → wpS P ops K S fin s a' w) (ho : ops[i]? = some { dst := some d, op := .move x, type := ty, pos := pos, after := af, guard := none } := by exact rfl) (hx : ev L x = some v := by exact rfl) (hN : d < N := by decide) : wpS P ops K S fin (.q i s) a w := d_q F ho rfl rfl hN (fun _ _ => r_move F hx) hS k
theorem da {i : Nat} {s : Sch} (F : Fr a N L D) {x : Operand} {ty : TypeId} {pos : String} {af : Array Edge} (hS : S w) (k : ∀ a', Fr a' N ((d, v) :: L) D → wpS P ops K S fin s a' w) (ho : ops[i]? = some { dst := some d, op := .assign x, type := ty, pos := pos, after := af, guard := none } := by exact rfl) (hx : ev L x = some v := by exact rfl) (hN : d < N := by decide) : wpS P ops K S fin (.q i s) a w := d_q F ho rfl rfl hN (fun _ _ => r_assign F hx) hS k
theorem df {i : Nat} {s : Sch} (F : Fr a N L D) {x : Operand} {t ty : TypeId} {pos : String} {af : Array Edge} {p : Addr} {f off : Nat} (hf : ∀ q w, (Instr.fieldAt t (.pointer (some q)) f).run P w = .ok (.pointer (some (q.add off))) w) (hS : S w) (k : ∀ a', Fr a' N ((d, .pointer (some (p.add off))) :: L) D → wpS P ops K S fin s a' w) (ho : ops[i]? = some { dst := some d, op := .fieldAddr t x f, type := ty, pos := pos, after := af, guard := none } := by exact rfl) (hx : ev L x = some (.pointer (some p)) := by exact rfl) (hN : d < N := by decide) : wpS P ops K S fin (.q i s) a w := d_q F ho rfl rfl hN (fun _ _ => r_fieldAddr F hx hf) hS k
theorem qf (F : Fr a N L D) {x : Operand} {t ty : TypeId} {pos : String} {af : Array Edge} {p : Addr} {f off : Nat} (hf : ∀ q w, (Instr.fieldAt t (.pointer (some q)) f).run P w = .ok (.pointer (some (q.add off))) w) (k : ∀ a', Fr a' N ((d, .pointer (some (p.add off))) :: L) D → wL P ops K rest a' w) (hx : ev L x = some (.pointer (some p)) := by exact rfl) (hN : d < N := by decide) : wL P ops K ({ dst := some d, op := .fieldAddr t x f, type := ty, pos := pos, after := af, guard := none } :: rest) a w := q_val F rfl rfl hN (r_fieldAddr F hx hf) k
theorem ql (F : Fr a N L D) {x : Operand} {t ty : TypeId} {pos : String} {af : Array Edge} {p : Addr} {cs : List Value} {own : Bool} {j n : Nat} {c : Nat → Nat} (ha : ∀ w, (isAgg t).run P w = .ok false w) (h : AT own j c w p cs) (k : ∀ a', Fr a' N ((d, v) :: L) D → wL P ops K rest a' w) (hx : ev L x = some (.pointer (some (p.add n))) := by exact rfl) (hv : cs[n]? = some v := by exact rfl) (hN : d < N := by decide) : wL P ops K ({ dst := some d, op := .load t x, type := ty, pos := pos, after := af, guard := none } :: rest) a w := q_val F rfl rfl hN (r_load F hx ha (AT.cell h hv)) k
theorem qi (F : Fr a N L D) {x : Operand} {ty : TypeId} {pos : String} {af : Array Edge} {p : Addr} (k : ∀ a', Fr a' N ((d, .pointer (some p)) :: L) D → wL P ops K rest a' w) (hx : ev L x = some (.pointer (some p)) := by exact rfl) (hN : d < N := by decide) : wL P ops K ({ dst := some d, op := .nilCheck x, type := ty, pos := pos, after := af, guard := none } :: rest) a w := q_val F rfl rfl hN (r_nil F hx) k
theorem qt (F : Fr a N L D) {z x y : Operand} {ty : TypeId} {pos : String} {af : Array Edge} (k : ∀ a', Fr a' N ((d, v) :: L) D → wL P ops K rest a' w) (hc : ev L z = some (.bool true) := by exact rfl) (hx : ev L x = some v := by exact rfl) (hN : d < N := by decide) : wL P ops K ({ dst := some d, op := .pick z x y, type := ty, pos := pos, after := af, guard := none } :: rest) a w := q_val F rfl rfl hN (r_pick_t F hc rfl hx) k
theorem qp (F : Fr a N L D) {z x y : Operand} {ty : TypeId} {pos : String} {af : Array Edge} (k : ∀ a', Fr a' N ((d, v) :: L) D → wL P ops K rest a' w) (hc : ev L z = some (.bool false) := by exact rfl) (hy : ev L y = some v := by exact rfl) (hN : d < N := by decide) : wL P ops K ({ dst := some d, op := .pick z x y, type := ty, pos := pos, after := af, guard := none } :: rest) a w := q_val F rfl rfl hN (r_pick_f F hc rfl hy) k
theorem qx (F : Fr a N L D) {x : Operand} {n : Nat} {vs : Array Value} {ty : TypeId} {pos : String} {af : Array Edge} (k : ∀ a', Fr a' N ((d, v) :: L) D → wL P ops K rest a' w) (hx : ev L x = some (.tuple vs) := by exact rfl) (hv : vs[n]? = some v := by exact rfl) (hN : d < N := by decide) : wL P ops K ({ dst := some d, op := .extract x n, type := ty, pos := pos, after := af, guard := none } :: rest) a w := q_val F rfl rfl hN (r_extract F hx hv) k
theorem dl {M : Nat → Prop} {c0 : Nat → Nat} {w0 : World} {i : Nat} {s : Sch} (F : Fr a N L D) {x : Operand} {t ty : TypeId} {pos : String} {af : Array Edge} {p : Addr} {cs : List Value} {own : Bool} {j n : Nat} (ha : ∀ w, (isAgg t).run P w = .ok false w) (h : AT own j c0 w0 p cs) (HM : ¬ M j) (hS : SB M c0 w0 w) (k : ∀ a', Fr a' N ((d, v) :: L) D → wpS P ops K (SB M c0 w0) fin s a' w) (ho : ops[i]? = some { dst := some d, op := .load t x, type := ty, pos := pos, after := af, guard := none } := by exact rfl) (hx : ev L x = some (.pointer (some (p.add n))) := by exact rfl) (hv : cs[n]? = some v := by exact rfl) (hN : d < N := by decide) : wpS P ops K (SB M c0 w0) fin (.q i s) a w := d_q F ho rfl rfl hN (fun w' hS' => r_load F hx ha (AT.cell (h.sb hS' HM) hv)) hS k
theorem di {i : Nat} {s : Sch} (F : Fr a N L D) {x : Operand} {ty : TypeId} {pos : String} {af : Array Edge} {p : Addr} (hS : S w) (k : ∀ a', Fr a' N ((d, .pointer (some p)) :: L) D → wpS P ops K S fin s a' w) (ho : ops[i]? = some { dst := some d, op := .nilCheck x, type := ty, pos := pos, after := af, guard := none } := by exact rfl) (hx : ev L x = some (.pointer (some p)) := by exact rfl) (hN : d < N := by decide) : wpS P ops K S fin (.q i s) a w := d_q F ho rfl rfl hN (fun _ _ => r_nil F hx) hS k
theorem qc (F : Fr a N L D) {f : FuncId} {fn : Func} {oz : Array Operand} {ats : Array TypeId} {vs : List Value} {ty : TypeId} {pos : String} {af : Array Edge} {R : Ending → World → Prop} (hf : P.funcs[f]? = some fn) (hc : Calls P f vs.toArray w R) (k : ∀ e w', R e w' → ∃ v, e = .returned v ∧ ∀ a', Fr a' N ((d, v) :: L) D → wL P ops K rest a' w') (hv : oz.toList.map (ev L) = vs.map some := by exact rfl) (hb : fn.body.isNone = false := by exact rfl) (hn : (fn.name == "runtime.NumGoroutine") = false := by kernel_rfl) (hN : d < N := by decide) :
  wL P ops K ({ dst := some d, op := .call { callee := .value (.func f), args := oz, argTypes := ats }, type := ty, pos := pos, after := af, guard := none } :: rest) a w :=
 q_call F rfl rfl hN (r_call F hf hb hn hv) hc k
theorem oc {i : Nat} {K : Act → World → Prop} (F : Fr a N L D) {f : FuncId} {fn : Func} {oz : Array Operand} {ats : Array TypeId} {vs : List Value} {ty : TypeId} {pos : String} {af : Array Edge} {R : Ending → World → Prop} (hf : P.funcs[f]? = some fn) (hc : Calls P f vs.toArray w R) (k : ∀ e w', R e w' → ∃ v, e = .returned v ∧ ∀ a', Fr a' N ((d, v) :: L) D → K a' w') (ho : ops[i]? = some { dst := some d, op := .call { callee := .value (.func f), args := oz, argTypes := ats }, type := ty, pos := pos, after := af, guard := none } := by exact rfl) (hv : oz.toList.map (ev L) = vs.map some := by exact rfl) (hb : fn.body.isNone = false := by exact rfl) (hn : (fn.name == "runtime.NumGoroutine") = false := by kernel_rfl) (hN : d < N := by decide) : wO P ops i K a w :=
 o_call F ho (wanted_none rfl) rfl hN (r_call F hf hb hn hv) hc k
theorem fb (F : Fr a N L D) {x : Operand} {b b' : Bool} (h : b = b') (hv : ev L x = some (.bool b) := by exact rfl) : a.eval x = .bool b' := (F.ev hv).trans (congrArg Value.bool h)
end
theorem nb {a b : Nat} (h : Nat.ble a b = true) : a ≤ b := Nat.le_of_ble_eq_true h
theorem si {α : Type} {a b : α} (h : some a = some b) : a = b := Option.some.inj h
theorem dt {p : Prop} [Decidable p] (h : p) : decide p = true := decide_eq_true h
theorem dz {p : Prop} [Decidable p] (h : ¬ p) : decide p = false := decide_eq_false h
section
variable {α : Type} {e : K α} {i j n off : Nat} {c c' : Nat → Nat} {w w' : World} {A : Option Addr} {xs : List (List α)} {M : Nat → Prop}
end
theorem rt {v : Value} {p : Value → Prop} (h : p v) : ∃ v', Ending.returned v = .returned v' ∧ p v' := ⟨v, rfl, h⟩
theorem Ev.n {M : Nat → Prop} {c c' c1 : Nat → Nat} {w w' w1 : World} (h : Ev M c w c1 w1) (h2 : Ev No c1 w1 c' w') : Ev M c w c' w' := h.trans h2 nx
theorem sq {P : Program} {Q : Exit → Act → World → Prop} {a : Act} {w : World} {x y : Code} (h : ∀ K : Act → World → Prop, (∀ a w, y.wp P Q a w → K a w) → x.wp P (Exit.then K Q) a w) : (Code.seq x y).wp P Q a w := wp_seq_k h
theorem sr {P : Program} {Q : Exit → Act → World → Prop} {a : Act} {w : World} {id : Nat} {l : List Oper} {y : Code} (h : ∀ K : Act → World → Prop, (∀ a w, y.wp P Q a w → K a w) → wL P l.toArray (Exit.then K Q .normal) l a w) : (Code.seq (Code.region id l.toArray false) y).wp P Q a w := wp_seq_k fun K hK => reg (h K hK)
theorem wct {P : Program} {Q : Exit → Act → World → Prop} {a : Act} {w : World} {c : Operand} {x y : Code} (hc : a.eval c = .bool true) (h : x.wp P Q a w) : (Code.cond c x y).wp P Q a w := wp_cond_true hc h
theorem wcf {P : Program} {Q : Exit → Act → World → Prop} {a : Act} {w : World} {c : Operand} {x y : Code} (hc : a.eval c = .bool false) (h : y.wp P Q a w) : (Code.cond c x y).wp P Q a w := wp_cond_false hc h
def ct (m : Nat) : Nat → Nat := fun x => if x < m then x else 0
theorem pl {a b : Nat} (h : 0 < a) : 0 < a + b := Nat.add_pos_left h _
theorem lm {m a b : Nat} (h : a < b := by decide) : m + a < m + b := Nat.add_lt_add_left h m
theorem ip {α : Type} {c : Prop} [Decidable c] {a b r : α} (h : c) (H : (if c then a else b) = r) : a = r := (if_pos h).symm.trans H
theorem im {α : Type} {c : Prop} [Decidable c] {a b r : α} (h : ¬ c) (H : (if c then a else b) = r) : b = r := (if_neg h).symm.trans H
theorem lc1 {M : Nat → Prop} {m j : Nat} : ∀ x, x = m + j → M x ∨ m ≤ x := fun _ q => .inr (le_col q)
theorem lc2 {M : Nat → Prop} {m j i : Nat} : ∀ x, x = m + j ∨ x = m + i → M x ∨ m ≤ x := fun _ q => q.elim (fun q => .inr (le_col q)) (fun q => .inr (le_col q))
def cf (f c : Nat → Nat) : Nat → Nat := fun k => f (c k)
theorem Ev.lv {M : Nat → Prop} {f c c1 : Nat → Nat} {w w1 : World} {m : Nat} (h : Ev (fun k => M k ∨ m ≤ k) c w c1 w1) (hB : CB m c w) (hr : ∀ x, x < m → f x = x := by intro x hx; (try dsimp only [ct]); ((repeat' split) <;> omega)) : Ev M c w (cf f c1) w1 := h.leave hB f hr
theorem cfb {f c : Nat → Nat} {w : World} {m : Nat} (h : ∀ x, f x < m := by intro x; (try dsimp only [ct]); ((repeat' split) <;> omega)) : CB m (cf f c) w := fun k _ => h (c k)
theorem cfk {f c : Nat → Nat} {j j' : Nat} (h : f j = j' := by (try dsimp only [ct]); ((repeat' split) <;> omega)) : ∀ k, c k = j → cf f c k = j' := fun k hk => by unfold cf; rw [hk]; exact h
end Go.Proofs.Ytdlokohmdnkdoaa.G
namespace Go.Proofs.Ytdlokohmdnkdoaa.G
open Go Go.RowKit
set_option linter.unusedVariables false
set_option linter.unusedSimpArgs false
section
variable {P : Program} {w w' : World} {c : Nat → Nat} {j j2 i : Nat} {own own2 : Bool} {A B : Option Addr} {cap cap2 : Nat} {t e ty : TypeId} {bytes : Nat} {z : Value} {α : Type} {k : K α} {xs ys : List α}
theorem run_appendT (T : ET P t e k.sz bytes z) (h1 : SL true k j i c w A cap xs) (h2 : SL own2 k j2 i c w B cap2 ys) (hb : (xs.length + ys.length) * bytes ≤ 140737488355328) (hm : xs.length + ys.length ≤ maxLen) (hij : i ≠ j) :
  ∃ A' cap' w', (Builtin.append_ #[t, t] ty #[.slice A xs.length cap, .slice B ys.length cap2]).run P w = .ok (.slice A' (xs ++ ys).length cap') w' ∧
   ∃ c', Ev (fun x => x = j) c w c' w' ∧ SL true k j i c' w' A' cap' (xs ++ ys) ∧ (∀ m, CB m c w → j < m → CB m c' w') ∧ ((A' = A ∧ cap' = cap) ∨ (Ev No c w c' w' ∧ w'.heap.size = w.heap.size + 1 ∧ ∃ q, A' = some q ∧ q.block = w.heap.size)) := by
 obtain ⟨cs, a1, a2, a3, a4, a5⟩ := h1
 obtain ⟨ds, b1, b2, b3, b4, b5⟩ := h2
 obtain ⟨inf, hi, hz, hs, hby⟩ := T.hi
 subst hby
 have hp := k.pos
 have xl : xs.length * k.sz ≤ cs.length := by rw [a3]; exact Nat.mul_le_mul_right _ a1
 have yl : ys.length * k.sz ≤ ds.length := by rw [b3]; exact Nat.mul_le_mul_right _ b1
 have hlen : (xs ++ ys).length = xs.length + ys.length := by simp
 have reps : ∀ (c' : Nat → Nat) (w' : World) (r : List Value), Ev (fun x => x = j) c w c' w' → ∀ n (h : n < (xs ++ ys).length), k.rep i c' w' (((cs.take (xs.length * k.sz) ++ (ds.take (ys.length * k.sz) ++ r)).drop (n * k.sz)).take k.sz) (xs ++ ys)[n] := by
  intro c' w' r E n hn
  by_cases q : n < xs.length
  ·rw [blk_old q xl, List.getElem_append_left q]; exact k.ev (a5 n q) E hij
  ·obtain ⟨q', rfl⟩ : ∃ q', n = xs.length + q' := ⟨n - xs.length, by omega⟩
   have hq' : q' < ys.length := by simp at hn; omega
   rw [blk_new (by simp; omega) hq' yl, List.getElem_append_right (by omega)]
   simp only [Nat.add_sub_cancel_left]
   exact k.ev (b5 q' hq') E hij
 have f2 := fun w1 hw => run_first (P := P) (len := ys.length) (n := ys.length) b4 b3 b1 w1 hw
 by_cases room : xs.length + ys.length ≤ cap
 ·rcases a4 with a4 | ⟨a, rfl, a4⟩
  ·have hc0 : cap = 0 := by
    subst a4
    have h : cap * k.sz = 0 := a3.symm
    rcases Nat.mul_eq_zero.1 h with h | h
    ·exact h
    ·omega
   have x0 : xs = [] := List.eq_nil_of_length_eq_zero (by omega)
   have y0 : ys = [] := List.eq_nil_of_length_eq_zero (by omega)
   subst x0 y0 hc0
   refine ⟨A, 0, w, ?_, c, Ev.refl, ⟨cs, by simp, by simp, a3, .inl a4, fun n hn => by simp at hn⟩, fun m hm _ => hm, .inl ⟨rfl, rfl⟩⟩
   have f3 := f2 w rfl
   simp at f3
   cases A <;> simp [Builtin.append_, run_underlying T.ht, sizeOf, typeInfo, hi, hs, Builtin.lenOf, f3, storeCells]
  ·obtain ⟨w1, hr, E, hat, hsz⟩ := run_lay (P := P) (n := xs.length * k.sz) (us := ds.take (ys.length * k.sz)) a4 (by
     have : (xs.length + ys.length) * k.sz ≤ cap * k.sz := Nat.mul_le_mul_right _ room
     rw [Nat.add_mul] at this
     simp; omega) (fun u hu => by
     obtain ⟨q, hq, rfl⟩ := List.getElem_of_mem hu
     simp at hq
     have hlt : q / k.sz < ys.length := Nat.div_lt_of_lt_mul (by rw [Nat.mul_comm]; omega)
     have hone := k.one (b5 (q / k.sz) hlt)
     apply hone
     rw [List.getElem_take]
     have e1 : ((ds.drop (q / k.sz * k.sz)).take k.sz)[q % k.sz]? = some ds[q] := by
      rw [List.getElem?_take_of_lt (Nat.mod_lt _ hp), List.getElem?_drop, Nat.div_add_mod' q k.sz, List.getElem?_eq_getElem]
     exact List.mem_of_getElem? e1)
   refine ⟨some a, cap, w1, ?_, c, E, ⟨lay cs (xs.length * k.sz) (ds.take (ys.length * k.sz)), by rw [hlen]; exact room, a2, ?_, .inr ⟨a, rfl, hat⟩, fun n hn => ?_⟩, fun m hm _ => hm.size hsz, .inl ⟨rfl, rfl⟩⟩
   ·have f3 := f2 w rfl
    simp only [Builtin.append_, Sem.run_bind]
    simp [run_underlying T.ht, sizeOf, typeInfo, hi, hs, Builtin.lenOf, room, f3, hr]
   ·rw [lay_length]
    ·exact a3
    ·have : (xs.length + ys.length) * k.sz ≤ cap * k.sz := Nat.mul_le_mul_right _ room
     rw [Nat.add_mul] at this
     simp; omega
   ·have := reps c w1 (cs.drop (xs.length * k.sz + (ds.take (ys.length * k.sz)).length)) E n hn
    unfold lay
    rw [List.append_assoc]; exact this
 ·have f1 := fun w1 hw => run_first (P := P) (len := xs.length) (n := xs.length) a4 a3 a1 w1 hw
  have hg : cap < xs.length + ys.length := by omega
  have h63' : ¬ (9223372036854775807 < ((xs.length : Int) + (ys.length : Int))) := by simp only [maxLen] at hm; omega
  have h48' : ¬ (281474976710656 < Builtin.nextslicecap (xs.length + ys.length) cap * inf.bytes) := by have := growslice_fits hg hb; omega
  have g1 := grownCap_ge w (xs.length + ys.length) cap e
  have g2 := grownCap_le_maxLen w (xs.length + ys.length) cap e hm
  have e1 := f1 w.drew rfl
  have e2 := f2 w.drew rfl
  obtain ⟨n1, n2, n3⟩ := alloc_new (M := fun x => x = j) c w.drew ((cs.take (xs.length * k.sz)).toArray ++ (ds.take (ys.length * k.sz)).toArray ++ Builtin.zeroCells z.cells (grownCap w (xs.length + ys.length) cap e - (xs.length + ys.length))) e (0, 0) j true (fun _ k _ => by simp)
  refine ⟨some ⟨w.heap.size, 0, none⟩, grownCap w (xs.length + ys.length) cap e, _, ?_, _, ⟨n1.os, n1.tape, n1.out, n1.size, n1.col, n1.blk⟩, ⟨_, by rw [hlen]; exact g1, g2, ?_, .inr ⟨_, rfl, n2⟩, fun n hn => ?_⟩, fun m hm hj => n3 m (fun k hk => hm k hk) hj, .inr ⟨⟨n1.os, n1.tape, n1.out, n1.size, fun k hk _ => (alloc_new (M := No) c w.drew #[] e (0, 0) j false (fun q => by cases q)).1.col k hk (fun q => q), fun k hk _ => (alloc_new (M := No) c w.drew _ e (0, 0) j false (fun q => by cases q)).1.blk k hk (fun q => q)⟩, World.size_alloc .., _, rfl, rfl⟩⟩
  ·rw [hlen]
   simp [Builtin.append_, run_underlying T.ht, sizeOf, typeInfo, zeroValue, hi, hz, hs, Builtin.lenOf, room, h63', h48', Question.forced, e1, e2, newRow, grownCap]
   congr 2
   apply Array.ext'
   simp [List.append_assoc]
  ·have hzz : (Builtin.zeroCells z.cells (grownCap w (xs.length + ys.length) cap e - (xs.length + ys.length))).size = (grownCap w (xs.length + ys.length) cap e - (xs.length + ys.length)) * k.sz := by rw [← T.hz]; simp [Builtin.zeroCells]
   simp [hzz]
   rw [Nat.min_eq_left xl, Nat.min_eq_left yl, ← Nat.add_mul, ← Nat.add_mul]
   congr 1; omega
  ·have := reps _ _ (Builtin.zeroCells z.cells (grownCap w (xs.length + ys.length) cap e - (xs.length + ys.length))).toList (⟨n1.os, n1.tape, n1.out, n1.size, n1.col, n1.blk⟩ : Ev (fun x => x = j) c w _ _) n hn
   simpa [List.append_assoc] using this
end
def Kval : K Value where
 sz := 1
 pos := by decide
 rep := fun _ _ _ cs v => cs = [v] ∧ v.oneCell' = true
 ev := fun h _ _ => h
 rc := fun h _ => h
 len := fun h => by rw [h.1]; rfl
 one := fun h v hv => by rw [h.1] at hv; simp at hv; subst hv; exact h.2
section
variable {α : Type} {e : KO α} {i : Nat} {c : Nat → Nat} {w : World} {css : List (List Value)} {xs : List α} {hole : Nat → Prop}
theorem GRh.weak {hole' : Nat → Prop} (h : GRh e i c w css xs hole) (hh : ∀ k, hole k → hole' k) : GRh e i c w css xs hole' := by
 obtain ⟨h1, h2, d, h3⟩ := h
 exact ⟨h1, h2, d, fun k a b hk => h3 k a b fun q => hk (hh k q)⟩
theorem GRh.borrow (h : GRh e i c w css xs hole) {n : Nat} (hn : n < xs.length) (hnh : ¬ hole n) (ξ : Nat → Nat) (hξ : ∀ q, q < e.np → ξ q ≠ i ∧ 0 < ξ q) :
  ∃ c', (∀ b, c b ≠ i → c' b = c b) ∧ (∀ b, c' b = c b ∨ (c b = i ∧ ∃ q, q < e.np ∧ c' b = ξ q)) ∧ (∃ h' : n < css.length, e.rep ξ c' w css[n] xs[n]) ∧ GRh e i c' w css xs (fun k => hole k ∨ k = n) := by
 obtain ⟨h1, h2, d, h3⟩ := h
 have hn' : n < css.length := by omega
 let P : Nat → Prop := fun b => c b = i ∧ ∃ q, q < e.np ∧ d b = n * e.np + q
 have hdec : ∀ b, Decidable (P b) := fun b => Classical.propDecidable _
 let c' : Nat → Nat := fun b => @ite _ (P b) (hdec b) (ξ (d b - n * e.np)) (c b)
 have hc : ∀ b q, q < e.np → c b = i → d b = n * e.np + q → c' b = ξ q := fun b q hq hi hd => by
  show @ite _ (P b) (hdec b) _ _ = _
  rw [if_pos (show P b from ⟨hi, q, hq, hd⟩), hd]
  congr 1; omega
 have ho : ∀ b, ¬ P b → c' b = c b := fun b hp => if_neg hp
 refine ⟨c', fun b hb => ho b fun p => hb p.1, fun b => ?_, ⟨hn', e.rc (h3 n hn hn' hnh) (fun q hq b hb => ?_) (fun b hb => ?_) (fun q hq => (hξ q hq).2)⟩, h1, h2, d, fun k a b hk => e.rc (h3 k a b (fun q => hk (.inl q))) (fun q hq b hb => ?_) (fun b hb => ?_) (fun _ _ => Nat.succ_pos _)⟩
 ·by_cases p : P b
  ·obtain ⟨p1, q, hq, p2⟩ := p
   exact .inr ⟨p1, q, hq, hc b q hq p1 p2⟩
  ·exact .inl (ho b p)
 ·obtain ⟨e1, e2⟩ := sub_eq hb
  exact hc b q hq e1 e2
 ·obtain ⟨e1, e2⟩ := sub_zero hb
  rw [ho b fun p => e2 p.1]; exact e1
 ·obtain ⟨e1, e2⟩ := sub_eq hb
  have hnp : ¬ P b := fun ⟨_, q', hq', hd⟩ => hk (.inr (idx_inj hq hq' (by omega)).1)
  exact sub_mk ((ho b hnp).trans e1) e2
 ·obtain ⟨e1, e2⟩ := sub_zero hb
  exact sub_zero' ((ho b fun p => e2 p.1).trans e1) h1
theorem GRh.fillH {n : Nat} (h : GRh e i c w css xs (fun k => hole k ∨ k = n)) {ξ : Nat → Nat} {ds : List Value} {y : α} (hy : e.rep ξ c w ds y) (hξ : ∀ q, q < e.np → ξ q ≠ i ∧ 0 < ξ q) (hinj : ∀ q q', q < e.np → q' < e.np → ξ q = ξ q' → q = q') :
  ∃ c', (∀ b, (∀ q, q < e.np → c b ≠ ξ q) → c' b = c b) ∧ (∀ b, c' b = c b ∨ c' b = i) ∧ GRh e i c' w (css.set n ds) (xs.set n y) hole := by
 obtain ⟨h1, h2, d, h3⟩ := h
 let P : Nat → Prop := fun b => ∃ q, q < e.np ∧ c b = ξ q
 have hdec : ∀ b, Decidable (P b) := fun b => Classical.propDecidable _
 let c' : Nat → Nat := fun b => @ite _ (P b) (hdec b) i (c b)
 let d' : Nat → Nat := fun b => @dite _ (P b) (hdec b) (fun p => n * e.np + Classical.choose p) (fun _ => d b)
 have hc : ∀ b, P b → c' b = i := fun b p => if_pos p
 have ho : ∀ b, ¬ P b → c' b = c b := fun b p => if_neg p
 have hd : ∀ b q, q < e.np → c b = ξ q → d' b = n * e.np + q := fun b q hq hb => by
  have p : P b := ⟨q, hq, hb⟩
  show @dite _ (P b) (hdec b) _ _ = _
  rw [dif_pos p]
  have hs := Classical.choose_spec p
  rw [hinj _ _ hs.1 hq (hs.2.symm.trans hb)]
 have hdo : ∀ b, ¬ P b → d' b = d b := fun b p => dif_neg p
 refine ⟨c', fun b hb => ho b fun ⟨q, hq, p⟩ => hb q hq p, fun b => ?_, h1, by simpa using h2, d', fun k a b hnk => ?_⟩
 ·by_cases p : P b
  ·exact .inr (hc b p)
  ·exact .inl (ho b p)
 ·rw [List.length_set] at a b
  by_cases hk : k = n
  ·subst hk
   simp only [List.getElem_set_self]
   refine e.rc hy (fun q hq b hb => sub_mk (hc b ⟨q, hq, hb⟩) (hd b q hq hb)) (fun b hb => sub_zero' ?_ h1) (fun _ _ => Nat.succ_pos _)
   rw [ho b fun ⟨q, hq, p⟩ => by have := (hξ q hq).2; omega]; exact hb
  ·rw [List.getElem_set_ne (fun e => hk e.symm), List.getElem_set_ne (fun e => hk e.symm)]
   refine e.rc (h3 k a b fun q => q.elim hnk hk) (fun q hq b hb => ?_) (fun b hb => ?_) (fun _ _ => Nat.succ_pos _)
   ·obtain ⟨e1, e2⟩ := sub_eq hb
    have hp : ¬ P b := fun ⟨q', hq', p⟩ => (hξ q' hq').1 (p.symm.trans e1)
    exact sub_mk ((ho b hp).trans e1) ((hdo b hp).trans e2)
   ·obtain ⟨e1, e2⟩ := sub_zero hb
    have hp : ¬ P b := fun ⟨q', hq', p⟩ => by have := (hξ q' hq').2; omega
    exact sub_zero' ((ho b hp).trans e1) h1
end
section
variable {α : Type} {e : K α} {i i' j j' y y' z X n cap C0 C D : Nat} {c c' : Nat → Nat} {w w' : World} {A A0 B : Option Addr} {xss : List (List α)} {xs ys : List α} {M : Nat → Prop} {hole : Nat → Prop} {Hs : List Value} {own : Bool}
def one1 (v : Value) : List Value := [v]
def SP (e : K α) (j y : Nat) (c : Nat → Nat) (w : World) (A : Option Addr) (cap : Nat) (xss : List (List α)) (X : Nat) (hole : Nat → Prop := noHole) : Prop :=
 ∃ Hs : List Value, SL true Kval j 0 c w A cap Hs ∧ GRh (KOsl e) y c w (Hs.map one1) xss (fun k => k < X ∨ hole k) ∧ ∀ k (h : k < xss.length), k < X → ∃ B D, Hs[k]? = some (.slice B (xss[k]).length D) ∧ SL false e 0 0 c w B D xss[k]
theorem GRh.hl (h : GRh (KOsl e) y c w (Hs.map one1) xss hole) : Hs.length = xss.length := by have := h.2.1; simpa using this
theorem SP.lenB (h : SP e j y c w A cap xss X hole) : xss.length ≤ maxLen := by
 obtain ⟨Hs, h1, h2, _⟩ := h
 have := h1.lenB; rw [h2.hl] at this; exact this
theorem SP.ev (h : SP e j y c w A cap xss X hole) (E : Ev M c w c' w') (hj : ¬ M j := by first | exact nq | exact ne_zm | exact mm) (hy : ¬ M y := by first | exact nq | exact ne_zm | exact mm) (h0 : ¬ M 0 := by first | exact nq | exact ne_zm | exact mm) : SP e j y c' w' A cap xss X hole := by
 obtain ⟨Hs, h1, h2, h3⟩ := h
 exact ⟨Hs, h1.ev E hj h0, h2.ev E hy h0, fun k a b => by obtain ⟨B, D, g1, g2⟩ := h3 k a b; exact ⟨B, D, g1, g2.ev E h0 h0⟩⟩
theorem SP.rc (h : SP e j y c w A cap xss X hole) (hj : ∀ k, c k = j → c' k = j') (hy : ∀ k, c k = y → c' k = y') (h0 : ∀ k, c k = 0 → c' k = 0) (hp : 0 < y') : SP e j' y' c' w A cap xss X hole := by
 obtain ⟨Hs, h1, h2, h3⟩ := h
 exact ⟨Hs, h1.rc hj h0, h2.rc hy h0 hp, fun k a b => by obtain ⟨B, D, g1, g2⟩ := h3 k a b; exact ⟨B, D, g1, g2.rc h0 h0⟩⟩
theorem SP.nil (hy : 0 < y) : SP e j y c w none 0 [] 0 := ⟨[], SL.nil, (GR.nil hy).weak fun k h => h.elim, fun k h => absurd h (by simp)⟩
theorem SP.mk (h : SL true Kval j 0 c w A cap Hs) (g : GR (KOsl e) y c w (Hs.map one1) xss) : SP e j y c w A cap xss 0 := ⟨Hs, h, GRh.weak g fun k h => h.elim, fun k _ h => absurd h (Nat.not_lt_zero k)⟩
theorem SP.open (h : SP e j y c w A cap xss 0) : ∃ Hs, Hs.length = xss.length ∧ SL true Kval j 0 c w A cap Hs ∧ GR (KOsl e) y c w (Hs.map one1) xss := by
 obtain ⟨Hs, h1, h2, _⟩ := h
 exact ⟨Hs, h2.hl, h1, h2.weak fun k h => h.elim (fun q => absurd q (Nat.not_lt_zero k)) id⟩
theorem GP.push (h : GR (KOsl e) y c w (Hs.map one1) xss) (hs : SL true e z 0 c w B D ys) (hz : z ≠ y ∧ 0 < z) :
  ∃ c', (∀ b, c b ≠ z → c' b = c b) ∧ (∀ b, c' b = c b ∨ c' b = y) ∧ GR (KOsl e) y c' w ((Hs ++ [Value.slice B ys.length D]).map one1) (xss ++ [ys]) := by
 obtain ⟨c', a1, a2, a3⟩ := GR.push (e := KOsl e) h (ξ := fun _ => z) (ds := [Value.slice B ys.length D]) ⟨B, D, rfl, hs⟩ (fun q _ => hz) (fun q q' hq hq' _ => by have : (KOsl e).np = 1 := rfl; omega)
 exact ⟨c', fun b hb => a1 b (fun q _ => hb), a2, by rw [List.map_append]; exact a3⟩
theorem SP.view (h : SP e j y c w A cap xss 0) (hf : ∀ {c w cs x}, e.rep 0 c w cs x → e.rep y c w cs x) : SL false (Kslice e) j y c w A cap xss := by
 obtain ⟨Hs, hl, ⟨cs, g1, g2, g3, g4, g5⟩, h2⟩ := h.open
 refine ⟨cs, by omega, g2, g3, g4.imp id (fun ⟨a, q, r⟩ => ⟨a, q, r.r⟩), fun n hn => ?_⟩
 have hn' : n < Hs.length := by omega
 obtain ⟨B, D, q1, q2⟩ := GRh.read h2 hn (by simpa using hn') (fun q => q)
 have h5 := (g5 n hn').1
 refine ⟨B, D, ?_, ?_⟩
 ·have e1 : (Kslice e).sz = 1 := rfl
  have e2 : Kval.sz = 1 := rfl
  rw [e1]; rw [e2] at h5
  rw [h5]
  simpa [one1] using q1
 ·obtain ⟨cs, a1, a2, a3, a4, a5⟩ := q2.r
  exact ⟨cs, a1, a2, a3, a4, fun n hn => hf (a5 n hn)⟩
theorem SP.cell (h : SL own Kval j 0 c w A cap Hs) {k : Nat} (hk : k < Hs.length) : ∃ ad, A = some ad ∧ AT own j c w (ad.add (k * 1)) [Hs[k]] := by
 obtain ⟨cs, g1, g2, g3, g4, g5⟩ := h
 have e2 : Kval.sz = 1 := rfl
 rw [e2, Nat.mul_one] at g3
 rcases g4 with rfl | ⟨ad, rfl, hat⟩
 ·simp at g3; omega
 ·refine ⟨ad, rfl, ?_⟩
  have := hat.sub (k * 1) 1 (by omega)
  have h5 := (g5 k hk).1
  rw [e2] at h5
  rwa [h5] at this
theorem SP.lend [Inhabited (List α)] (h : SP e j y c w A cap xss X) (k : Int) (h0 : 0 ≤ k) (h1 : k < xss.length) (hX : X ≤ k.toNat) (hz : z ≠ y ∧ 0 < z) (hjy : j ≠ y) :
  ∃ c', (∀ b, c b ≠ y → c' b = c b) ∧ (∀ b, c' b = c b ∨ c' b = z) ∧ ∃ ad B D, A = some ad ∧ AT true j c' w (ad.add (k.toNat * 1)) [Value.slice B (rd xss k).length D] ∧ SL true e z 0 c' w B D (rd xss k) ∧ SP e j y c' w A cap xss X (fun q => q = k.toNat) := by
 obtain ⟨Hs, g1, g2, g3⟩ := h
 have hk : k.toNat < xss.length := by omega
 have hl := g2.hl
 have hk' : k.toNat < Hs.length := by omega
 have hy := g2.1
 obtain ⟨c', a1, a2, ⟨hq, B, D, a3, a4⟩, a5⟩ := GRh.borrow g2 hk (by rintro (q | q); exact absurd q (by omega); exact q) (fun _ => z) (fun q _ => hz)
 have hj : ∀ b, c b = j → c' b = j := fun b hb => (a1 b (by rw [hb]; exact hjy)).trans hb
 have h00 : ∀ b, c b = 0 → c' b = 0 := fun b hb => (a1 b (by rw [hb]; omega)).trans hb
 obtain ⟨ad, rfl, hat⟩ := SP.cell g1 hk'
 have er : rd xss k = xss[k.toNat] := by unfold rd; rw [List.getD_eq_getElem?_getD, List.getElem?_eq_getElem hk]; rfl
 have eh : Hs[k.toNat] = Value.slice B (xss[k.toNat]).length D := by simpa [one1] using a3
 refine ⟨c', a1, fun b => (a2 b).imp id (fun ⟨_, _, _, q⟩ => q), ad, B, D, rfl, ?_, ?_, Hs, g1.rc hj h00, a5.weak ?_, fun q a b => by obtain ⟨B, D, r1, r2⟩ := g3 q a b; exact ⟨B, D, r1, r2.rc h00 h00⟩⟩
 ·rw [er, ← eh]; exact hat.rc hj
 ·rw [er]; exact a4
 ·rintro q ((r | r) | r)
  ·exact .inl r
  ·exact r.elim
  ·exact .inr r
theorem AT.cell_eq {own' : Bool} {p : Addr} {u v : Value} (h1 : AT own j c w p [u]) (h2 : AT own' j' c' w p [v]) : u = v := by
 have a := h1.cell0 (v := u) rfl
 have b := h2.cell0 (v := v) rfl
 exact Option.some.inj (a.symm.trans b)
theorem SP.back [Inhabited (List α)] {k : Int} {ad : Addr} (h : SP e j y c w A cap xss X (fun q => q = k.toNat)) (h0 : 0 ≤ k) (h1 : k < xss.length) (hX : X ≤ k.toNat) (hA : A = some ad) (hat : AT own i c w (ad.add (k.toNat * 1)) [Value.slice B ys.length D]) (hs : SL true e z 0 c w B D ys) (hz : z ≠ y ∧ 0 < z) (hjz : j ≠ z) :
  ∃ c', (∀ b, c b ≠ z → c' b = c b) ∧ (∀ b, c' b = c b ∨ c' b = y) ∧ SP e j y c' w A cap (xss.set k.toNat ys) X := by
 obtain ⟨Hs, g1, g2, g3⟩ := h
 have hl := g2.hl
 have hk : k.toNat < xss.length := by omega
 have hk' : k.toNat < Hs.length := by omega
 obtain ⟨c', a1, a2, a3⟩ := GRh.fillH (hole := fun q => q < X ∨ noHole q) (n := k.toNat) (g2.weak (by rintro q (r | r); exact .inl (.inl r); exact .inr r)) (ξ := fun _ => z) (ds := [Value.slice B ys.length D]) ⟨B, D, rfl, hs⟩ (fun q _ => hz) (fun q q' hq hq' _ => by have : (KOsl e).np = 1 := rfl; omega)
 have a1 : ∀ b, c b ≠ z → c' b = c b := fun b hb => a1 b (fun q _ => hb)
 have hj : ∀ b, c b = j → c' b = j := fun b hb => (a1 b (by rw [hb]; exact hjz)).trans hb
 have h00 : ∀ b, c b = 0 → c' b = 0 := fun b hb => (a1 b (by rw [hb]; omega)).trans hb
 obtain ⟨ad', q1, hat'⟩ := SP.cell g1 hk'
 rw [hA] at q1
 obtain rfl := Option.some.inj q1
 have eh := hat'.cell_eq hat
 have es : (Hs.map one1).set k.toNat [Value.slice B ys.length D] = Hs.map one1 := by
  rw [← eh]
  have : Hs.set k.toNat Hs[k.toNat] = Hs := List.set_getElem_self hk'
  have h2 := congrArg (List.map one1) this
  rw [List.map_set] at h2
  exact h2
 rw [es] at a3
 refine ⟨c', a1, a2, Hs, g1.rc hj h00, a3, fun q a b => ?_⟩
 have a' : q < xss.length := by simpa using a
 obtain ⟨B, D, r1, r2⟩ := g3 q a' b
 have hne : k.toNat ≠ q := by omega
 rw [List.getElem_set_ne hne]
 exact ⟨B, D, r1, r2.rc h00 h00⟩
def SPT (e : K α) (j y : Nat) (c : Nat → Nat) (w : World) (A : Option Addr) (cap : Nat) (xss : List (List α)) (X : Nat) (B : Option Addr) (D : Nat) (xs : List α) : Prop :=
 ∃ Hs : List Value, SL true Kval j 0 c w A cap Hs ∧ GRh (KOsl e) y c w (Hs.map one1) xss (fun k => k < X + 1) ∧ (∀ k (h : k < xss.length), k < X → ∃ B D, Hs[k]? = some (.slice B (xss[k]).length D) ∧ SL false e 0 0 c w B D xss[k]) ∧ Hs[X]? = some (.slice B xs.length D) ∧ xss[X]? = some xs
theorem SPT.ev (h : SPT e j y c w A cap xss X B D xs) (E : Ev M c w c' w') (hj : ¬ M j := by first | exact nq | exact ne_zm | exact mm) (hy : ¬ M y := by first | exact nq | exact ne_zm | exact mm) (h0 : ¬ M 0 := by first | exact nq | exact ne_zm | exact mm) : SPT e j y c' w' A cap xss X B D xs := by
 obtain ⟨Hs, h1, h2, h3, h4⟩ := h
 exact ⟨Hs, h1.ev E hj h0, h2.ev E hy h0, fun k a b => (by obtain ⟨B, D, g1, g2⟩ := h3 k a b; exact ⟨B, D, g1, g2.ev E h0 h0⟩), h4⟩
theorem SPT.rc (h : SPT e j y c w A cap xss X B D xs) (hj : ∀ k, c k = j → c' k = j') (hy : ∀ k, c k = y → c' k = y') (h0 : ∀ k, c k = 0 → c' k = 0) (hp : 0 < y') : SPT e j' y' c' w A cap xss X B D xs := by
 obtain ⟨Hs, h1, h2, h3, h4⟩ := h
 exact ⟨Hs, h1.rc hj h0, h2.rc hy h0 hp, fun k a b => (by obtain ⟨B, D, g1, g2⟩ := h3 k a b; exact ⟨B, D, g1, g2.rc h0 h0⟩), h4⟩
def TW (e : K α) (z : Nat) (c : Nat → Nat) (w : World) (A0 : Option Addr) (C0 : Nat) (xs : List α) (A : Option Addr) (C : Nat) (ys : List α) : Prop :=
 SL true e z 0 c w A C ys ∧ ((A0 = A ∧ C0 = C ∧ xs.length ≤ ys.length ∧ ys.take xs.length = xs) ∨ SL false e 0 0 c w A0 C0 xs)
theorem TW.ev (h : TW e z c w A0 C0 xs A C ys) (E : Ev M c w c' w') (hz : ¬ M z := by first | exact nq | exact ne_zm | exact mm) (h0 : ¬ M 0 := by first | exact nq | exact ne_zm | exact mm) : TW e z c' w' A0 C0 xs A C ys := ⟨h.1.ev E hz h0, h.2.imp id fun q => q.ev E h0 h0⟩
theorem TW.rc (h : TW e z c w A0 C0 xs A C ys) (hz : ∀ k, c k = z → c' k = i') (h0 : ∀ k, c k = 0 → c' k = 0) : TW e i' c' w A0 C0 xs A C ys := ⟨h.1.rc hz h0, h.2.imp id fun q => q.rc h0 h0⟩
theorem SP.take [Inhabited (List α)] (h : SP e j y c w A cap xss X) (k : Int) (h0 : 0 ≤ k) (h1 : k < xss.length) (hX : X = k.toNat) (hz : z ≠ y ∧ 0 < z) (hjy : j ≠ y) :
  ∃ c', (∀ b, c b ≠ y → c' b = c b) ∧ (∀ b, c' b = c b ∨ c' b = z) ∧ ∃ ad B D, A = some ad ∧ AT true j c' w (ad.add (k.toNat * 1)) [Value.slice B (rd xss k).length D] ∧ TW e z c' w B D (rd xss k) B D (rd xss k) ∧ SPT e j y c' w A cap xss X B D (rd xss k) := by
 subst hX
 obtain ⟨c', a1, a2, ad, B, D, a3, a4, a5, Hs, b1, b2, b3⟩ := SP.lend h k h0 h1 (Nat.le_refl _) hz hjy
 have hl := b2.hl
 have hk : k.toNat < xss.length := by omega
 have hk' : k.toNat < Hs.length := by omega
 obtain ⟨ad', q1, hat'⟩ := SP.cell b1 hk'
 rw [a3] at q1
 obtain rfl := Option.some.inj q1
 have eh := hat'.cell_eq a4
 have er : rd xss k = xss[k.toNat] := by unfold rd; rw [List.getD_eq_getElem?_getD, List.getElem?_eq_getElem hk]; rfl
 exact ⟨c', a1, a2, ad, B, D, a3, a4, ⟨a5, .inl ⟨rfl, rfl, Nat.le_refl _, List.take_length⟩⟩, Hs, b1, b2.weak (by rintro q (r | r) <;> omega), b3, by rw [List.getElem?_eq_getElem hk', eh], by rw [List.getElem?_eq_getElem hk, er]⟩
theorem SL.takeL (h : SL own e j i c w A C ys) (hn : n ≤ ys.length) : SL own e j i c w A C (ys.take n) := by
 obtain ⟨cs, a1, a2, a3, a4, a5⟩ := h
 refine ⟨cs, by rw [List.length_take]; omega, a2, a3, a4, fun q hq => ?_⟩
 rw [List.length_take] at hq
 rw [List.getElem_take]
 exact a5 q (by omega)
theorem TW.fr (h : TW e z c w A0 C0 xs A C ys) (hz : ∀ k, c k = z → c' k = 0) (h0 : ∀ k, c k = 0 → c' k = 0) : SL false e 0 0 c' w A0 C0 xs ∧ SL false e 0 0 c' w A C ys := by
 obtain ⟨h1, h2⟩ := h
 have g := (h1.rc (j' := 0) (i' := 0) hz h0).r
 refine ⟨?_, g⟩
 rcases h2 with ⟨rfl, rfl, h3, h4⟩ | h2
 ·rw [← h4]; exact g.takeL h3
 ·exact h2.rc h0 h0
theorem SPT.put (h : SPT e j y c w A cap xss X B D xs) (hs : SL false e 0 0 c w B D xs) : SP e j y c w A cap xss (X + 1) := by
 obtain ⟨Hs, h1, h2, h3, h4, h5⟩ := h
 refine ⟨Hs, h1, h2.weak fun k q => .inl q, fun k a b => ?_⟩
 by_cases c : k = X
 ·subst c
  rw [List.getElem?_eq_getElem a] at h5
  obtain rfl := Option.some.inj h5
  exact ⟨B, D, h4, hs⟩
 ·exact h3 k a (by omega)
theorem SP.done (h : SP e j y c w A cap xss X) (hX : xss.length ≤ X) : SL true (Kslice e) j 0 c w A cap xss := by
 obtain ⟨Hs, ⟨cs, g1, g2, g3, g4, g5⟩, h2, h3⟩ := h
 have hl := h2.hl
 refine ⟨cs, by omega, g2, g3, g4, fun n hn => ?_⟩
 obtain ⟨B, D, q1, q2⟩ := h3 n hn (by omega)
 have hn' : n < Hs.length := by omega
 have h5 := (g5 n hn').1
 have e1 : (Kslice e).sz = 1 := rfl
 have e2 : Kval.sz = 1 := rfl
 refine ⟨B, D, ?_, q2⟩
 rw [e1]; rw [e2] at h5
 rw [h5]
 rw [List.getElem?_eq_getElem hn'] at q1
 rw [Option.some.inj q1]
theorem SP.cast {X' : Nat} (h : SP e j y c w A cap xss X) (hX : X = X') : SP e j y c w A cap xss X' := hX ▸ h
theorem SP.next {k : Int} (h : SP e j y c w A cap xss (X + 1)) (h0 : 0 ≤ k) (hX : X = k.toNat) (h1 : X < xss.length) : SP e j y c w A cap xss (IntKind.i64.wrap (k + 1)).toNat := by
 have hb := h.lenB
 refine h.cast ?_
 unfold maxLen at hb
 rw [IntKind.wrap_i64]; omega
end
section
variable {P : Program} {a : Act} {N : Nat} {L : List (Nat × Value)} {D : List Deferred} {w w' : World} {x y : Operand} {d : Option Tmp} {t el ty : TypeId} {pos : String} {af : Array Edge} {gd : Option (Nat × Bool)} {c : Nat → Nat} {z j2 : Nat} {own2 : Bool} {A A0 B : Option Addr} {C C0 cap2 bytes : Nat} {zz : Value} {α : Type} {e : K α} {xs ys vs : List α}
theorem e_appendS {cap j y0 y2 : Nat} {xss yss : List (List α)} (F : Fr a N L D) (T : ET P t el Kval.sz bytes zz) (hx : ev L x = some (.slice A xss.length cap)) (hy : ev L y = some (.slice B yss.length cap2)) (h1 : SP e j y0 c w A cap xss 0) (h2 : SP e j2 y2 c w B cap2 yss 0) (hb : (xss.length + yss.length) * bytes ≤ 140737488355328) (hm : xss.length + yss.length ≤ maxLen) (hj : 0 < j) (hyj : y0 ≠ j) (hy2j : y2 ≠ j) (hne : y2 ≠ y0) :
  ∃ v w', (execOp a.eval { dst := d, op := .call { callee := .builtin .append, args := #[x, y], argTypes := #[t, t] }, type := ty, pos := pos, after := af, guard := gd }).run P w = .ok (.value v) w' ∧
   ∃ c1 A' C', v = .slice A' (xss ++ yss).length C' ∧ Ev (fun x => x = j) c w c1 w' ∧ (∀ m, CB m c w → j < m → CB m c1 w') ∧ ∃ c2, (∀ b, c1 b ≠ y2 → c2 b = c1 b) ∧ (∀ b, c2 b = c1 b ∨ c2 b = y0) ∧ SP e j y0 c2 w' A' C' (xss ++ yss) 0 := by
 obtain ⟨Hs, l1, g1, g2⟩ := h1.open
 obtain ⟨Hs2, l2, k1, k2⟩ := h2.open
 rw [← l1] at hx hb hm
 rw [← l2] at hy hb hm
 obtain ⟨v, w', hr, c1, A', C', rfl, E, hS, hB⟩ := e_append (d := d) (ty := ty) (pos := pos) (af := af) (gd := gd) F T hx hy g1 k1 hb hm (by omega)
 have hy2 := k2.1
 have n0 : ¬ (0 : Nat) = j := by omega
 have q1 := GRh.ev g2 E hyj n0
 have q2 := GRh.ev k2 E hy2j n0
 have q3 := GR.append q1 q2 hne
 refine ⟨_, w', hr, c1, A', C', by rw [List.length_append, List.length_append, l1, l2], E, hB, fun b => if c1 b = y2 then y0 else c1 b, fun b hb => if_neg hb, fun b => ?_, ?_⟩
 ·by_cases h : c1 b = y2
  ·exact .inr (if_pos h)
  ·exact .inl (if_neg h)
 ·rw [← List.map_append] at q3
  refine SP.mk (hS.rc (fun k hk => ?_) (fun k hk => ?_)) q3
  ·show (if c1 k = y2 then y0 else c1 k) = j
   rw [if_neg (by rw [hk]; exact fun q => hy2j q.symm)]; exact hk
  ·show (if c1 k = y2 then y0 else c1 k) = 0
   rw [if_neg (by omega)]; exact hk
theorem e_appendT (F : Fr a N L D) (T : ET P t el e.sz bytes zz) (hx : ev L x = some (.slice A ys.length C)) (hy : ev L y = some (.slice B vs.length cap2)) (h1 : TW e z c w A0 C0 xs A C ys) (h2 : SL own2 e j2 0 c w B cap2 vs) (hb : (ys.length + vs.length) * bytes ≤ 140737488355328) (hm : ys.length + vs.length ≤ maxLen) (hz : 0 < z) :
  ∃ v w', (execOp a.eval { dst := d, op := .call { callee := .builtin .append, args := #[x, y], argTypes := #[t, t] }, type := ty, pos := pos, after := af, guard := gd }).run P w = .ok (.value v) w' ∧
   ∃ c1 A' C', v = .slice A' (ys ++ vs).length C' ∧ Ev (fun x => x = z) c w c1 w' ∧ (∀ m, CB m c w → z < m → CB m c1 w') ∧ ∃ c2, (∀ b, c1 b ≠ z → c2 b = c1 b) ∧ (∀ b, c2 b = c1 b ∨ c2 b = 0) ∧ TW e z c2 w' A0 C0 xs A' C' (ys ++ vs) := by
 obtain ⟨A', cap', w1, hr, c1, E, hS, hB, hT⟩ := run_appendT (ty := ty) T h1.1 h2 hb hm (by omega)
 refine ⟨_, w1, by simp [execOp, resolve, invoke, builtin, F.ev hx, F.ev hy, hr], c1, A', cap', rfl, E, hB, ?_⟩
 rcases hT with ⟨rfl, rfl⟩ | ⟨EN, hsz, q, rfl, hq⟩
 ·refine ⟨c1, fun _ _ => rfl, fun _ => .inl rfl, hS, h1.2.imp (fun ⟨g1, g2, g3, g4⟩ => ⟨g1, g2, by rw [List.length_append]; omega, ?_⟩) fun g => g.ev E (by show ¬ (0 = z); omega) (by show ¬ (0 = z); omega)⟩
  rw [List.take_append_of_le_length g3, g4]
 ·let c2 : Nat → Nat := fun b => if b < w.heap.size ∧ c1 b = z then 0 else c1 b
  have ho : ∀ b, c1 b ≠ z → c2 b = c1 b := fun b hb => if_neg fun q => hb q.2
  have h00 : ∀ b, c1 b = 0 → c2 b = 0 := fun b hb => (ho b (by rw [hb]; omega)).trans hb
  refine ⟨c2, ho, fun b => ?_, ?_, .inr ?_⟩
  ·by_cases h : b < w.heap.size ∧ c1 b = z
   ·exact .inr (if_pos h)
   ·exact .inl (if_neg h)
  ·obtain ⟨cs, a1, a2, a3, a4, a5⟩ := hS
   refine ⟨cs, a1, a2, a3, a4.imp id ?_, fun n hn => e.rc (a5 n hn) h00⟩
   rintro ⟨ad, e1, b, off, cur, tt, fz, e2, b1, b2, b3, b4⟩
   obtain rfl := Option.some.inj e1
   subst e2
   have hbz : b = w.heap.size := hq
   exact ⟨_, rfl, b, off, cur, tt, fz, rfl, b1, (if_neg fun q => by omega : c2 b = c1 b).trans b2, b3, b4⟩
  ·rcases h1.2 with ⟨rfl, rfl, g3, g4⟩ | g
   ·rw [← g4]
    refine SL.takeL ?_ g3
    obtain ⟨cs, a1, a2, a3, a4, a5⟩ := h1.1
    refine ⟨cs, a1, a2, a3, a4.imp id ?_, fun n hn => e.rc (e.ev (a5 n hn) EN (fun q => q)) h00⟩
    rintro ⟨ad, rfl, hat⟩
    refine ⟨ad, rfl, ?_⟩
    have hat1 := hat.ev EN (fun q => q)
    obtain ⟨b, off, cur, tt, fz, rfl, b1, b2, b3, b4⟩ := hat
    obtain ⟨b', off', cur', tt', fz', e2, d1, d2, d3, d4⟩ := hat1
    have hbb : b' = b := by injection e2 with e3; exact e3.symm
    have hoo : off' = off := by injection e2 with _ e3; exact e3.symm
    subst hbb hoo
    exact ⟨b', off', cur', tt', fz', rfl, d1, if_pos ⟨lt_of_get b1, d2⟩, d3, fun q => by cases q⟩
   ·exact (g.ev EN (fun q => q) (fun q => q)).rc h00 h00
end
def Kraw (n : Nat) (hn : 0 < n) : K (List Value) where
 sz := n
 pos := hn
 rep := fun _ _ _ cs v => cs = v ∧ v.length = n ∧ ∀ u ∈ v, u.oneCell' = true
 ev := fun h _ _ => h
 rc := fun h _ => h
 len := fun h => by rw [h.1]; exact h.2.1
 one := fun h v hv => h.2.2 v (by rw [← h.1]; exact hv)
def xiL (zs : List Nat) : Nat → Nat := fun q => zs.getD q 0
def AllZ (y : Nat) : List Nat → Prop
 | [] => True
 | z :: l => (z ≠ y ∧ 0 < z) ∧ AllZ y l
def NeAll (x : Nat) : List Nat → Prop
 | [] => True
 | z :: l => x ≠ z ∧ NeAll x l
def LtAll (m : Nat) : List Nat → Prop
 | [] => True
 | z :: l => z < m ∧ LtAll m l
def Apart : List Nat → Prop
 | [] => True
 | z :: l => NeAll z l ∧ Apart l
theorem AllZ.get {y : Nat} : ∀ {zs : List Nat}, AllZ y zs → ∀ q, q < zs.length → xiL zs q ≠ y ∧ 0 < xiL zs q
 | [], _, q, h => absurd h (by simp)
 | z :: l, h, 0, _ => h.1
 | z :: l, h, q + 1, hq => h.2.get q (by simp at hq; omega)
theorem NeAll.get {x : Nat} : ∀ {zs : List Nat}, NeAll x zs → ∀ q, q < zs.length → x ≠ xiL zs q
 | [], _, q, h => absurd h (by simp)
 | z :: l, h, 0, _ => h.1
 | z :: l, h, q + 1, hq => h.2.get q (by simp at hq; omega)
theorem LtAll.get {m : Nat} : ∀ {zs : List Nat}, LtAll m zs → ∀ q, q < zs.length → xiL zs q < m
 | [], _, q, h => absurd h (by simp)
 | z :: l, h, 0, _ => h.1
 | z :: l, h, q + 1, hq => h.2.get q (by simp at hq; omega)
theorem Apart.inj : ∀ {zs : List Nat}, Apart zs → ∀ q q', q < zs.length → q' < zs.length → xiL zs q = xiL zs q' → q = q'
 | [], _, q, _, h, _, _ => absurd h (by simp)
 | z :: l, h, 0, 0, _, _, _ => rfl
 | z :: l, h, 0, q' + 1, _, hq', e => absurd e (h.1.get q' (by simp at hq'; omega))
 | z :: l, h, q + 1, 0, hq, _, e => absurd e.symm (h.1.get q (by simp at hq; omega))
 | z :: l, h, q + 1, q' + 1, hq, hq', e => by rw [h.2.inj q q' (by simp at hq; omega) (by simp at hq'; omega) e]
theorem NeAll.of {x : Nat} : ∀ {zs : List Nat}, (∀ q, q < zs.length → x ≠ xiL zs q) → NeAll x zs
 | [], _ => trivial
 | z :: l, h => ⟨h 0 (by simp), NeAll.of fun q hq => h (q + 1) (by simp; omega)⟩
section
variable {α : Type} {e : KO α} {i i' j j' y y' z n cap C D : Nat} {c c' : Nat → Nat} {w w' : World} {A B : Option Addr} {xs ys : List α} {M : Nat → Prop} {hole : Nat → Prop} {css : List (List Value)} {own : Bool} {zs : List Nat}
def OL (e : KO α) (j y : Nat) (c : Nat → Nat) (w : World) (A : Option Addr) (cap : Nat) (xs : List α) (hole : Nat → Prop := noHole) : Prop :=
 ∃ css : List (List Value), SL true (Kraw e.sz e.pos) j 0 c w A cap css ∧ GRh e y c w css xs hole
theorem OL.lenB (h : OL e j y c w A cap xs hole) : xs.length ≤ maxLen := by
 obtain ⟨css, h1, h2⟩ := h
 have := h1.lenB; rw [h2.2.1] at this; exact this
theorem OL.ev (h : OL e j y c w A cap xs hole) (E : Ev M c w c' w') (hj : ¬ M j := by first | exact nq | exact ne_zm | exact mm) (hy : ¬ M y := by first | exact nq | exact ne_zm | exact mm) (h0 : ¬ M 0 := by first | exact nq | exact ne_zm | exact mm) : OL e j y c' w' A cap xs hole := by
 obtain ⟨css, h1, h2⟩ := h
 exact ⟨css, h1.ev E hj h0, h2.ev E hy h0⟩
theorem OL.rc (h : OL e j y c w A cap xs hole) (hj : ∀ k, c k = j → c' k = j') (hy : ∀ k, c k = y → c' k = y') (h0 : ∀ k, c k = 0 → c' k = 0) (hp : 0 < y') : OL e j' y' c' w A cap xs hole := by
 obtain ⟨css, h1, h2⟩ := h
 exact ⟨css, h1.rc hj h0, h2.rc hy h0 hp⟩
theorem OL.nil (hy : 0 < y) : OL e j y c w none 0 [] := ⟨[], SL.nil, GR.nil hy⟩
theorem OL.mk (h : SL true (Kraw e.sz e.pos) j 0 c w A cap css) (g : GR e y c w css xs) : OL e j y c w A cap xs := ⟨css, h, g⟩
theorem OL.len (h : OL e j y c w A cap xs hole) : ∃ css : List (List Value), css.length = xs.length ∧ SL true (Kraw e.sz e.pos) j 0 c w A cap css ∧ GRh e y c w css xs hole := by
 obtain ⟨css, h1, h2⟩ := h
 exact ⟨css, h2.2.1, h1, h2⟩
theorem GRL.push (h : GR e y c w css xs) {ds : List Value} {x : α} (hx : e.rep (xiL zs) c w ds x) (hnp : e.np = zs.length) (hz : AllZ y zs) (hn : Apart zs) :
  ∃ c', (∀ b, NeAll (c b) zs → c' b = c b) ∧ (∀ b, c' b = c b ∨ c' b = y) ∧ GR e y c' w (css ++ [ds]) (xs ++ [x]) := by
 obtain ⟨c', a1, a2, a3⟩ := GR.push h hx (fun q hq => hz.get q (by omega)) (fun q q' hq hq' => hn.inj q q' (by omega) (by omega))
 exact ⟨c', fun b hb => a1 b (fun q hq => hb.get q (by omega)), a2, a3⟩
theorem OL.view {k : K α} (h : OL e j y c w A cap xs) (hs : k.sz = e.sz) (hf : ∀ {c w cs x}, e.rep (fun _ => y) c w cs x → k.rep y c w cs x) : SL false k j y c w A cap xs := by
 obtain ⟨css, hl, ⟨cs, g1, g2, g3, g4, g5⟩, h2⟩ := h.len
 have e0 : (Kraw e.sz e.pos).sz = e.sz := rfl
 refine ⟨cs, by omega, g2, by rw [hs]; exact g3, g4.imp id (fun ⟨a, q, r⟩ => ⟨a, q, r.r⟩), fun n hn => ?_⟩
 have hn' : n < css.length := by omega
 have h5 := (g5 n hn').1
 rw [e0] at h5
 rw [hs, h5]
 exact hf (GRh.read h2 hn hn' (fun q => q))
theorem OL.fr {k : K α} (h : OL e j y c w A cap xs) (hs : k.sz = e.sz) (hf : ∀ {c w cs x}, e.rep (fun _ => y) c w cs x → k.rep y c w cs x) (hj : ∀ k, c k = j → c' k = j') (hy : ∀ k, c k = y → c' k = 0) (h0 : ∀ k, c k = 0 → c' k = 0) : SL true k j' 0 c' w A cap xs := by
 obtain ⟨css, hl, ⟨cs, g1, g2, g3, g4, g5⟩, h2⟩ := h.len
 have e0 : (Kraw e.sz e.pos).sz = e.sz := rfl
 refine ⟨cs, by omega, g2, by rw [hs]; exact g3, g4.imp id (fun ⟨a, q, r⟩ => ⟨a, q, r.rc hj⟩), fun n hn => ?_⟩
 have hn' : n < css.length := by omega
 have h5 := (g5 n hn').1
 rw [e0] at h5
 rw [hs, h5]
 exact k.rc (hf (GRh.read h2 hn hn' (fun q => q))) hy
theorem rn {zs : List Nat} {c c' : Nat → Nat} {j : Nat} (e : ∀ b, NeAll (c b) zs → c' b = c b) (x : NeAll j zs) : ∀ k, c k = j → c' k = j := fun k hk => (e k (by rw [hk]; exact x)).trans hk
theorem Ev.rn {M : Nat → Prop} {m : Nat} {zs : List Nat} {c0 c c' : Nat → Nat} {w0 w : World} (h : Ev (fun k => M k ∨ m ≤ k) c0 w0 c w) (hB : CB m c0 w0) (e : ∀ b, NeAll (c b) zs → c' b = c b) (hz : ∀ x, x < m → NeAll x zs := by first | exact fun x hx => ⟨by omega, trivial⟩ | exact fun x hx => ⟨by omega, by omega, trivial⟩ | exact fun x hx => ⟨by omega, by omega, by omega, trivial⟩) : Ev (fun k => M k ∨ m ≤ k) c0 w0 c' w := h.recol hB (fun b hb => e b (hz _ hb))
theorem OL.cell (h : SL own (Kraw e.sz e.pos) j 0 c w A cap css) {k : Nat} (hk : k < css.length) : ∃ ad, A = some ad ∧ AT own j c w (ad.add (k * e.sz)) css[k] := by
 obtain ⟨cs, g1, g2, g3, g4, g5⟩ := h
 have e2 : (Kraw e.sz e.pos).sz = e.sz := rfl
 rw [e2] at g3 g5
 have hp := e.pos
 have hle : (k + 1) * e.sz ≤ cap * e.sz := Nat.mul_le_mul_right _ (by omega)
 rw [Nat.add_mul, Nat.one_mul] at hle
 rcases g4 with rfl | ⟨ad, rfl, hat⟩
 ·simp at g3; omega
 ·refine ⟨ad, rfl, ?_⟩
  have := hat.sub (k * e.sz) e.sz (by omega)
  rwa [(g5 k hk).1] at this
theorem OL.csl (h : SL own (Kraw e.sz e.pos) j 0 c w A cap css) {k : Nat} (hk : k < css.length) : (css[k]).length = e.sz ∧ ∀ u ∈ css[k], u.oneCell' = true := by
 obtain ⟨cs, g1, g2, g3, g4, g5⟩ := h
 exact (g5 k hk).2
theorem rd_at [Inhabited α] {k : Int} (h0 : 0 ≤ k) (hk : k.toNat < xs.length) : rd xs k = xs[k.toNat] := by unfold rd; rw [List.getD_eq_getElem?_getD, List.getElem?_eq_getElem hk]; rfl
theorem OL.lend [Inhabited α] (h : OL e j y c w A cap xs) (zs : List Nat) (k : Int) (h0 : 0 ≤ k) (h1 : k < xs.length) (hnp : e.np = zs.length) (hz : AllZ y zs) (hjy : j ≠ y) :
  ∃ c', (∀ b, c b ≠ y → c' b = c b) ∧ (∀ m, LtAll m zs → CB m c w → CB m c' w) ∧ ∃ ad cs, A = some ad ∧ AT true j c' w (ad.add (k.toNat * e.sz)) cs ∧ e.rep (xiL zs) c' w cs (rd xs k) ∧ OL e j y c' w A cap xs (fun q => q = k.toNat) := by
 obtain ⟨css, g1, g2⟩ := h
 have hk : k.toNat < xs.length := by omega
 have hl := g2.2.1
 have hk' : k.toNat < css.length := by omega
 have hy := g2.1
 obtain ⟨c', a1, a2, ⟨hq, a3⟩, a5⟩ := GR.borrow g2 hk (xiL zs) (fun q hq => hz.get q (by omega))
 have hj : ∀ b, c b = j → c' b = j := fun b hb => (a1 b (by rw [hb]; exact hjy)).trans hb
 have h00 : ∀ b, c b = 0 → c' b = 0 := fun b hb => (a1 b (by rw [hb]; omega)).trans hb
 obtain ⟨ad, rfl, hat⟩ := OL.cell g1 hk'
 refine ⟨c', a1, fun m hm hB b hb => ?_, ad, css[k.toNat], rfl, hat.rc hj, ?_, css, g1.rc hj h00, a5⟩
 ·rcases a2 b with q | ⟨_, q, hq, q2⟩
  ·rw [q]; exact hB b hb
  ·rw [q2]; exact hm.get q (by omega)
 ·rw [rd_at h0 hk]; exact a3
theorem OL.lendH [Inhabited α] (h : OL e j y c w A cap xs hole) (zs : List Nat) (k : Int) (h0 : 0 ≤ k) (h1 : k < xs.length) (hnh : ¬ hole k.toNat) (hnp : e.np = zs.length) (hz : AllZ y zs) (hjy : j ≠ y) :
  ∃ c', (∀ b, c b ≠ y → c' b = c b) ∧ (∀ m, LtAll m zs → CB m c w → CB m c' w) ∧ ∃ ad cs, A = some ad ∧ AT true j c' w (ad.add (k.toNat * e.sz)) cs ∧ e.rep (xiL zs) c' w cs (rd xs k) ∧ OL e j y c' w A cap xs (fun q => hole q ∨ q = k.toNat) := by
 obtain ⟨css, g1, g2⟩ := h
 have hk : k.toNat < xs.length := by omega
 have hl := g2.2.1
 have hk' : k.toNat < css.length := by omega
 have hy := g2.1
 obtain ⟨c', a1, a2, ⟨hq, a3⟩, a5⟩ := GRh.borrow g2 hk hnh (xiL zs) (fun q hq => hz.get q (by omega))
 have hj : ∀ b, c b = j → c' b = j := fun b hb => (a1 b (by rw [hb]; exact hjy)).trans hb
 have h00 : ∀ b, c b = 0 → c' b = 0 := fun b hb => (a1 b (by rw [hb]; omega)).trans hb
 obtain ⟨ad, rfl, hat⟩ := OL.cell g1 hk'
 refine ⟨c', a1, fun m hm hB b hb => ?_, ad, css[k.toNat], rfl, hat.rc hj, ?_, css, g1.rc hj h00, a5⟩
 ·rcases a2 b with q | ⟨_, q, hq, q2⟩
  ·rw [q]; exact hB b hb
  ·rw [q2]; exact hm.get q (by omega)
 ·rw [rd_at h0 hk]; exact a3
theorem OL.back {k : Int} {ad : Addr} {cs : List Value} {x : α} (h : OL e j y c w A cap xs (fun q => q = k.toNat)) (h0 : 0 ≤ k) (h1 : k < xs.length) (hA : A = some ad) (hat : AT own j c w (ad.add (k.toNat * e.sz)) cs) (hx : e.rep (xiL zs) c w cs x) (hnp : e.np = zs.length) (hz : AllZ y zs) (hn : Apart zs) (hjz : NeAll j zs) (h0z : NeAll 0 zs) :
  ∃ c', (∀ b, NeAll (c b) zs → c' b = c b) ∧ (∀ b, c' b = c b ∨ c' b = y) ∧ OL e j y c' w A cap (xs.set k.toNat x) := by
 obtain ⟨css, g1, g2⟩ := h
 have hl := g2.2.1
 have hk : k.toNat < xs.length := by omega
 have hk' : k.toNat < css.length := by omega
 obtain ⟨c', a1, a2, a3⟩ := GRh.fill g2 hx (fun q hq => hz.get q (by omega)) (fun q q' hq hq' => hn.inj q q' (by omega) (by omega))
 have a1 : ∀ b, NeAll (c b) zs → c' b = c b := fun b hb => a1 b (fun q hq => hb.get q (by omega))
 have hj : ∀ b, c b = j → c' b = j := fun b hb => (a1 b (by rw [hb]; exact hjz)).trans hb
 have h00 : ∀ b, c b = 0 → c' b = 0 := fun b hb => (a1 b (by rw [hb]; exact h0z)).trans hb
 obtain ⟨ad', q1, hat'⟩ := OL.cell g1 hk'
 rw [hA] at q1
 obtain rfl := Option.some.inj q1
 have ec : css[k.toNat] = cs := AT.inj hat' hat (by rw [(OL.csl g1 hk').1, e.len hx])
 have es : css.set k.toNat cs = css := by rw [← ec]; exact List.set_getElem_self hk'
 rw [es] at a3
 exact ⟨c', a1, a2, css, g1.rc hj h00, a3⟩
theorem GRh.mapAt (h : GRh e y c w css xs hole) {n : Nat} {ds : List Value} {x : α} (hr : ∀ (hn : n < xs.length) (hn' : n < css.length) γ, ¬ hole n → e.rep γ (sub c (Classical.choose h.2.2) y) w css[n] xs[n] → e.rep γ (sub c (Classical.choose h.2.2) y) w ds x) : GRh e y c w (css.set n ds) (xs.set n x) hole := by
 have hs := Classical.choose_spec h.2.2
 refine ⟨h.1, by simpa using h.2.1, Classical.choose h.2.2, fun k a b hk => ?_⟩
 have a' : k < xs.length := by simpa using a
 have b' : k < css.length := by simpa using b
 by_cases q : k = n
 ·subst q
  simp only [List.getElem_set_self]
  exact hr a' b' _ hk (hs k a' b' hk)
 ·rw [List.getElem_set_ne (fun e => q e.symm), List.getElem_set_ne (fun e => q e.symm)]
  exact hs k a' b' hk
theorem OL.lay {P : Program} [Inhabited α] (h : OL e j y c w A cap xs) {n : Int} (h0 : 0 ≤ n) (h1 : n < xs.length) {a0 : Addr} (hA : A = some a0) {off : Nat} {us cs : List Value} (hat : AT own j c w (a0.add (n.toNat * e.sz)) cs) (hcl : cs.length = e.sz) (ho : off + us.length ≤ cs.length) (hu : ∀ u ∈ us, u.oneCell' = true) (x' : α) (hr : ∀ {γ c w}, e.rep γ c w cs (rd xs n) → e.rep γ c w (G.lay cs off us) x') (hyj : y ≠ j) (hj0 : 0 < j) :
  ∃ w', (storeCells ((a0.add (n.toNat * e.sz)).add off) us).run P w = .ok () w' ∧ Ev (fun x => x = j) c w c w' ∧ OL e j y c w' A cap (xs.set n.toNat x') ∧ w'.heap.size = w.heap.size := by
 obtain ⟨css, g1, g2⟩ := h
 have hl := g2.2.1
 have hk : n.toNat < xs.length := by omega
 have hk' : n.toNat < css.length := by omega
 obtain ⟨ad', q1, hat'⟩ := OL.cell g1 hk'
 rw [hA] at q1
 obtain rfl := Option.some.inj q1
 have ec : css[n.toNat] = cs := AT.inj hat' hat (by rw [(OL.csl g1 hk').1, hcl])
 have e0 : (Kraw e.sz e.pos).sz = e.sz := rfl
 have hco := (OL.csl g1 hk').2
 obtain ⟨w', hrun, E, hS, hz⟩ := SL.lay (P := P) g1 hk' hA (cs := cs) (off := off) (us := us) (by rw [e0, ← ec]; exact hat') hcl ho hu (G.lay cs off us) ⟨rfl, by rw [lay_length ho]; exact hcl, fun u hu' => by
  unfold G.lay at hu'
  rcases List.mem_append.1 hu' with q | q
  ·rcases List.mem_append.1 q with q | q
   ·exact hco u (by rw [ec]; exact List.mem_of_mem_take q)
   ·exact hu u q
  ·exact hco u (by rw [ec]; exact List.mem_of_mem_drop q)⟩ (by omega)
 refine ⟨w', hrun, E, ⟨_, hS, ?_⟩, hz⟩
 refine GRh.mapAt (GRh.ev g2 E hyj (by omega)) fun a b γ _ hrep => ?_
 rw [← rd_at h0 hk, ec] at hrep
 exact hr hrep
end
section
variable {P : Program} {a : Act} {N : Nat} {L : List (Nat × Value)} {D : List Deferred} {w w' : World} {u : Value} {x y : Operand} {d : Option Tmp} {t el ty : TypeId} {pos : String} {af : Array Edge} {gd : Option (Nat × Bool)} {c : Nat → Nat} {j j2 y0 y2 : Nat} {own : Bool} {A B : Option Addr} {cap cap2 bytes : Nat} {zz : Value} {α : Type} {e : KO α} {xs ys : List α}
theorem e_appendR {css dss : List (List Value)} (F : Fr a N L D) (T : ET P t el e.sz bytes zz) (hx : ev L x = some (.slice A xs.length cap)) (hy : ev L y = some (.slice B ys.length cap2)) (h1 : SL true (Kraw e.sz e.pos) j 0 c w A cap css) (h2 : SL own (Kraw e.sz e.pos) j2 0 c w B cap2 dss) (l1 : css.length = xs.length) (l2 : dss.length = ys.length) (hb : (xs.length + ys.length) * bytes ≤ 140737488355328) (hm : xs.length + ys.length ≤ maxLen) (hj : 0 < j) :
  ∃ v w', (execOp a.eval { dst := d, op := .call { callee := .builtin .append, args := #[x, y], argTypes := #[t, t] }, type := ty, pos := pos, after := af, guard := gd }).run P w = .ok (.value v) w' ∧
   ∃ c1 A' C', v = .slice A' (xs ++ ys).length C' ∧ Ev (fun x => x = j) c w c1 w' ∧ SL true (Kraw e.sz e.pos) j 0 c1 w' A' C' (css ++ dss) ∧ ∀ m, CB m c w → j < m → CB m c1 w' := by
 rw [← l1] at hx hb hm
 rw [← l2] at hy hb hm
 have T' : ET P t el (Kraw e.sz e.pos).sz bytes zz := T
 obtain ⟨v, w', hr, c1, A', C', rfl, E, hS, hB⟩ := e_append (d := d) (ty := ty) (pos := pos) (af := af) (gd := gd) F T' hx hy h1 h2 hb hm (by omega)
 exact ⟨_, w', hr, c1, A', C', by rw [List.length_append, List.length_append, l1, l2], E, hS, hB⟩
variable [Inhabited α] {n : Int} {a0 q : Addr} {off : Nat} {us cs : List Value}
theorem SL.take {α : Type} {e : K α} {own : Bool} {j i : Nat} {c : Nat → Nat} {w : World} {A : Option Addr} {cap : Nat} {xs : List α} (h : SL own e j i c w A cap xs) (n : Nat) : SL own e j i c w A cap (xs.take n) := by
 obtain ⟨cs, h2, h3, h4, h5, h6⟩ := h
 refine ⟨cs, by rw [List.length_take]; omega, h3, h4, h5, fun m hm => ?_⟩
 rw [List.length_take] at hm
 have := h6 m (by omega)
 rw [List.getElem_take]
 exact this
end
section
variable {P : Program} {α : Type} {k : K α} {own : Bool} {j i : Nat} {c : Nat → Nat} {w : World} {A : Option Addr} {cap : Nat} {X ms : List α} {t e : TypeId}
theorem SLM.v (h : SL own k j i c w A cap (X ++ ms)) : SL own k j i c w A cap X := by
 have := h.take X.length
 rwa [List.take_left'] at this
 rfl
theorem cut_hM {kh : IntKind} {h : Int} (hu : P.underlying t = some (.slice e)) (hs : ∀ w, (sizeOf e).run P w = .ok k.sz w) (hx : SL own k j i c w A cap (X ++ ms)) (g : h = (X.length : Int)) :
  ∃ A' cap', (∀ w, (Instr.sliceAt t (.slice A (X ++ ms).length cap) none (some (.int kh h)) none).run P w = .ok (.slice A' X.length cap') w) ∧ SL own k j i c w A' cap' (X ++ ms) := by
 have hc : (X ++ ms).length ≤ cap := by obtain ⟨cs, h2, _⟩ := hx; exact h2
 have hl : (X ++ ms).length = X.length + ms.length := List.length_append
 have hcut := hx.cut 0 (X ++ ms).length cap (by omega) (by omega) (Nat.le_refl _) (by omega)
 rw [List.drop_zero, List.take_length] at hcut
 refine ⟨_, _, fun w => ?_, hcut⟩
 rw [run_cut hu hs _ _ _ (sb_h (n := (X ++ ms).length) (h := h) (by omega) (by omega)) w]
 congr 2
 omega
end
section
variable {β : Type} {q : IntKind} {K : TypeId} {mk : List Value → Value} {P : Program} {j j' y y' : Nat} {c c' : Nat → Nat} {w w' : World} {p : Option Addr} {o : MkV β} {e : KO β} {M : Nat → Prop}
structure MLink (o : MkV β) (r : MkV (List Value)) (css : List (List Value)) (xs : List β) (ix : Int → Nat) : Prop where
 n : r.n = o.n
 len : r.len = o.len
 at_ : ∀ k x, o.f k = some x → ix k < xs.length ∧ r.f k = css[ix k]? ∧ xs[ix k]? = some x
 no : ∀ k, o.f k = none → r.f k = none
 inj : ∀ k k', (o.f k).isSome = true → (o.f k').isSome = true → ix k = ix k' → k = k'
def MO (q : IntKind) (K : TypeId) (e : KO β) (mk : List Value → Value) (P : Program) (j y : Nat) (c : Nat → Nat) (w : World) (p : Option Addr) (o : MkV β) : Prop :=
 ∃ (r : MkV (List Value)) (css : List (List Value)) (xs : List β) (ix : Int → Nat), MK q K (Kraw e.sz e.pos) mk P j 0 c w p r ∧ GR e y c w css xs ∧ MLink o r css xs ix
theorem MO.ev (h : MO q K e mk P j y c w p o) (E : Ev M c w c' w') (hj : ¬ M j := by first | exact nq | exact ne_zm | exact mm) (hy : ¬ M y := by first | exact nq | exact ne_zm | exact mm) (h0 : ¬ M 0 := by first | exact nq | exact ne_zm | exact mm) : MO q K e mk P j y c' w' p o := by
 obtain ⟨r, css, xs, ix, h1, h2, h3⟩ := h
 exact ⟨r, css, xs, ix, h1.ev E hj h0, GRh.ev h2 E hy h0, h3⟩
theorem MO.rc (h : MO q K e mk P j y c w p o) (hj : ∀ k, c k = j → c' k = j') (hy : ∀ k, c k = y → c' k = y') (h0 : ∀ k, c k = 0 → c' k = 0) (hp : 0 < y') : MO q K e mk P j' y' c' w p o := by
 obtain ⟨r, css, xs, ix, h1, h2, h3⟩ := h
 exact ⟨r, css, xs, ix, h1.rc hj h0, GRh.rc h2 hy h0 hp, h3⟩
theorem MO.new (h : MK q K (Kraw e.sz e.pos) mk P j 0 c w p ⟨fun _ => none, 0, 0⟩) (hy : 0 < y) : MO q K e mk P j y c w p ⟨fun _ => none, 0, 0⟩ :=
 ⟨_, [], [], fun _ => 0, h, GR.nil hy, ⟨rfl, rfl, fun k x h => (nomatch h), fun k h => rfl, fun k k' h => (nomatch h)⟩⟩
theorem MLink.put {r : MkV (List Value)} {css : List (List Value)} {xs : List β} {ix : Int → Nat} (h : MLink o r css xs ix) (hl : css.length = xs.length) (k : Int) (cs : List Value) (x : β) :
  MLink (o.put k x) (r.put k cs) (css ++ [cs]) (xs ++ [x]) (fun i => if i = k then xs.length else ix i) := by
 refine ⟨?_, ?_, fun i x' hx => ?_, fun i hi => ?_, fun i i' hi hi' he => ?_⟩
 ·show r.n + 1 = o.n + 1; rw [h.n]
 ·show (if (r.f k).isSome = true then r.len else r.len + 1) = (if (o.f k).isSome = true then o.len else o.len + 1)
  rw [h.len]
  cases ho : o.f k with
  | none => rw [h.no k ho]; rfl
  | some z =>
   obtain ⟨a1, a2, a3⟩ := h.at_ k z ho
   rw [a2, List.getElem?_eq_getElem (by omega)]; rfl
 ·by_cases ck : i = k
  ·subst ck
   have hx : (if i = i then some x else o.f i) = some x' := hx
   rw [if_pos rfl] at hx
   simp only [if_pos]
   refine ⟨by simp, ?_, ?_⟩
   ·show (if i = i then some cs else r.f i) = _
    rw [if_pos rfl, ← hl, List.getElem?_append_right (Nat.le_refl _)]; simp
   ·rw [List.getElem?_append_right (Nat.le_refl _)]; simpa using hx
  ·have hx : (if i = k then some x else o.f i) = some x' := hx
   rw [if_neg ck] at hx
   obtain ⟨a1, a2, a3⟩ := h.at_ i x' hx
   simp only [if_neg ck]
   refine ⟨by simp; omega, ?_, ?_⟩
   ·show (if i = k then some cs else r.f i) = _
    rw [if_neg ck, a2, List.getElem?_append_left (by omega)]
   ·rw [List.getElem?_append_left a1]; exact a3
 ·have hi : (if i = k then some x else o.f i) = none := hi
  by_cases ck : i = k
  ·rw [if_pos ck] at hi; cases hi
  ·rw [if_neg ck] at hi
   show (if i = k then some cs else r.f i) = none
   rw [if_neg ck]; exact h.no i hi
 ·have hi : ((if i = k then some x else o.f i)).isSome = true := hi
  have hi' : ((if i' = k then some x else o.f i')).isSome = true := hi'
  have he : (if i = k then xs.length else ix i) = (if i' = k then xs.length else ix i') := he
  have lt : ∀ z, (o.f z).isSome = true → ix z < xs.length := fun z hz => by
   obtain ⟨v, hv⟩ := Option.isSome_iff_exists.1 hz
   exact (h.at_ z v hv).1
  by_cases c1 : i = k
  ·by_cases c2 : i' = k
   ·rw [c1, c2]
   ·rw [if_neg c2] at hi' he
    rw [if_pos c1] at he
    have := lt i' hi'; omega
  ·rw [if_neg c1] at hi he
   by_cases c2 : i' = k
   ·rw [if_pos c2] at he
    have := lt i hi; omega
   ·rw [if_neg c2] at hi' he
    exact h.inj i i' hi hi' he
theorem MLink.del {r : MkV (List Value)} {css : List (List Value)} {xs : List β} {ix : Int → Nat} (h : MLink o r css xs ix) (hl : css.length = xs.length) (k : Int) (cs : List Value) (x : β) :
  MLink (o.del k) (r.del k) (if (o.f k).isSome = true then css.set (ix k) cs else css) (if (o.f k).isSome = true then xs.set (ix k) x else xs) ix := by
 have ne : ∀ i x', i ≠ k → o.f i = some x' → (o.f k).isSome = true → ix k ≠ ix i := fun i x' ci hi hk e => ci (h.inj i k (by rw [hi]; rfl) hk e.symm)
 refine ⟨h.n, ?_, fun i x' hx => ?_, fun i hi => ?_, fun i i' hi hi' he => ?_⟩
 ·show (if (r.f k).isSome = true then r.len - 1 else r.len) = (if (o.f k).isSome = true then o.len - 1 else o.len)
  rw [h.len]
  cases ho : o.f k with
  | none => rw [h.no k ho]; rfl
  | some z =>
   obtain ⟨a1, a2, a3⟩ := h.at_ k z ho
   rw [a2, List.getElem?_eq_getElem (by omega)]; rfl
 ·have hx : (if i = k then none else o.f i) = some x' := hx
  by_cases ck : i = k
  ·rw [if_pos ck] at hx; cases hx
  ·rw [if_neg ck] at hx
   obtain ⟨a1, a2, a3⟩ := h.at_ i x' hx
   have hr : (r.del k).f i = r.f i := by show (if i = k then none else r.f i) = _; rw [if_neg ck]
   rw [hr]
   by_cases hk : (o.f k).isSome = true
   ·have hne := ne i x' ck hx hk
    rw [if_pos hk, if_pos hk]
    refine ⟨by simpa using a1, ?_, ?_⟩
    ·rw [a2, List.getElem?_set_ne hne]
    ·rw [List.getElem?_set_ne hne]; exact a3
   ·rw [if_neg hk, if_neg hk]; exact ⟨a1, a2, a3⟩
 ·have hi : (if i = k then none else o.f i) = none := hi
  show (if i = k then none else r.f i) = none
  by_cases ck : i = k
  ·rw [if_pos ck]
  ·rw [if_neg ck] at hi ⊢; exact h.no i hi
 ·have f : ∀ z, ((o.del k).f z).isSome = true → (o.f z).isSome = true := fun z hz => by
   have hz : ((if z = k then none else o.f z)).isSome = true := hz
   by_cases cz : z = k
   ·rw [if_pos cz] at hz; cases hz
   ·rwa [if_neg cz] at hz
  exact h.inj i i' (f i hi) (f i' hi') he
end
section
variable {β : Type} {q : IntKind} {K : TypeId} {e : KO β} {mk : List Value → Value} {P : Program} {a : Act} {N : Nat} {L : List (Nat × Value)} {D : List Deferred} {w w' : World} {v u : Value} {x y m : Operand} {d : Option Tmp} {t et ty : TypeId} {pos : String} {af : Array Edge} {gd : Option (Nat × Bool)} {c : Nat → Nat} {j z : Nat} {p : Option Addr} {o : MkV β} {zs : List Nat}
theorem e_mapUpdateO (F : Fr a N L D) {k : Int} {b : β} {cs : List Value} (hk : P.underlying K = some (.int q)) (ht : P.underlying t = some (.map K et)) (hm : ev L m = some (.map (Option.map Addr.block p))) (hx : ev L x = some (.int q k)) (hy : ev L y = some (mk cs))
  (h : MO q K e mk P j z c w p o) (hr : e.rep (xiL zs) c w cs b) (hnp : e.np = zs.length) (hz : AllZ z zs) (hn1 : Apart zs) (hjz : NeAll j zs) (h0z : NeAll 0 zs) (hj0 : 0 ≠ j) (hzj : z ≠ j) (hw : (Lit.int q k).wf = true) (hn : o.n < maxLen) :
  ∃ w', (execOp a.eval { dst := d, op := .mapUpdate t m x y, type := ty, pos := pos, after := af, guard := gd }).run P w = .ok .skip w' ∧ ∃ c', (∀ b, NeAll (c b) zs → c' b = c b) ∧ (∀ b, c' b = c b ∨ c' b = z) ∧ Ev (fun k => k = j) c w c w' ∧ MO q K e mk P j z c' w' p (o.put k b) ∧ w'.heap.size = w.heap.size := by
 obtain ⟨r, css, xs, ix, h1, h2, h3⟩ := h
 have hraw : (Kraw e.sz e.pos).rep 0 c w cs cs := ⟨rfl, e.len hr, fun u hu => e.one hr u hu⟩
 obtain ⟨w', hrun, E, h4, hs⟩ := e_mapUpdateK F hk ht hm hx hy h1 hraw hj0 hw (by rw [h3.n]; exact hn)
 obtain ⟨c', a1, a2, a3⟩ := GR.push h2 hr (fun q hq => hz.get q (by omega)) (fun q q' hq hq' => hn1.inj q q' (by omega) (by omega))
 have a1' : ∀ b, NeAll (c b) zs → c' b = c b := fun b hb => a1 b (fun q hq => hb.get q (by omega))
 have E' : Ev (fun k => k = j) c' w c' w' := ⟨E.os, E.tape, E.out, E.size, fun _ _ _ => rfl, fun k hk hm => by
  rcases a2 k with q | q
  ·exact E.blk k hk (by rw [← q]; exact hm)
  ·by_cases hc : c k = j
   ·exact absurd ((a1' k (by rw [hc]; exact hjz)).trans hc) hm
   ·exact E.blk k hk hc⟩
 refine ⟨w', hrun, c', a1', a2, E, ⟨r.put k cs, css ++ [cs], xs ++ [b], _, h4.rc (fun b hb => (a1' b (by rw [hb]; exact hjz)).trans hb) (fun b hb => (a1' b (by rw [hb]; exact h0z)).trans hb), GRh.ev a3 E' hzj hj0, h3.put h2.2.1 k cs b⟩, hs⟩
def MOat (q : IntKind) (K : TypeId) (e : KO β) (mk : List Value → Value) (P : Program) (j y : Nat) (c : Nat → Nat) (w : World) (p : Option Addr) (o : MkV β) (k : Int) (cs : List Value) : Prop :=
 ∃ (r : MkV (List Value)) (css : List (List Value)) (xs : List β) (ix : Int → Nat), MK q K (Kraw e.sz e.pos) mk P j 0 c w p r ∧ GR e y c w css xs ∧ MLink o r css xs ix ∧ r.f k = some cs
theorem GRh.dummy {i n : Nat} {css : List (List Value)} {xs : List β} {ds : List Value} {y0 : β} (h : GRh e i c w css xs (fun k => k = n)) (hd : ∀ γ c w, e.rep γ c w ds y0) : GR e i c w (css.set n ds) (xs.set n y0) := by
 obtain ⟨h1, h2, d, h3⟩ := h
 refine ⟨h1, by simp [h2], d, fun k a b _ => ?_⟩
 rw [List.getElem_set, List.getElem_set]
 by_cases ck : n = k
 ·rw [if_pos ck, if_pos ck]; exact hd _ _ _
 ·rw [if_neg ck, if_neg ck]
  exact h3 k (by simpa using a) (by simpa using b) (fun q => ck q.symm)
theorem MOlook {k : Int} {zcs : List Value} (h : MO q K e mk P j z c w p o) (hk : P.underlying K = some (.int q)) (ht : P.underlying t = some (.map K et)) (hz : ∀ w, (zeroValue et).run P w = .ok (mk zcs) w) (hzl : zcs.length = e.sz) (hz1 : ∀ u ∈ zcs, u.oneCell' = true) (hw : (Lit.int q k).wf = true) :
  ∃ cs, (Instr.lookup t (.map (Option.map Addr.block p)) (.int q k) true).run P w = .ok (.tuple #[mk cs, .bool (o.f k).isSome]) w ∧
   ((o.f k = none ∧ cs = zcs) ∨ ∃ x, o.f k = some x ∧ e.rep (fun _ => z) c w cs x ∧ MOat q K e mk P j z c w p o k cs) := by
 obtain ⟨r, css, xs, ix, h1, h2, h3⟩ := h
 obtain ⟨cs, hr, hrun⟩ := MKlook (x0 := zcs) h1 hk ht hz ⟨rfl, hzl, hz1⟩ hw
 have hcs : cs = (r.f k).getD zcs := hr.1
 cases ho : o.f k with
 | none =>
  have := h3.no k ho
  rw [this] at hrun hcs
  exact ⟨cs, hrun, .inl ⟨rfl, hcs⟩⟩
 | some x =>
  obtain ⟨a1, a2, a3⟩ := h3.at_ k x ho
  have hl : css.length = xs.length := h2.2.1
  have b2 : r.f k = some css[ix k] := by rw [a2, List.getElem?_eq_getElem (by omega)]
  have b3 : xs[ix k] = x := by rw [List.getElem?_eq_getElem a1] at a3; exact Option.some.inj a3
  rw [b2] at hrun hcs
  have hcs : cs = css[ix k] := hcs
  refine ⟨cs, hrun, .inr ⟨x, rfl, ?_, r, css, xs, ix, h1, h2, h3, by rw [b2, hcs]⟩⟩
  rw [hcs, ← b3]
  exact GRh.read h2 a1 (by omega) (fun q => q)
theorem e_mapDeleteT (F : Fr a N L D) {k : Int} {ds cs : List Value} {y0 b : β} (hk : P.underlying K = some (.int q)) (ht : P.underlying t = some (.map K et)) (hm : ev L m = some (.map (Option.map Addr.block p))) (hx : ev L x = some (.int q k))
  (h : MOat q K e mk P j z c w p o k cs) (ho : o.f k = some b) (hd : ∀ γ c w, e.rep γ c w ds y0) (hnp : e.np = zs.length) (hz : AllZ z zs) (hj0 : 0 ≠ j) (hzj : z ≠ j) (hjz : NeAll j zs) (hw : (Lit.int q k).wf = true) :
  ∃ w', (execOp a.eval { dst := d, op := .call { callee := .builtin .delete, args := #[m, x], argTypes := #[t, K] }, type := ty, pos := pos, after := af, guard := gd }).run P w = .ok (.value (.tuple #[])) w' ∧
   ∃ c', (∀ b, c b ≠ z → c' b = c b) ∧ (∀ b, c' b = c b ∨ (c b = z ∧ ∃ q, q < e.np ∧ c' b = xiL zs q)) ∧ Ev (fun k => k = j) c w c w' ∧ e.rep (xiL zs) c' w' cs b ∧ MO q K e mk P j z c' w' p (o.del k) ∧ w'.heap.size = w.heap.size := by
 obtain ⟨r, css, xs, ix, h1, h2, h3, h6⟩ := h
 obtain ⟨w', hrun, E, h4, hs⟩ := e_mapDeleteK (d := d) (ty := ty) (pos := pos) (af := af) (gd := gd) F hk ht hm hx h1 hj0 hw
 obtain ⟨a1, a2, a3⟩ := h3.at_ k b ho
 have hl : css.length = xs.length := h2.2.1
 have hy := h2.1
 obtain ⟨c', c1, c2, ⟨hq, c3⟩, c5⟩ := GR.borrow h2 a1 (xiL zs) (fun q hq => hz.get q (by omega))
 have b2 : cs = css[ix k] := by rw [a2, List.getElem?_eq_getElem (by omega)] at h6; exact (Option.some.inj h6).symm
 have b3 : xs[ix k] = b := by rw [List.getElem?_eq_getElem a1] at a3; exact Option.some.inj a3
 have h5 := h3.del hl k ds y0
 have hi : (o.f k).isSome = true := by rw [ho]; rfl
 rw [if_pos hi, if_pos hi] at h5
 have hj : ∀ b, c b = j → c' b = j := fun b hb => (c1 b (by rw [hb]; exact hzj.symm)).trans hb
 have h00 : ∀ b, c b = 0 → c' b = 0 := fun b hb => (c1 b (by rw [hb]; omega)).trans hb
 have E' : Ev (fun k => k = j) c' w c' w' := ⟨E.os, E.tape, E.out, E.size, fun _ _ _ => rfl, fun n hn hm => by
  by_cases hc : c n = j
  ·exact absurd (hj n hc) hm
  ·exact E.blk n hn hc⟩
 have nj : ∀ q, q < e.np → ¬ xiL zs q = j := fun q hq hh => hjz.get q (by omega) hh.symm
 refine ⟨w', hrun, c', c1, c2, E, ?_, ⟨_, _, _, _, h4.rc hj h00, GRh.ev (GRh.dummy c5 hd) E' hzj hj0, h5⟩, hs⟩
 rw [b2, ← b3]
 exact e.ev c3 E' nj hj0
end
theorem xiL_two (zs : List Nat) (q : Nat) : xiL (zs.map (2 * ·)) q = 2 * xiL zs q := by
 unfold xiL
 rw [List.getD_eq_getElem?_getD, List.getD_eq_getElem?_getD, List.getElem?_map]
 cases zs[q]? <;> rfl
theorem NeAll.two {x : Nat} : ∀ {zs : List Nat}, NeAll x zs → NeAll (2 * x) (zs.map (2 * ·))
 | [], _ => trivial
 | z :: l, h => ⟨by have := h.1; show 2 * x ≠ 2 * z; omega, NeAll.two h.2⟩
theorem NeAll.odd (n : Nat) : ∀ zs : List Nat, NeAll (2 * n + 1) (zs.map (2 * ·))
 | [] => trivial
 | z :: l => ⟨by show 2 * n + 1 ≠ 2 * z; omega, NeAll.odd n l⟩
theorem Apart.two : ∀ {zs : List Nat}, Apart zs → Apart (zs.map (2 * ·))
 | [], _ => trivial
 | z :: l, h => ⟨h.1.two, Apart.two h.2⟩
theorem AllZ.two {i : Nat} (n : Nat) : ∀ {zs : List Nat}, AllZ i zs → AllZ (2 * n + 1) (zs.map (2 * ·))
 | [], _ => trivial
 | z :: l, h => ⟨⟨by show 2 * z ≠ 2 * n + 1; omega, by have := h.1.2; show 0 < 2 * z; omega⟩, AllZ.two n h.2⟩
theorem AllZ.ne0 {i : Nat} : ∀ {zs : List Nat}, AllZ i zs → NeAll 0 (zs.map (2 * ·))
 | [], _ => trivial
 | z :: l, h => ⟨by have := h.1.2; show 0 ≠ 2 * z; omega, AllZ.ne0 h.2⟩
section
variable {β : Type} {q : IntKind} {K : TypeId} {mk : List Value → Value} {P : Program} {i i' : Nat} {c c' : Nat → Nat} {w w' : World} {p : Option Addr} {o : MkV β} {e : KO β} {M : Nat → Prop}
def MO1 (q : IntKind) (K : TypeId) (e : KO β) (mk : List Value → Value) (P : Program) (i : Nat) (c : Nat → Nat) (w : World) (p : Option Addr) (o : MkV β) : Prop := 0 < i ∧ ∃ d, MO q K e mk P 1 3 (sub c d i) w p o
def MO1at (q : IntKind) (K : TypeId) (e : KO β) (mk : List Value → Value) (P : Program) (i : Nat) (c : Nat → Nat) (w : World) (p : Option Addr) (o : MkV β) (k : Int) (cs : List Value) : Prop := 0 < i ∧ ∃ d, MOat q K e mk P 1 3 (sub c d i) w p o k cs
theorem sub_ev {d : Nat → Nat} (E : Ev M c w c' w') (hi : ¬ M i) : Ev (fun q => q % 2 = 0 ∧ M (q / 2)) (sub c d i) w (sub c' d i) w' := by
 have nm : ∀ q, ¬ (sub c d i q % 2 = 0 ∧ M (sub c d i q / 2)) → ¬ M (c q) := fun q hm hM => hm (by
  unfold sub
  by_cases ci : c q = i
  ·rw [ci] at hM; exact absurd hM hi
  ·rw [if_neg ci]; exact ⟨by omega, by rw [Nat.mul_div_cancel_left _ (by decide)]; exact hM⟩)
 refine ⟨E.os, E.tape, E.out, E.size, fun q hq hm => ?_, fun q hq hm => ?_⟩
 ·unfold sub; rw [E.col q hq (nm q hm)]
 ·refine E.blk q hq fun hM => hm ?_
  unfold sub
  by_cases ci : c q = i
  ·rw [ci] at hM; exact absurd hM hi
  ·rw [if_neg ci]; exact ⟨by omega, by rw [Nat.mul_div_cancel_left _ (by decide)]; exact hM⟩
theorem MO1.ev (h : MO1 q K e mk P i c w p o) (E : Ev M c w c' w') (hi : ¬ M i := by first | exact nq | exact ne_zm | exact mm) (h0 : ¬ M 0 := by first | exact nq | exact ne_zm | exact mm) : MO1 q K e mk P i c' w' p o := by
 obtain ⟨h1, d, h2⟩ := h
 exact ⟨h1, d, h2.ev (sub_ev E hi) (fun hm => by omega) (fun hm => by omega) (fun hm => h0 hm.2)⟩
theorem MO1.rc (h : MO1 q K e mk P i c w p o) (hr : ∀ k, c k = i → c' k = i') (h0 : ∀ k, c k = 0 → c' k = 0) (hp : 0 < i') : MO1 q K e mk P i' c' w p o := by
 obtain ⟨h1, d, h2⟩ := h
 refine ⟨hp, d, h2.rc (fun b hb => ?_) (fun b hb => ?_) (fun b hb => ?_) (by decide)⟩
 ·obtain ⟨e1, e2⟩ := sub_eq (n := 0) hb
  exact sub_mk (n := 0) (hr b e1) e2
 ·obtain ⟨e1, e2⟩ := sub_eq (n := 1) hb
  exact sub_mk (n := 1) (hr b e1) e2
 ·exact sub_zero' (h0 b (sub_zero hb).1) hp
theorem MO1.new (h : MK q K (Kraw e.sz e.pos) mk P i 0 c w p ⟨fun _ => none, 0, 0⟩) (hi : 0 < i) : MO1 q K e mk P i c w p ⟨fun _ => none, 0, 0⟩ :=
 ⟨hi, fun _ => 0, MO.new (h.rc (fun b hb => sub_mk (n := 0) hb rfl) (fun b hb => sub_zero' hb hi)) (by decide)⟩
theorem sub_one {d : Nat → Nat} (h : Ev (fun k => k = 1) (sub c d i) w (sub c d i) w') : Ev (fun k => k = i) c w c w' :=
 ⟨h.os, h.tape, h.out, h.size, fun _ _ _ => rfl, fun n hn hm => h.blk n hn (by unfold sub; rw [if_neg hm]; omega)⟩
end
section
variable {β : Type} {q : IntKind} {K : TypeId} {e : KO β} {mk : List Value → Value} {P : Program} {a : Act} {N : Nat} {L : List (Nat × Value)} {D : List Deferred} {w w' : World} {v u : Value} {x y m : Operand} {d : Option Tmp} {t et ty : TypeId} {pos : String} {af : Array Edge} {gd : Option (Nat × Bool)} {c : Nat → Nat} {i : Nat} {p : Option Addr} {o : MkV β} {zs : List Nat}
theorem e_makeMap1 (F : Fr a N L D) (c : Nat → Nat) (i : Nat) (hi : 0 < i) (ht : ∀ w, (Instr.makeMap t none).run P w = .ok (.map (some w.heap.size)) (w.alloc (.map #[] 0))) :
  ∃ v w', (execOp a.eval { dst := d, op := .makeMap t none, type := ty, pos := pos, after := af, guard := gd }).run P w = .ok (.value v) w' ∧
   ∃ c' p, v = .map (Option.map Addr.block (some p)) ∧ Ev No c w c' w' ∧ MO1 q K e mk P i c' w' (some p) ⟨fun _ => none, 0, 0⟩ ∧ ∀ m, CB m c w → i < m → CB m c' w' := by
 obtain ⟨v, w', h1, c', p, h2, h3, h4, h5⟩ := e_makeMapK (q := q) (K := K) (e := Kraw e.sz e.pos) (mk := mk) (P := P) F c i ht
 exact ⟨v, w', h1, c', p, h2, h3, MO1.new h4 hi, h5⟩
theorem sub_rep {d : Nat → Nat} {cs : List Value} {b : β} (hr : e.rep (xiL zs) c w cs b) (hnp : e.np = zs.length) (hz : AllZ i zs) (hi : 0 < i) : e.rep (xiL (zs.map (2 * ·))) (sub c d i) w cs b :=
 e.rc hr (fun q hq k hk => by
  have := (hz.get q (by omega)).1
  rw [xiL_two, ← hk]
  unfold sub
  rw [if_neg (by rw [hk]; exact this)]) (fun k hk => sub_zero' hk hi) (fun q hq => by have := (hz.get q (by omega)).2; rw [xiL_two]; omega)
theorem e_mapUpdate1 (F : Fr a N L D) {k : Int} {b : β} {cs : List Value} (hk : P.underlying K = some (.int q)) (ht : P.underlying t = some (.map K et)) (hm : ev L m = some (.map (Option.map Addr.block p))) (hx : ev L x = some (.int q k)) (hy : ev L y = some (mk cs))
  (h : MO1 q K e mk P i c w p o) (hr : e.rep (xiL zs) c w cs b) (hnp : e.np = zs.length) (hz : AllZ i zs) (hn1 : Apart zs) (hw : (Lit.int q k).wf = true) (hn : o.n < maxLen) :
  ∃ w', (execOp a.eval { dst := d, op := .mapUpdate t m x y, type := ty, pos := pos, after := af, guard := gd }).run P w = .ok .skip w' ∧ ∃ c', (∀ b, NeAll (c b) zs → c' b = c b) ∧ (∀ b, c' b = c b ∨ c' b = i) ∧ Ev (fun k => k = i) c w c w' ∧ MO1 q K e mk P i c' w' p (o.put k b) ∧ w'.heap.size = w.heap.size := by
 obtain ⟨hi, g, h⟩ := h
 obtain ⟨w', hrun, c1, b1, b2, E1, h4, hs⟩ := e_mapUpdateO (d := d) (ty := ty) (pos := pos) (af := af) (gd := gd) F hk ht hm hx hy h (sub_rep hr hnp hz hi) (by simpa using hnp) (AllZ.two 1 hz) hn1.two (NeAll.odd 0 zs) hz.ne0 (by decide) (by decide) hw hn
 have so : ∀ b, c b = i → sub c g i b = 2 * g b + 1 := fun b hb => sub_mk hb rfl
 have se : ∀ b, c b ≠ i → sub c g i b = 2 * c b := fun b hb => by unfold sub; rw [if_neg hb]
 obtain ⟨c', hc'⟩ : ∃ c' : Nat → Nat, c' = fun b => if c1 b % 2 = 1 then i else c b := ⟨_, rfl⟩
 have hc1 : sub c' (fun b => c1 b / 2) i = c1 := by
  funext b
  rw [hc']
  unfold sub
  simp only
  rcases b2 b with hb | hb
  ·by_cases ci : c b = i
   ·have := so b ci
    have e1 : (if c1 b % 2 = 1 then i else c b) = i := if_pos (by omega)
    rw [if_pos e1]; omega
   ·have := se b ci
    have e1 : (if c1 b % 2 = 1 then i else c b) = c b := if_neg (by omega)
    rw [e1, if_neg ci]; omega
  ·have e1 : (if c1 b % 2 = 1 then i else c b) = i := if_pos (by omega)
   rw [if_pos e1]; omega
 refine ⟨w', hrun, c', fun b hb => ?_, fun b => ?_, sub_one E1, ⟨hi, fun b => c1 b / 2, by rw [hc1]; exact h4⟩, hs⟩
 ·rw [hc']; simp only
  by_cases ci : c b = i
  ·split
   ·exact ci.symm
   ·rfl
  ·have := se b ci
   have h1 := b1 b (by rw [this]; exact hb.two)
   rw [if_neg (by omega)]
 ·rw [hc']; simp only
  split
  ·exact .inr rfl
  ·exact .inl rfl
theorem MO1look {k : Int} {zcs : List Value} (h : MO1 q K e mk P i c w p o) (hk : P.underlying K = some (.int q)) (ht : P.underlying t = some (.map K et)) (hz : ∀ w, (zeroValue et).run P w = .ok (mk zcs) w) (hzl : zcs.length = e.sz) (hz1 : ∀ u ∈ zcs, u.oneCell' = true) (hw : (Lit.int q k).wf = true) :
  ∃ cs, (Instr.lookup t (.map (Option.map Addr.block p)) (.int q k) true).run P w = .ok (.tuple #[mk cs, .bool (o.f k).isSome]) w ∧
   ((o.f k = none ∧ cs = zcs) ∨ ∃ x, o.f k = some x ∧ e.rep (fun _ => i) c w cs x ∧ MO1at q K e mk P i c w p o k cs) := by
 obtain ⟨hi, g, h⟩ := h
 obtain ⟨cs, h1, h2⟩ := MOlook h hk ht hz hzl hz1 hw
 refine ⟨cs, h1, h2.imp id fun ⟨x, h3, h4, h5⟩ => ⟨x, h3, ?_, hi, g, h5⟩⟩
 exact e.rc h4 (fun q _ b hb => (sub_eq (n := 1) hb).1) (fun b hb => (sub_zero hb).1) (fun _ _ => hi)
theorem e_mapTake1 (F : Fr a N L D) {k : Int} {ds cs : List Value} {y0 b : β} (hk : P.underlying K = some (.int q)) (ht : P.underlying t = some (.map K et)) (hm : ev L m = some (.map (Option.map Addr.block p))) (hx : ev L x = some (.int q k))
  (h : MO1at q K e mk P i c w p o k cs) (ho : o.f k = some b) (hd : ∀ γ c w, e.rep γ c w ds y0) (hnp : e.np = zs.length) (hz : AllZ i zs) (hw : (Lit.int q k).wf = true) :
  ∃ w', (execOp a.eval { dst := d, op := .call { callee := .builtin .delete, args := #[m, x], argTypes := #[t, K] }, type := ty, pos := pos, after := af, guard := gd }).run P w = .ok (.value (.tuple #[])) w' ∧
   ∃ c', (∀ b, c b ≠ i → c' b = c b) ∧ (∀ m, LtAll m zs → CB m c w → CB m c' w) ∧ Ev (fun k => k = i) c w c w' ∧ e.rep (xiL zs) c' w' cs b ∧ MO1 q K e mk P i c' w' p (o.del k) ∧ w'.heap.size = w.heap.size := by
 obtain ⟨hi, g, h⟩ := h
 obtain ⟨w', hrun, c1, b1, b2, E1, hr, h4, hs⟩ := e_mapDeleteT (d := d) (ty := ty) (pos := pos) (af := af) (gd := gd) (zs := zs.map (2 * ·)) F hk ht hm hx h ho hd (by simpa using hnp) (AllZ.two 1 hz) (by decide) (by decide) (NeAll.odd 0 zs) hw
 have se : ∀ b, c b ≠ i → sub c g i b = 2 * c b := fun b hb => by unfold sub; rw [if_neg hb]
 obtain ⟨c', hc'⟩ : ∃ c' : Nat → Nat, c' = fun b => if c1 b = sub c g i b then c b else c1 b / 2 := ⟨_, rfl⟩
 have ch : ∀ b, c1 b ≠ sub c g i b → c b = i ∧ ∃ q, q < e.np ∧ c1 b = 2 * xiL zs q := fun b hb => by
  rcases b2 b with h | ⟨h1, q, hq, h2⟩
  ·exact absurd h hb
  ·exact ⟨(sub_eq (n := 1) h1).1, q, hq, by rw [h2, xiL_two]⟩
 have hc1 : sub c' g i = c1 := by
  funext b
  rw [hc']
  by_cases hb : c1 b = sub c g i b
  ·unfold sub at hb ⊢
   simp only
   rw [if_pos hb]; exact hb.symm
  ·obtain ⟨h1, q, hq, h2⟩ := ch b hb
   have h3 := (hz.get q (by omega)).1
   have hb' : ¬ c1 b = (if c b = i then 2 * g b + 1 else 2 * c b) := hb
   show (if (if c1 b = sub c g i b then c b else c1 b / 2) = i then _ else _) = _
   rw [if_neg hb, if_neg (by omega)]
   show 2 * (if c1 b = sub c g i b then c b else c1 b / 2) = _
   rw [if_neg hb]; omega
 refine ⟨w', hrun, c', fun b hb => ?_, fun m hm hB n hn => ?_, sub_one E1, ?_, ⟨hi, g, by rw [hc1]; exact h4⟩, hs⟩
 ·rw [hc']; simp only
  by_cases hh : c1 b = sub c g i b
  ·rw [if_pos hh]
  ·exact absurd (ch b hh).1 hb
 ·rw [hc']; simp only
  by_cases hh : c1 n = sub c g i n
  ·rw [if_pos hh]; exact hB n hn
  ·obtain ⟨_, q, hq, h2⟩ := ch n hh
   rw [if_neg hh]
   have := hm.get q (by omega)
   omega
 ·refine e.rc hr (fun q hq b hb => ?_) (fun b hb => ?_) (fun q hq => (hz.get q (by omega)).2)
  ·rw [xiL_two] at hb
   rw [hc']; simp only
   by_cases hh : c1 b = sub c g i b
   ·rw [if_pos hh]
    by_cases ci : c b = i
    ·have := sub_mk (d := g) ci rfl; omega
    ·have := se b ci; omega
   ·rw [if_neg hh]; omega
  ·rw [hc']; simp only
   by_cases hh : c1 b = sub c g i b
   ·rw [if_pos hh]; exact (sub_zero (d := g) (i := i) (by rw [← hh]; exact hb)).1
   ·rw [if_neg hh]; omega
theorem MO1see {k : Int} {zcs : List Value} {x0 : β} (h : MO1 q K e mk P i c w p o) (hk : P.underlying K = some (.int q)) (ht : P.underlying t = some (.map K et)) (hz : ∀ w, (zeroValue et).run P w = .ok (mk zcs) w) (hz0 : e.rep (fun _ => i) c w zcs x0) (hw : (Lit.int q k).wf = true) :
  ∃ cs, e.rep (fun _ => i) c w cs ((o.f k).getD x0) ∧ (Instr.lookup t (.map (Option.map Addr.block p)) (.int q k) true).run P w = .ok (.tuple #[mk cs, .bool (o.f k).isSome]) w := by
 obtain ⟨cs, h1, h2⟩ := MO1look h hk ht hz (e.len hz0) (fun u hu => e.one hz0 u hu) hw
 rcases h2 with ⟨h3, rfl⟩ | ⟨x, h3, h4, _⟩
 ·exact ⟨_, by rw [h3]; exact hz0, h1⟩
 ·exact ⟨cs, by rw [h3]; exact h4, h1⟩
theorem r_lenmap1 (F : Fr a N L D) (h : MO1 q K e mk P i c w p o) (ht : P.underlying t = some (.map K et)) (hm : ev L m = some (.map (Option.map Addr.block p))) :
  (execOp a.eval { dst := d, op := .call { callee := .builtin .len, args := #[m], argTypes := #[t] }, type := ty, pos := pos, after := af, guard := gd }).run P w = .ok (.value (.int .i64 o.len)) w := by
 obtain ⟨hi, g, r, css, xs, ix, h1, h2, h3⟩ := h
 rw [← h3.len]
 exact r_lenmap F h1 ht hm
def LK (q : IntKind) (K : TypeId) (e : KO β) (mk : List Value → Value) (P : Program) (i : Nat) (c : Nat → Nat) (w : World) (p : Option Addr) (o : MkV β) (k : Int) (cs : List Value) : Prop := ∀ x, o.f k = some x → MO1at q K e mk P i c w p o k cs
theorem MO1seeA {k : Int} {zcs : List Value} {x0 : β} (h : MO1 q K e mk P i c w p o) (hk : P.underlying K = some (.int q)) (ht : P.underlying t = some (.map K et)) (hz : ∀ w, (zeroValue et).run P w = .ok (mk zcs) w) (hz0 : e.rep (fun _ => i) c w zcs x0) (hw : (Lit.int q k).wf = true) :
  ∃ cs, e.rep (fun _ => i) c w cs ((o.f k).getD x0) ∧ (Instr.lookup t (.map (Option.map Addr.block p)) (.int q k) true).run P w = .ok (.tuple #[mk cs, .bool (o.f k).isSome]) w ∧ LK q K e mk P i c w p o k cs := by
 obtain ⟨cs, h1, h2⟩ := MO1look h hk ht hz (e.len hz0) (fun u hu => e.one hz0 u hu) hw
 rcases h2 with ⟨h3, rfl⟩ | ⟨x, h3, h4, h5⟩
 ·exact ⟨_, by rw [h3]; exact hz0, h1, fun x hx => by rw [h3] at hx; cases hx⟩
 ·exact ⟨cs, by rw [h3]; exact h4, h1, fun x' hx => h5⟩
theorem MOat.ev {M : Nat → Prop} {c' : Nat → Nat} {j y : Nat} {k : Int} {cs : List Value} (h : MOat q K e mk P j y c w p o k cs) (E : Ev M c w c' w') (hj : ¬ M j) (hy : ¬ M y) (h0 : ¬ M 0) : MOat q K e mk P j y c' w' p o k cs := by
 obtain ⟨r, css, xs, ix, h1, h2, h3, h4⟩ := h
 exact ⟨r, css, xs, ix, h1.ev E hj h0, GRh.ev h2 E hy h0, h3, h4⟩
theorem MOat.rc {c' : Nat → Nat} {j y j' y' : Nat} {k : Int} {cs : List Value} (h : MOat q K e mk P j y c w p o k cs) (hj : ∀ k, c k = j → c' k = j') (hy : ∀ k, c k = y → c' k = y') (h0 : ∀ k, c k = 0 → c' k = 0) (hp : 0 < y') : MOat q K e mk P j' y' c' w p o k cs := by
 obtain ⟨r, css, xs, ix, h1, h2, h3, h4⟩ := h
 exact ⟨r, css, xs, ix, h1.rc hj h0, GRh.rc h2 hy h0 hp, h3, h4⟩
theorem MO1at.rc {c' : Nat → Nat} {i' : Nat} {k : Int} {cs : List Value} (h : MO1at q K e mk P i c w p o k cs) (hr : ∀ k, c k = i → c' k = i') (h0 : ∀ k, c k = 0 → c' k = 0) (hp : 0 < i') : MO1at q K e mk P i' c' w p o k cs := by
 obtain ⟨h1, d, h2⟩ := h
 refine ⟨hp, d, h2.rc (fun b hb => ?_) (fun b hb => ?_) (fun b hb => ?_) (by decide)⟩
 ·obtain ⟨e1, e2⟩ := sub_eq (n := 0) hb
  exact sub_mk (n := 0) (hr b e1) e2
 ·obtain ⟨e1, e2⟩ := sub_eq (n := 1) hb
  exact sub_mk (n := 1) (hr b e1) e2
 ·exact sub_zero' (h0 b (sub_zero hb).1) hp
theorem LK.ev {M : Nat → Prop} {c' : Nat → Nat} {k : Int} {cs : List Value} (h : LK q K e mk P i c w p o k cs) (E : Ev M c w c' w') (hi : ¬ M i) (h0 : ¬ M 0) : LK q K e mk P i c' w' p o k cs := fun x hx => by
 obtain ⟨h1, d, h2⟩ := h x hx
 exact ⟨h1, d, h2.ev (sub_ev E hi) (fun hm => by omega) (fun hm => by omega) (fun hm => h0 hm.2)⟩
end
def Krw (n : Nat) (hn : 0 < n) : K (Option (List Value)) where
 sz := n
 pos := hn
 rep := fun _ _ _ cs v => cs.length = n ∧ (∀ u ∈ cs, u.oneCell' = true) ∧ ∀ x, v = some x → cs = x
 ev := fun h _ _ => h
 rc := fun h _ => h
 len := fun h => h.1
 one := fun h => h.2.1
theorem Krw.mk {n : Nat} {hn : 0 < n} {i : Nat} {c : Nat → Nat} {w : World} {cs : List Value} (hl : cs.length = n) (h1 : cs.all Value.oneCell' = true) : (Krw n hn).rep i c w cs (some cs) := ⟨hl, fun u hu => List.all_eq_true.1 h1 u hu, fun x hx => Option.some.inj hx⟩
section
variable {α : Type} {e : KO α} {i j y z n cap C m : Nat} {c c' : Nat → Nat} {w w' : World} {A : Option Addr} {xs : List α} {M M' : Nat → Prop} {hole hole' : Nat → Prop}
theorem OL.weak (h : OL e j y c w A cap xs hole) (hh : ∀ k, hole k → hole' k) : OL e j y c w A cap xs hole' := by
 obtain ⟨css, h1, h2⟩ := h
 exact ⟨css, h1, h2.weak hh⟩
theorem OL.next {k : Int} (h : OL e j y c w A cap xs (fun q => (fun q_ => q_ < k.toNat) q ∨ q = k.toNat)) (h0 : 0 ≤ k) (h1 : k < xs.length) : OL e j y c w A cap xs (fun q_ => q_ < (IntKind.i64.wrap (k + 1)).toNat) := by
 have hb := h.lenB
 refine h.weak fun q hq => ?_
 unfold maxLen at hb
 show q < (IntKind.i64.wrap (k + 1)).toNat
 have hq : q < k.toNat ∨ q = k.toNat := hq
 rw [IntKind.wrap_i64]; omega
theorem OL.raw (h : OL e j y c w A cap xs hole) : SL true (Krw e.sz e.pos) j 0 c w A cap (List.replicate xs.length none) := by
 obtain ⟨css, ⟨cs, h2, h3, h4, h5, h6⟩, g⟩ := h
 have hl := g.2.1
 refine ⟨cs, by rw [List.length_replicate]; omega, h3, h4, h5, fun n hn => ?_⟩
 rw [List.length_replicate] at hn
 have hr := h6 n (by omega)
 have e0 : (Kraw e.sz e.pos).sz = e.sz := rfl
 have e1 : (Krw e.sz e.pos).sz = e.sz := rfl
 rw [e0] at hr
 rw [e1]
 refine ⟨by rw [hr.1]; exact hr.2.1, fun u hu => hr.2.2 u (by rw [← hr.1]; exact hu), fun x hx => ?_⟩
 rw [List.getElem_replicate] at hx
 cases hx
theorem Ev.rkM (h : Ev M' c w c' w') {c2 : Nat → Nat} (e : ∀ b, c' b ≠ z → c2 b = c' b) (hz : M' z) : Ev M' c w c2 w' :=
 h.trans (M' := fun k => k = z) ⟨rfl, rfl, rfl, Nat.le_refl _, fun k _ hm => e k hm, fun _ _ _ => rfl⟩ (fun k hk => by rw [hk]; exact hz)
end
section
variable {α : Type} {e : K α} {i j y z n cap C C0 m : Nat} {c c' : Nat → Nat} {w w' : World} {A A0 : Option Addr} {xs ys : List α} {M M' : Nat → Prop}
theorem TW.start (h : SL true e z 0 c w A cap xs) : TW e z c w A cap xs A cap xs := ⟨h, .inl ⟨rfl, rfl, Nat.le_refl _, List.take_length⟩⟩
end
abbrev AGA (t : TypeId) (b : Bool) : Prop := ∀ w, (isAgg t).run Try.prog w = .ok b w
abbrev SZA (t : TypeId) (n : Nat) : Prop := ∀ w, (sizeOf t).run Try.prog w = .ok n w
abbrev FFA (t : TypeId) (f off : Nat) : Prop := ∀ q w, (Instr.fieldAt t (.pointer (some q)) f).run Try.prog w = .ok (.pointer (some (q.add off))) w
def K_api_Letter : K api_Letter where
 sz := 4
 pos := by decide
 rep := fun i c w cs x => ∃ (A1 : Option Addr) (C2 : Nat), cs = [.int .i64 x.Number, .int .i64 x.From, .int .i64 x.To, .slice A1 x.Data.length C2] ∧ SL false (Kint .u8) i i c w A1 C2 x.Data
 ev := fun ⟨A1, C2, h_, h3⟩ E hi => ⟨A1, C2, h_, h3.ev E hi hi⟩
 rc := fun ⟨A1, C2, h_, h3⟩ hr => ⟨A1, C2, h_, h3.rc hr hr⟩
 len := fun ⟨A1, C2, h_, h3⟩ => by rw [h_]; rfl
 one := @fun i c w cs x ⟨A1, C2, h_, h3⟩ u hu => by rw [h_] at hu; exact one_all (us := [.int .i64 x.Number, .int .i64 x.From, .int .i64 x.To, .slice A1 x.Data.length C2]) rfl u hu
def KO_api_Letter : KO api_Letter where
 sz := 4
 pos := by decide
 np := 1
 rep := fun γ c w cs x => ∃ (A0 : Option Addr) (C0 : Nat), cs = [.int .i64 x.Number, .int .i64 x.From, .int .i64 x.To, .slice A0 x.Data.length C0] ∧ SL true (Kint .u8) (γ 0) 0 c w A0 C0 x.Data
 ev := fun ⟨A0, C0, h_, g0_⟩ E hi h0 => ⟨A0, C0, h_, g0_.ev E (hi 0 (by decide)) h0⟩
 rc := fun ⟨A0, C0, h_, g0_⟩ hr h0 hp => ⟨A0, C0, h_, g0_.rc (hr 0 (by decide)) h0⟩
 len := fun ⟨A0, C0, h_, g0_⟩ => by rw [h_]; rfl
 one := @fun γ c w cs x ⟨A0, C0, h_, g0_⟩ u hu => by rw [h_] at hu; exact one_all (us := [.int .i64 x.Number, .int .i64 x.From, .int .i64 x.To, .slice A0 x.Data.length C0]) rfl u hu
theorem KO_api_Letter.v {y : Nat} {c : Nat → Nat} {w : World} {cs : List Value} {x : api_Letter} (h : KO_api_Letter.rep (fun _ => y) c w cs x) : K_api_Letter.rep y c w cs x := by
 obtain ⟨A0, C0, h_, g0_⟩ := h
 exact ⟨A0, C0, h_, SL.fl (i' := y) g0_.r (fun q => q)⟩
def ML (j : Nat) (c : Nat → Nat) (w : World) (p : Option Addr) (o : MkV api_Letter) : Prop := MO1 .i64 3 KO_api_Letter (fun cs => .agg cs.toArray) Try.prog j c w p o
theorem ML.ev {M : Nat → Prop} {j : Nat} {c c' : Nat → Nat} {w w' : World} {p : Option Addr} {o : MkV api_Letter} (h : ML j c w p o) (E : Ev M c w c' w') (hj : ¬ M j := by first | exact nq | exact ne_zm | exact mm) (h0 : ¬ M 0 := by first | exact nq | exact ne_zm | exact mm) : ML j c' w' p o := MO1.ev h E hj h0
theorem ML.rc {j j' : Nat} {c c' : Nat → Nat} {w : World} {p : Option Addr} {o : MkV api_Letter} (h : ML j c w p o) (hr : ∀ k, c k = j → c' k = j') (h0 : ∀ k, c k = 0 → c' k = 0) (hp : 0 < j') : ML j' c' w p o := MO1.rc h hr h0 hp
def BG (j i : Nat) (c : Nat → Nat) (w : World) (p : Option Addr) : Option Bag → Prop
 | none => p = none
 | some t => ∃ (a : Addr) (p1 : Option Addr), p = some a ∧ AT true j c w a [.map (Option.map Addr.block p1), .int .i64 t.next, .int .i64 t.told.Sent, .int .i64 t.told.Twice, .int .i64 t.told.Delivered, .int .i64 t.told.Dropped, .int .i64 t.told.Lost] ∧ ML i c w p1 t.under
theorem BG.nil {j i : Nat} {c : Nat → Nat} {w : World} : BG j i c w none none := rfl
theorem BG.some {j i : Nat} {c : Nat → Nat} {w : World} {p : Option Addr} {t : Bag} (h : BG j i c w p (some t)) : ∃ (a : Addr) (p1 : Option Addr), p = some a ∧ AT true j c w a [.map (Option.map Addr.block p1), .int .i64 t.next, .int .i64 t.told.Sent, .int .i64 t.told.Twice, .int .i64 t.told.Delivered, .int .i64 t.told.Dropped, .int .i64 t.told.Lost] ∧ ML i c w p1 t.under := h
theorem BG.isNone {j i : Nat} {c : Nat → Nat} {w : World} {p : Option Addr} {o : Option Bag} (h : BG j i c w p o) : p.isNone = o.isNone := by
 cases o with
 | none => have h : p = none := h; rw [h]; rfl
 | some t => obtain ⟨a, p1, e, _⟩ := h; rw [e]; rfl
theorem BG.ev {M : Nat → Prop} {j i : Nat} {c c' : Nat → Nat} {w w' : World} {p : Option Addr} {o : Option Bag} (h : BG j i c w p o) (E : Ev M c w c' w') (hj : ¬ M j := by first | exact nq | exact ne_zm | exact mm) (hi : ¬ M i := by first | exact nq | exact ne_zm | exact mm) (h0 : ¬ M 0 := by first | exact nq | exact ne_zm | exact mm) : BG j i c' w' p o := by
 cases o with
 | none => exact h
 | some t => obtain ⟨a, p1, e, hat, h2⟩ := h; exact ⟨a, p1, e, hat.ev E hj, h2.ev E hi h0⟩
theorem BG.rc {j j' i i' : Nat} {c c' : Nat → Nat} {w : World} {p : Option Addr} {o : Option Bag} (h : BG j i c w p o) (hr : ∀ k, c k = j → c' k = j') (hi : ∀ k, c k = i → c' k = i') (h0 : ∀ k, c k = 0 → c' k = 0) (hp : 0 < i') : BG j' i' c' w p o := by
 cases o with
 | none => exact h
 | some t => obtain ⟨a, p1, e, hat, h2⟩ := h; exact ⟨a, p1, e, hat.rc hr, h2.rc hi h0 hp⟩
theorem BG.mk {j i : Nat} {c : Nat → Nat} {w : World} {a : Addr} {t : Bag} {p1 : Option Addr} (hat : AT true j c w a [.map (Option.map Addr.block p1), .int .i64 t.next, .int .i64 t.told.Sent, .int .i64 t.told.Twice, .int .i64 t.told.Delivered, .int .i64 t.told.Dropped, .int .i64 t.told.Lost]) (h2 : ML i c w p1 t.under) : BG j i c w (Option.some a) (Option.some t) := ⟨a, p1, rfl, hat, h2⟩
theorem Try_hm : Try.prog.follows .mixedOrders = true := by kernel_rfl
theorem et_34 : ET Try.prog 34 40 4 48 (.agg #[.int .i64 0, .int .i64 0, .int .i64 0, .slice none 0 0]) := ⟨Try.underlying34, info_parts' (by kernel_rfl), rfl⟩
theorem et_36 : ET Try.prog 36 3 1 8 (.int .i64 0) := ⟨Try.underlying36, info_parts' (by kernel_rfl), rfl⟩
theorem et_27 : ET Try.prog 27 5 1 1 (.int .u8 0) := ⟨Try.underlying27, info_parts' (by kernel_rfl), rfl⟩
theorem zv_40 : ∀ w, (zeroValue 40).run Try.prog w = .ok (.agg #[.int .i64 0, .int .i64 0, .int .i64 0, .slice none 0 0]) w := fun _ => by kernel_rfl
theorem ff_40_3 : FFA 40 3 3 := fun _ _ => by kernel_rfl
theorem ag_27 : AGA 27 false := fun _ => by kernel_rfl
theorem sz_27 : SZA 27 1 := fun _ => by kernel_rfl
theorem ag_40 : AGA 40 true := fun _ => by kernel_rfl
theorem sz_40 : SZA 40 4 := fun _ => by kernel_rfl
theorem ff_67_1 : FFA 67 1 1 := fun _ _ => by kernel_rfl
theorem ag_3 : AGA 3 false := fun _ => by kernel_rfl
theorem ff_40_0 : FFA 40 0 0 := fun _ _ => by kernel_rfl
theorem sz_3 : SZA 3 1 := fun _ => by kernel_rfl
theorem ff_67_0 : FFA 67 0 0 := fun _ _ => by kernel_rfl
theorem ag_65 : AGA 65 false := fun _ => by kernel_rfl
theorem ff_67_2 : FFA 67 2 2 := fun _ _ => by kernel_rfl
theorem ff_63_4 : FFA 63 4 4 := fun _ _ => by kernel_rfl
theorem ff_63_0 : FFA 63 0 0 := fun _ _ => by kernel_rfl
theorem ff_63_1 : FFA 63 1 1 := fun _ _ => by kernel_rfl
theorem ff_63_2 : FFA 63 2 2 := fun _ _ => by kernel_rfl
theorem ag_34 : AGA 34 false := fun _ => by kernel_rfl
theorem sz_34 : SZA 34 1 := fun _ => by kernel_rfl
theorem ff_40_2 : FFA 40 2 2 := fun _ _ => by kernel_rfl
theorem sz_5 : SZA 5 1 := fun _ => by kernel_rfl
theorem ag_5 : AGA 5 false := fun _ => by kernel_rfl
theorem cells_n4 {cs : List Value} (h : cs.length = 4) : ∃ u0 u1 u2 u3, cs = [u0, u1, u2, u3] := by match cs, h with | [u0, u1, u2, u3], _ => exact ⟨u0, u1, u2, u3, rfl⟩
theorem et_74 : ET Try.prog 74 34 1 24 (.slice none 0 0) := ⟨Try.underlying74, info_parts' (by kernel_rfl), rfl⟩
theorem et_22 : ET Try.prog 22 27 1 24 (.slice none 0 0) := ⟨Try.underlying22, info_parts' (by kernel_rfl), rfl⟩
end Go.Proofs.Ytdlokohmdnkdoaa.G