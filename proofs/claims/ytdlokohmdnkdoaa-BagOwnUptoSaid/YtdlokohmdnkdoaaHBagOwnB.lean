/- Words and laws on which the row of 'BagOwn' hangs (its '..UptoSaid': bulk at most 1048576). -/
import Derived.Shelf.SortM.Plain
import Derived.Shelf.SortM.SortNone
import Derived.Ground.SlgmProg
import Derived.Shelf.SlGeneric
import Derived.Test.YtdlokohmdnkdoaaProg
import Derived.Test.YtdlokohmdnkdoaaHBagOwnA
import Derived.Shelf.SlSortCmp.NoneTotal
import Derived.Ground.SlsfProg
import Derived.WalkSpells
namespace Go.Proofs
open Go.Shelf
def Try.sortInts_ren : Go.Shelf.Ren := ⟨fun | 5 => 35 | 8 => 48 | 7 => 49 | 19 => 61 | 20 => 62 | 10 => 63 | 11 => 64 | 12 => 65 | 13 => 66 | 14 => 67 | 15 => 68 | 16 => 69 | 17 => 70 | 18 => 71 | 30 => 77 | 31 => 73 | 32 => 74 | 33 => 78 | 34 => 79 | 35 => 80 | 40 => 82 | n => n, fun | 23 => 36 | 25 => 3 | 3 => 3 | 32 => 84 | 22 => 36 | 0 => 0 | 44 => 97 | 46 => 99 | 4 => 4 | 36 => 90 | 35 => 89 | 41 => 94 | 5 => 5 | 9 => 9 | 53 => 106 | 57 => 110 | 63 => 115 | 64 => 57 | n => n, fun | n => n⟩
theorem Try.sortInts : Go.Proofs.SlLaysM.n5 Try.prog Try.sortInts_ren := {
 mixed := by kernel_rfl
 f5 := ⟨Try.f35.name, by decide, Try.func35.trans (congrArg some (by kernel_rfl))⟩
 f7 := ⟨Try.f49.name, by decide, Try.func49.trans (congrArg some (by kernel_rfl))⟩
 f8 := Try.func48.trans (congrArg some (by kernel_rfl))
 f10 := ⟨Try.f63.name, by decide, Try.func63.trans (congrArg some (by kernel_rfl))⟩
 f11 := ⟨Try.f64.name, by decide, Try.func64.trans (congrArg some (by kernel_rfl))⟩
 f12 := ⟨Try.f65.name, by decide, Try.func65.trans (congrArg some (by kernel_rfl))⟩
 f13 := ⟨Try.f66.name, by decide, Try.func66.trans (congrArg some (by kernel_rfl))⟩
 f14 := ⟨Try.f67.name, by decide, Try.func67.trans (congrArg some (by kernel_rfl))⟩
 f15 := ⟨Try.f68.name, by decide, Try.func68.trans (congrArg some (by kernel_rfl))⟩
 f16 := ⟨Try.f69.name, by decide, Try.func69.trans (congrArg some (by kernel_rfl))⟩
 f17 := ⟨Try.f70.name, by decide, Try.func70.trans (congrArg some (by kernel_rfl))⟩
 f18 := ⟨Try.f71.name, by decide, Try.func71.trans (congrArg some (by kernel_rfl))⟩
 f19 := Try.func61.trans (congrArg some (by kernel_rfl))
 f20 := Try.func62.trans (congrArg some (by kernel_rfl))
 f30 := ⟨Try.f77.name, by decide, Try.func77.trans (congrArg some (by kernel_rfl))⟩
 f31 := Try.func73.trans (congrArg some (by kernel_rfl))
 f32 := Try.func74.trans (congrArg some (by kernel_rfl))
 f33 := ⟨Try.f78.name, by decide, Try.func78.trans (congrArg some (by kernel_rfl))⟩
 f34 := ⟨Try.f79.name, by decide, Try.func79.trans (congrArg some (by kernel_rfl))⟩
 f35 := ⟨Try.f80.name, by decide, Try.func80.trans (congrArg some (by kernel_rfl))⟩
 f40 := ⟨Try.f82.name, by decide, Try.func82.trans (congrArg some (by kernel_rfl))⟩
 t0 := Try.underlying0
 a0 := Try.isAgg0
 z0 := Try.sizeOf0
 v0 := Try.zeroValue0
 t3 := Try.underlying3
 a3 := Try.isAgg3
 z3 := Try.sizeOf3
 v3 := Try.zeroValue3
 t4 := Try.underlying4
 a4 := Try.isAgg4
 z4 := Try.sizeOf4
 v4 := Try.zeroValue4
 t5 := Try.underlying5
 a5 := Try.isAgg5
 z5 := Try.sizeOf5
 v5 := Try.zeroValue5
 t9 := Try.underlying9
 a9 := Try.isAgg9
 z9 := Try.sizeOf9
 v9 := Try.zeroValue9
 t22 := Try.underlying36
 a22 := Try.isAgg36
 z22 := Try.sizeOf36
 v22 := Try.zeroValue36
 t23 := Try.underlying36
 a23 := Try.isAgg36
 z23 := Try.sizeOf36
 v23 := Try.zeroValue36
 t25 := Try.underlying3
 a25 := Try.isAgg3
 z25 := Try.sizeOf3
 v25 := Try.zeroValue3
 t32 := Try.underlying84
 a32 := Try.isAgg84
 z32 := Try.sizeOf84
 v32 := Try.zeroValue84
 t35 := Try.underlying89
 a35 := Try.isAgg89
 z35 := Try.sizeOf89
 v35 := Try.zeroValue89
 t36 := Try.underlying90
 a36 := Try.isAgg90
 z36 := Try.sizeOf90
 v36 := Try.zeroValue90
 t41 := Try.underlying94
 a41 := Try.isAgg94
 z41 := Try.sizeOf94
 v41 := Try.zeroValue94
 t44 := Try.underlying97
 a44 := Try.isAgg97
 z44 := Try.sizeOf97
 v44 := Try.zeroValue97
 t46 := Try.underlying99
 a46 := Try.isAgg99
 z46 := Try.sizeOf99
 v46 := Try.zeroValue99
 t53 := Try.underlying106
 a53 := Try.isAgg106
 z53 := Try.sizeOf106
 v53 := Try.zeroValue106
 t57 := Try.underlying110
 a57 := Try.isAgg110
 z57 := Try.sizeOf110
 v57 := Try.zeroValue110
 t63 := Try.underlying115
 a63 := Try.isAgg115
 z63 := Try.sizeOf115
 v63 := Try.zeroValue115
 t64 := Try.underlying57
 a64 := Try.isAgg57
 z64 := Try.sizeOf57
 v64 := Try.zeroValue57 }
end Go.Proofs
namespace Go.Proofs.Ytdlokohmdnkdoaa.G
open Go Go.RowKit Go.Sort
set_option linter.unusedVariables false
set_option linter.unusedSimpArgs false
def sortI (l : List Int) : List Int := l.mergeSort fun x y => decide (x ≤ y)
theorem sortI_length (l : List Int) : (sortI l).length = l.length := List.length_mergeSort l
theorem slices_Sort.calls {m : Nat} {c0 : Nat → Nat} {w0 : World} {j1 : Nat} {A2 : Option Addr} {C3 : Nat} {a1 : List Int} (B0 : CB m c0 w0) (h4 : SL true (Kint .i64) j1 0 c0 w0 A2 C3 a1) (bj1 : j1 < m) (hs : a1.length < 4611686018427387904) :
  Calls Try.prog 35 #[.slice A2 a1.length C3] w0 (fun e w_ => ∃ (c_ : Nat → Nat), e = .returned (.tuple #[]) ∧ Ev (fun x => x = j1) c0 w0 c_ w_ ∧ CB m c_ w_ ∧ SL true (Kint .i64) j1 0 c_ w_ A2 C3 (sortI a1)) := by
 by_cases hn : a1 = []
 ·subst hn
  refine (AnyM.slices_Sort_int_none Try.sortInts A2 C3 w0).mono ?_
  rintro e w' ⟨rfl, rfl⟩
  exact ⟨c0, rfl, Ev.refl, B0, by simpa [sortI] using h4⟩
 have hpos : 0 < a1.length := List.length_pos_iff.2 hn
 obtain ⟨cs, h2, h3, hl, hrow, hr⟩ := h4
 have hl : cs.length = C3 * 1 := hl
 rcases hrow with rfl | ⟨p, rfl, hat⟩
 ·simp at hl; omega
 have cell : ∀ k, k < a1.length → cs[k]? = some (Value.int .i64 (a1.getD k 0)) := fun k hk => by
  have e : (cs.drop (k * 1)).take 1 = [Value.int .i64 a1[k]] := hr k hk
  have e2 := congrArg (fun l => l[0]?) e
  simp only [List.getElem?_take_of_lt (Nat.zero_lt_one), List.getElem?_drop, List.getElem?_cons_zero] at e2
  rw [Nat.mul_one, Nat.add_zero] at e2
  rw [e2, List.getD_eq_getElem?_getD, List.getElem?_eq_getElem hk]
  rfl
 have hat' := hat
 obtain ⟨b, off, cur, ty, fz, rfl, hb, hc, hcells, hfree⟩ := hat
 have hlt := lt_of_get hb
 have hH : Holds (Value.int .i64) w0 b off a1.toArray := fun k hk => by
  have hk : k < a1.length := by simpa using hk
  refine ⟨?_, ?_⟩
  ·rw [← add_eq, hat'.cell (cell k hk)]
   congr 2
   rw [getElem!_pos _ k (by simpa using hk), List.getD_eq_getElem?_getD, List.getElem?_eq_getElem hk]
   rfl
  ·rw [← add_eq]; exact hat'.free (by omega)
 refine (AnyM.slices_Sort_int Try.sortInts b off C3 a1 w0 hH hlt hs).mono ?_
 rintro e w' ⟨rfl, n, os, rfl⟩
 have old : ∀ k, k < w0.heap.size → b ≠ k → (grow (putRow (Value.int .i64) (Sort.ahead w0 n) b off (a1.mergeSort fun x y => decide (x ≤ y)).toArray) os).heap[k]? = w0.heap[k]? := fun k hk hne => by
  rw [heap_grow_old _ _ (by simpa [putRow, mapBlock, Sort.ahead] using hk)]
  simp [putRow, mapBlock, Sort.ahead, Array.getElem?_modify, hne]
 have new : (grow (putRow (Value.int .i64) (Sort.ahead w0 n) b off (a1.mergeSort fun x y => decide (x ≤ y)).toArray) os).heap[b]? = some (.cells (putCells (Value.int .i64) off (sortI a1).toArray cur) ty fz) := by
  rw [heap_grow_old _ _ (by simpa [putRow, mapBlock, Sort.ahead] using hlt)]
  simp [putRow, mapBlock, Sort.ahead, Array.getElem?_modify, hb, onCells, sortI]
 refine ⟨fun k => if k < w0.heap.size then c0 k else j1, rfl, ⟨rfl, rfl, rfl, by simp [grow, putRow, mapBlock, Sort.ahead], fun k hk _ => if_pos hk, fun k hk hm => old k hk (fun q => hm (by rw [← q]; exact hc))⟩, fun k _ => ?_, ?_⟩
 ·show (if k < w0.heap.size then c0 k else j1) < m
  split
  ·exact B0 k (by assumption)
  ·exact bj1
 have hz : (sortI a1).length = a1.length := sortI_length a1
 have hin : off + a1.length ≤ cur.size := by
  have := hcells (a1.length - 1) (by omega)
  rw [List.getElem?_eq_getElem (by omega)] at this
  have := (Array.getElem?_eq_some_iff.1 this).1
  omega
 refine ⟨(sortI a1).map (Value.int .i64) ++ cs.drop a1.length, by rw [hz]; exact h2, h3, by simp [hz]; show a1.length + (cs.length - a1.length) = C3 * 1; omega, .inr ⟨_, rfl, b, off, _, ty, fz, rfl, new, by show (if b < w0.heap.size then c0 b else j1) = j1; rw [if_pos hlt]; exact hc, fun k hk => ?_, fun q k hk => hfree q k (by simp [hz] at hk; omega)⟩, fun k hk => ?_⟩
 ·simp only [List.length_append, List.length_map, List.length_drop, hz] at hk
  simp only [putCells, Array.getElem?_mapIdx]
  by_cases c : k < a1.length
  ·rw [List.getElem?_append_left (by simpa [hz] using c), List.getElem?_map, List.getElem?_eq_getElem (by omega)]
   rw [Array.getElem?_eq_getElem (by omega)]
   simp only [Option.map_some, List.size_toArray, hz]
   rw [if_pos (by omega)]
   congr 2
   have e : off + k - off = k := by omega
   rw [e, getElem!_pos _ k (by simp [hz]; exact c)]
   simp
  ·rw [List.getElem?_append_right (by simpa [hz] using Nat.le_of_not_lt c), List.getElem?_drop]
   simp only [List.length_map, hz]
   have e : a1.length + (k - a1.length) = k := by omega
   rw [e, ← hcells k (by omega)]
   cases hq : cur[off + k]? with
   | none => rfl
   | some v =>
    simp only [Option.map_some, List.size_toArray, hz]
    rw [if_neg (by omega)]
 ·show ((((sortI a1).map (Value.int .i64) ++ cs.drop a1.length).drop (k * 1)).take 1) = [Value.int .i64 (sortI a1)[k]]
  rw [Nat.mul_one, List.drop_append_of_le_length (by simp; omega), List.drop_eq_getElem_cons (by simpa using hk)]
  simp
end Go.Proofs.Ytdlokohmdnkdoaa.G
namespace Go.Proofs
open Go.Shelf
def Try.sortLetters_ren : Go.Shelf.Ren := ⟨fun | 6 => 33 | 15 => 48 | 14 => 47 | 28 => 61 | 29 => 62 | 20 => 53 | 21 => 54 | 22 => 55 | 23 => 56 | 24 => 57 | 25 => 58 | 26 => 59 | 27 => 60 | 46 => 72 | 47 => 73 | 48 => 74 | 49 => 75 | 50 => 76 | 57 => 81 | n => n, fun | 22 => 34 | 24 => 40 | 25 => 72 | 3 => 3 | 39 => 84 | 0 => 0 | 53 => 97 | 55 => 99 | 4 => 4 | 46 => 90 | 45 => 89 | 50 => 94 | 5 => 5 | 9 => 9 | 66 => 106 | 70 => 110 | 76 => 115 | 77 => 57 | n => n, fun | n => n⟩
theorem Try.sortLetters : Go.Proofs.SlLaysF0.n6 Try.prog Try.sortLetters_ren := {
 mixed := by kernel_rfl
 f6 := ⟨Try.f33.name, by decide, Try.func33.trans (congrArg some (by kernel_rfl))⟩
 f14 := ⟨Try.f47.name, by decide, Try.func47.trans (congrArg some (by kernel_rfl))⟩
 f15 := Try.func48.trans (congrArg some (by kernel_rfl))
 f20 := ⟨Try.f53.name, by decide, Try.func53.trans (congrArg some (by kernel_rfl))⟩
 f21 := ⟨Try.f54.name, by decide, Try.func54.trans (congrArg some (by kernel_rfl))⟩
 f22 := ⟨Try.f55.name, by decide, Try.func55.trans (congrArg some (by kernel_rfl))⟩
 f23 := ⟨Try.f56.name, by decide, Try.func56.trans (congrArg some (by kernel_rfl))⟩
 f24 := ⟨Try.f57.name, by decide, Try.func57.trans (congrArg some (by kernel_rfl))⟩
 f25 := ⟨Try.f58.name, by decide, Try.func58.trans (congrArg some (by kernel_rfl))⟩
 f26 := ⟨Try.f59.name, by decide, Try.func59.trans (congrArg some (by kernel_rfl))⟩
 f27 := ⟨Try.f60.name, by decide, Try.func60.trans (congrArg some (by kernel_rfl))⟩
 f28 := Try.func61.trans (congrArg some (by kernel_rfl))
 f29 := Try.func62.trans (congrArg some (by kernel_rfl))
 f46 := ⟨Try.f72.name, by decide, Try.func72.trans (congrArg some (by kernel_rfl))⟩
 f47 := Try.func73.trans (congrArg some (by kernel_rfl))
 f48 := Try.func74.trans (congrArg some (by kernel_rfl))
 f49 := ⟨Try.f75.name, by decide, Try.func75.trans (congrArg some (by kernel_rfl))⟩
 f50 := ⟨Try.f76.name, by decide, Try.func76.trans (congrArg some (by kernel_rfl))⟩
 f57 := ⟨Try.f81.name, by decide, Try.func81.trans (congrArg some (by kernel_rfl))⟩
 t0 := Try.underlying0
 a0 := Try.isAgg0
 z0 := Try.sizeOf0
 v0 := Try.zeroValue0
 t3 := Try.underlying3
 a3 := Try.isAgg3
 z3 := Try.sizeOf3
 v3 := Try.zeroValue3
 t4 := Try.underlying4
 a4 := Try.isAgg4
 z4 := Try.sizeOf4
 v4 := Try.zeroValue4
 t5 := Try.underlying5
 a5 := Try.isAgg5
 z5 := Try.sizeOf5
 v5 := Try.zeroValue5
 t9 := Try.underlying9
 a9 := Try.isAgg9
 z9 := Try.sizeOf9
 v9 := Try.zeroValue9
 t22 := Try.underlying34
 a22 := Try.isAgg34
 z22 := Try.sizeOf34
 v22 := Try.zeroValue34
 t25 := Try.underlying72
 a25 := Try.isAgg72
 z25 := Try.sizeOf72
 v25 := Try.zeroValue72
 t39 := Try.underlying84
 a39 := Try.isAgg84
 z39 := Try.sizeOf84
 v39 := Try.zeroValue84
 t45 := Try.underlying89
 a45 := Try.isAgg89
 z45 := Try.sizeOf89
 v45 := Try.zeroValue89
 t46 := Try.underlying90
 a46 := Try.isAgg90
 z46 := Try.sizeOf90
 v46 := Try.zeroValue90
 t50 := Try.underlying94
 a50 := Try.isAgg94
 z50 := Try.sizeOf94
 v50 := Try.zeroValue94
 t53 := Try.underlying97
 a53 := Try.isAgg97
 z53 := Try.sizeOf97
 v53 := Try.zeroValue97
 t55 := Try.underlying99
 a55 := Try.isAgg99
 z55 := Try.sizeOf99
 v55 := Try.zeroValue99
 t66 := Try.underlying106
 a66 := Try.isAgg106
 z66 := Try.sizeOf106
 v66 := Try.zeroValue106
 t70 := Try.underlying110
 a70 := Try.isAgg110
 z70 := Try.sizeOf110
 v70 := Try.zeroValue110
 t76 := Try.underlying115
 a76 := Try.isAgg115
 z76 := Try.sizeOf115
 v76 := Try.zeroValue115
 t77 := Try.underlying57
 a77 := Try.isAgg57
 z77 := Try.sizeOf57
 v77 := Try.zeroValue57 }
end Go.Proofs
namespace Go.Proofs.Ytdlokohmdnkdoaa.G
open Go Go.RowKit
set_option linter.unusedVariables false
set_option linter.unusedSimpArgs false
section
variable {α : Type} {e : KO α} {i : Nat} {c : Nat → Nat} {w : World}
theorem GR.named (L : List (Nat × List Value × α)) (hn : (L.map (·.1)).Nodup) (hi : 0 < i) (d : Nat → Nat) (h : ∀ t ∈ L, e.rep (gcol e.np t.1) (sub c d i) w t.2.1 t.2.2) : GR e i c w (L.map (·.2.1)) (L.map (·.2.2)) := by
 have uni : ∀ a b (ha : a < L.length) (hb : b < L.length), L[a].1 = L[b].1 → a = b := by
  intro a b ha hb he
  have hp := List.pairwise_iff_getElem.1 hn
  rcases Nat.lt_trichotomy a b with g | g | g
  ·exact absurd (by rw [List.getElem_map, List.getElem_map]; exact he) (hp a b (by simpa using ha) (by simpa using hb) g)
  ·exact g
  ·exact absurd (by rw [List.getElem_map, List.getElem_map]; exact he.symm) (hp b a (by simpa using hb) (by simpa using ha) g)
 have fex : ∃ f : Nat → Nat, ∀ a (ha : a < L.length), f L[a].1 = a := by
  refine ⟨fun l => @dite _ (∃ k, ∃ hk : k < L.length, L[k].1 = l) (Classical.propDecidable _) (fun h => Classical.choose h) (fun _ => 0), fun a ha => ?_⟩
  have hex : ∃ k, ∃ hk : k < L.length, L[k].1 = L[a].1 := ⟨a, ha, rfl⟩
  simp only
  rw [dif_pos hex]
  obtain ⟨h1, h2⟩ := Classical.choose_spec hex
  exact uni _ _ h1 ha h2
 obtain ⟨f, hf⟩ := fex
 refine ⟨hi, by simp, fun b => f (d b / e.np) * e.np + d b % e.np, fun k a b _ => ?_⟩
 have hk : k < L.length := by simpa using a
 have hr := h L[k] (List.getElem_mem hk)
 rw [List.getElem_map, List.getElem_map]
 refine e.rc hr (fun q hq b hb => ?_) (fun b hb => ?_) (fun _ _ => Nat.succ_pos _)
 ·obtain ⟨e1, e2⟩ := sub_eq hb
  refine sub_mk e1 ?_
  have m1 : d b / e.np = L[k].1 := by rw [e2, Nat.mul_comm, Nat.mul_add_div (by omega), Nat.div_eq_of_lt hq, Nat.add_zero]
  have m2 : d b % e.np = q := by rw [e2, Nat.mul_comm, Nat.mul_add_mod, Nat.mod_eq_of_lt hq]
  show f (d b / e.np) * e.np + d b % e.np = k * e.np + q
  rw [m1, m2, hf k hk]
 ·obtain ⟨e1, e2⟩ := sub_zero hb
  exact sub_zero' e1 hi
theorem GR.perm {css dss : List (List Value)} {xs ys : List α} (h : GR e i c w css xs) (hp : (css.zip xs).Perm (dss.zip ys)) (hl : dss.length = ys.length) : GR e i c w dss ys := by
 obtain ⟨hi, hcl, d, h3⟩ := h
 have hzl : (css.zip xs).length = xs.length := by simp [hcl]
 obtain ⟨L, hL⟩ : ∃ L : List (Nat × List Value × α), L = (List.range xs.length).zip (css.zip xs) := ⟨_, rfl⟩
 have hL2 : L.map (·.2) = css.zip xs := by rw [hL, List.map_snd_zip (by simp [hcl])]
 have hL1 : L.map (·.1) = List.range xs.length := by rw [hL, List.map_fst_zip (by simp [hcl])]
 have hin : ∀ t ∈ L, e.rep (gcol e.np t.1) (sub c d i) w t.2.1 t.2.2 := by
  intro t ht
  obtain ⟨k, hk, rfl⟩ := List.getElem_of_mem ht
  have hk' : k < xs.length := by rw [hL] at hk; simp [hcl] at hk; exact hk
  have := h3 k hk' (by omega) (fun q => q)
  subst hL
  simpa using this
 rw [← hL2] at hp
 have : ∃ M : List (Nat × List Value × α), L.Perm M ∧ M.map (·.2) = dss.zip ys := by
  have key : ∀ (A B : List (List Value × α)), A.Perm B → ∀ L : List (Nat × List Value × α), L.map (·.2) = A → ∃ M : List (Nat × List Value × α), L.Perm M ∧ M.map (·.2) = B := by
   intro A B hAB
   induction hAB with
   | nil => intro L hL; exact ⟨L, List.Perm.refl _, hL⟩
   | cons x _ ih =>
    intro L hL
    cases L with
    | nil => cases hL
    | cons t L =>
     simp only [List.map_cons, List.cons.injEq] at hL
     obtain ⟨M, h1, h2⟩ := ih L hL.2
     exact ⟨t :: M, h1.cons t, by simp [hL.1, h2]⟩
   | swap x y l =>
    intro L hL
    match L, hL with
    | t :: s :: L, hL =>
     simp only [List.map_cons, List.cons.injEq] at hL
     exact ⟨s :: t :: L, List.Perm.swap _ _ _, by simp [hL.1, hL.2.1, hL.2.2]⟩
   | trans _ _ ih1 ih2 =>
    intro L hL
    obtain ⟨M, h1, h2⟩ := ih1 L hL
    obtain ⟨M2, h3, h4⟩ := ih2 M h2
    exact ⟨M2, h1.trans h3, h4⟩
  exact key _ _ hp L rfl
 obtain ⟨M, hM, hM2⟩ := this
 have hnd : (M.map (·.1)).Nodup := by
  have h1 : (L.map (·.1)).Nodup := by rw [hL1]; exact List.nodup_range
  exact (hM.map (·.1)).nodup_iff.1 h1
 have := GR.named (e := e) (i := i) (c := c) (w := w) M hnd hi d (fun t ht => hin t (hM.mem_iff.2 ht))
 have a1 : M.map (·.2.1) = dss := by
  have : (M.map (·.2)).map (·.1) = (dss.zip ys).map (·.1) := by rw [hM2]
  rw [List.map_map, List.map_fst_zip (by omega)] at this
  exact this
 have a2 : M.map (·.2.2) = ys := by
  have : (M.map (·.2)).map (·.2) = (dss.zip ys).map (·.2) := by rw [hM2]
  rw [List.map_map, List.map_snd_zip (by omega)] at this
  exact this
 rw [a1, a2] at this
 exact this
end
end Go.Proofs.Ytdlokohmdnkdoaa.G
namespace Go.Proofs.Ytdlokohmdnkdoaa.G
open Go Go.RowKit
open Go.Maps (Keyed IsMap Tidy)
set_option linter.unusedVariables false
set_option linter.unusedSimpArgs false
section
variable {β : Type} {q : IntKind} {K : TypeId} {mk : List Value → Value} {P : Program} {j jr i : Nat} {c : Nat → Nat} {w : World} {o : MkV β} {b r : Nat} {ks : List Int} {cnt : Nat}
def MR (q : IntKind) (K : TypeId) (e : Go.Proofs.Ytdlokohmdnkdoaa.G.K β) (mk : List Value → Value) (P : Program) (j jr i : Nat) (c : Nat → Nat) (w : World) (b r : Nat) (o : MkV β) (ks : List Int) (cnt : Nat) : Prop :=
 c b = j ∧ c r = jr ∧ ∃ (D0 : DataW Value) (left : Lit → Bool), w.ranges P K heldElem b r o.n D0 left cnt ∧ (∀ k, MKat e mk i c w D0 (.int q k) (o.f k)) ∧ (Maps.size D0 : Int) = o.len ∧ ks.Nodup ∧ (∀ x, x ∈ ks ↔ ((o.f x).isSome = true ∧ left (.int q x) = false)) ∧ (∀ kl, left kl = true → Maps.has D0 kl = true) ∧ ks.length + cnt ≤ Maps.size D0
theorem MKat.ev {M : Nat → Prop} {c' : Nat → Nat} {w' : World} {e : Go.Proofs.Ytdlokohmdnkdoaa.G.K β} {D0 : DataW Value} {kl : Lit} {x : Option β} (h : MKat e mk i c w D0 kl x) (E : Ev M c w c' w') (hi : ¬ M i) : MKat e mk i c' w' D0 kl x := by
 cases x with
 | none => exact h
 | some x => obtain ⟨h1, cs, h2, h3⟩ := h; exact ⟨h1, cs, h2, e.ev h3 E hi⟩
theorem ranges_ev {M : Nat → Prop} {c' : Nat → Nat} {w' : World} {R : Value → Option (DataW Value × List MemPlace)} {n : Nat} {D0 : DataW Value} {left : Lit → Bool} (h : w.ranges P K R b r n D0 left cnt) (E : Ev M c w c' w') (hb : ¬ M (c b)) (hr : ¬ M (c r)) : w'.ranges P K R b r n D0 left cnt := by
 have h1 := h.owns.lt
 have h2 := h.lt
 obtain ⟨es, clock, since, seen, c0, q1, q2, q3, q4, q5, rest⟩ := h
 exact ⟨es, clock, since, seen, c0, (E.blk b h1 hb).trans q1, q2, q3, q4, (E.blk r h2 hr).trans q5, rest⟩
theorem MR.ev {M : Nat → Prop} {c' : Nat → Nat} {w' : World} {e : Go.Proofs.Ytdlokohmdnkdoaa.G.K β} (h : MR q K e mk P j jr i c w b r o ks cnt) (E : Ev M c w c' w') (hj : ¬ M j) (hjr : ¬ M jr) (hi : ¬ M i) : MR q K e mk P j jr i c' w' b r o ks cnt := by
 obtain ⟨h1, h2, D0, left, hrg, hk, hs, hn, hm, hh, hc⟩ := h
 exact ⟨(E.col _ hrg.owns.lt (by rw [h1]; exact hj)).trans h1, (E.col _ hrg.lt (by rw [h2]; exact hjr)).trans h2, D0, left, ranges_ev hrg E (by rw [h1]; exact hj) (by rw [h2]; exact hjr), fun k => (hk k).ev E hi, hs, hn, hm, hh, hc⟩
theorem MKat.has {e : Go.Proofs.Ytdlokohmdnkdoaa.G.K β} {D0 : DataW Value} {kl : Lit} {x : Option β} (h : MKat e mk i c w D0 kl x) : Maps.has D0 kl = x.isSome := by
 cases x with
 | none => exact h
 | some x => exact h.1
end
section
variable {β : Type} {q : IntKind} {K : TypeId} {e : Go.Proofs.Ytdlokohmdnkdoaa.G.K β} {mk : List Value → Value} {P : Program} {a : Act} {N : Nat} {L : List (Nat × Value)} {D : List Deferred} {w w' : World} {v u : Value} {x y m : Operand} {d : Option Tmp} {t et ty : TypeId} {pos : String} {af : Array Edge} {gd : Option (Nat × Bool)} {c : Nat → Nat} {j jr i : Nat} {p : Option Addr} {o : MkV β}
theorem q_nextK {ops : Array Oper} {rest : List Oper} {K0 : Act → World → Prop} {dd : Nat} {it : Operand} {b r cnt : Nat} {ks : List Int} (F : Fr a N L D) (hN : dd < N) (hk : P.underlying K = some (.int q)) (hx : ev L it = some (.pointer (some ⟨r, 0, none⟩))) (h : MR q K e mk P j jr i c w b r o ks cnt) (hij : i ≠ jr) (hjj : j ≠ jr)
  (done : (∀ x, x ∈ ks ↔ (o.f x).isSome = true) → ks.Nodup → (ks.length : Int) ≤ o.len → ∀ a', Fr a' N ((dd, .tuple #[.bool false]) :: L) D → wL P ops K0 rest a' w)
  (more : ∀ (x : Int) (y : β) (cs : List Value) w' cnt' a', o.f x = some y → x ∉ ks → MR q K e mk P j jr i c w' b r o (ks ++ [x]) cnt' → cnt' < cnt → Ev (fun z => z = jr) c w c w' → w'.heap.size = w.heap.size → e.rep i c w' cs y → (Lit.int q x).wf = true →
   (Instr.entry (.pointer (some ⟨r, 0, none⟩))).run P w' = .ok (.tuple #[.int q x, mk cs]) w' → Fr a' N ((dd, .tuple #[.bool true, .int q x, mk cs]) :: L) D → wL P ops K0 rest a' w') :
  wL P ops K0 ({ dst := some dd, op := .next it false, type := ty, pos := pos, after := af, guard := none } :: rest) a w := by
 obtain ⟨h1, h2, D0, left, hrg, hat, hs, hn, hm, hh, hc⟩ := h
 rcases hrg.next (Maps.int_keyed hk) ty with ⟨h0, hl, hrun⟩ | ⟨key, v, kl, y, w', cnt', hkey, hlk, hv, hat1, hrun, hrg1, hlt, hgr, hsz, hen⟩
 ·refine q_val F rfl rfl hN (by simp [execOp, F.ev hx, hrun, Result.andThen]) fun a' F' => done (fun x => ⟨fun h => ((hm x).1 h).1, fun h => (hm x).2 ⟨h, hl _⟩⟩) hn (by omega) a' F'
 ·obtain ⟨x, rfl, rfl, hwf⟩ := Maps.keyOf_int_inv hk hkey
  have hy : y = (.held v, []) := by simp only [heldElem, Option.some.injEq] at hv; exact hv.symm
  subst hy
  have E : Ev (fun z => z = jr) c w c w' := ⟨hgr.os, hgr.tape, hgr.output, hgr.size, fun _ _ _ => rfl, fun k hk hm => hgr.block k hk (fun e => hm (by injection e with e; rw [e]; exact h2))⟩
  have hx1 := hat x
  have hsome := hx1.has
  rw [hh _ hlk] at hsome
  obtain ⟨y, hy⟩ := Option.isSome_iff_exists.1 hsome.symm
  rw [hy] at hx1
  obtain ⟨g1, cs, g2, g3⟩ := hx1
  have hve : v = mk cs := by
   have h3 := hat1 (.held undef)
   rw [g2] at h3
   injection h3 with h3
   exact h3.symm
  subst hve
  have hleft : ∀ y, (left (.int q y) && !(Lit.int q y).sameKey (.int q x)) = false ↔ left (.int q y) = false ∨ y = x := fun y => by
   by_cases e : y = x
   ·subst e
    rw [WideAt.sameKey_self (show WideAt.IsKeyLit (.int q y) from trivial)]
    simp
   ·have : (Lit.int q y).sameKey (.int q x) = false := by
     cases hs : (Lit.int q y).sameKey (.int q x)
     ·rfl
     ·have := WideAt.sameKey_eq hs; injection this with _ h; exact absurd h e
    rw [this]; simp [e]
  have hnx : x ∉ ks := fun hx => by have := ((hm x).1 hx).2; rw [hlk] at this; cases this
  refine q_val F rfl rfl hN (by simp [execOp, F.ev hx, hrun, Result.andThen]) fun a' F' => more x y cs w' cnt' a' hy hnx ⟨h1, h2, D0, _, hrg1, fun k => (hat k).ev E hij, hs, ?_, fun z => ?_, fun kl h => hh kl (by simp only [Bool.and_eq_true] at h; exact h.1), ?_⟩ hlt E hsz (e.ev g3 E hij) hwf hen F'
  ·refine List.nodup_append.2 ⟨hn, by simp, fun y h1 z h2 e => ?_⟩
   simp only [List.mem_singleton] at h2
   subst h2; subst e
   exact hnx h1
  ·rw [List.mem_append, hm, List.mem_singleton, hleft]
   constructor
   ·rintro (⟨h1, h2⟩ | rfl)
    ·exact ⟨h1, .inl h2⟩
    ·exact ⟨by rw [hy]; rfl, .inr rfl⟩
   ·rintro ⟨h1, h2 | h2⟩
    ·exact .inl ⟨h1, h2⟩
    ·exact .inr h2
  ·simp only [List.length_append, List.length_cons, List.length_nil]; omega
theorem r_entry (F : Fr a N L D) (hx : ev L x = some u) (hrun : (Instr.entry u).run P w = .ok v w) : (execOp a.eval { dst := d, op := .entry x, type := ty, pos := pos, after := af, guard := gd }).run P w = .ok (.value v) w := by
 simp [execOp, F.ev hx, hrun, Result.andThen]
end
theorem mem_keys {β : Type} (o : MkV β) (n x : Int) : x ∈ o.keys n ↔ (0 ≤ x ∧ x < n) ∧ (o.f x).isSome = true := by
 unfold MkV.keys
 rw [List.mem_filter, List.mem_map]
 constructor
 ·rintro ⟨⟨i, hi, rfl⟩, h⟩
  exact ⟨by have := List.mem_range.1 hi; omega, h⟩
 ·rintro ⟨h, h2⟩
  exact ⟨⟨x.toNat, List.mem_range.2 (by omega), by omega⟩, h2⟩
theorem keys_rise {β : Type} (o : MkV β) (n : Int) : (o.keys n).Pairwise (· < ·) := by
 unfold MkV.keys
 refine List.Pairwise.filter _ ?_
 rw [List.pairwise_map]
 exact List.pairwise_lt_range.imp (fun h => by omega)
theorem sub_perm {α : Type} [DecidableEq α] : ∀ {l m : List α}, l.Nodup → (∀ x ∈ l, x ∈ m) → m.length ≤ l.length → l.Perm m
 | [], m, _, _, h => by
  have e : m = [] := List.eq_nil_of_length_eq_zero (by simpa using h)
  subst e; exact List.Perm.refl _
 | x :: l, m, hn, hs, hl => by
  obtain ⟨h1, h2⟩ := List.nodup_cons.1 hn
  have hx := hs x (by simp)
  have hp := List.perm_cons_erase hx
  have hlen : (m.erase x).length = m.length - 1 := List.length_erase_of_mem hx
  refine (List.Perm.cons x (sub_perm h2 (fun y hy => ?_) (by simp at hl; omega))).trans hp.symm
  have hy' := hs y (by simp [hy])
  exact (List.mem_erase_of_ne (fun e => h1 (by rw [← e]; exact hy))).2 hy'
theorem rising_nodup : ∀ {l : List Int}, l.Pairwise (· < ·) → l.Nodup := fun h => h.imp fun h => by omega
theorem keys_perm {β : Type} {o : MkV β} {n : Int} {ks : List Int} (hm : ∀ x, x ∈ ks ↔ (o.f x).isSome = true) (hl : (ks.length : Int) ≤ o.len) (hk : ((o.keys n).length : Int) = o.len) : (o.keys n).Perm ks :=
 sub_perm (rising_nodup (keys_rise o n)) (fun x hx => (hm x).2 ((mem_keys o n x).1 hx).2) (by omega)
theorem perm_rising : ∀ {l m : List Int}, l.Pairwise (· < ·) → m.Pairwise (· < ·) → l.Perm m → l = m
 | [], m, _, _, h => (List.nil_perm.1 h).symm
 | x :: l, [], _, _, h => by have := h.length_eq; simp at this
 | x :: l, y :: m, hl, hm, h => by
  obtain ⟨h1, h2⟩ := List.pairwise_cons.1 hl
  obtain ⟨h3, h4⟩ := List.pairwise_cons.1 hm
  have hxy : x = y := by
   rcases List.mem_cons.1 (h.mem_iff.1 (show x ∈ x :: l by simp)) with e | e
   ·exact e
   ·rcases List.mem_cons.1 (h.mem_iff.2 (show y ∈ y :: m by simp)) with e2 | e2
    ·exact e2.symm
    ·have := h3 x e; have := h1 y e2; omega
  subst hxy
  rw [perm_rising h2 h4 (List.perm_cons x |>.1 h)]
theorem nodup_sub_length {α : Type} [DecidableEq α] : ∀ {l m : List α}, l.Nodup → (∀ x ∈ l, x ∈ m) → l.length ≤ m.length
 | [], m, _, _ => Nat.zero_le _
 | x :: l, m, hn, hs => by
  obtain ⟨h1, h2⟩ := List.nodup_cons.1 hn
  have hx := hs x (by simp)
  have hlen : (m.erase x).length = m.length - 1 := List.length_erase_of_mem hx
  have hpos : 0 < m.length := List.length_pos_of_mem hx
  have := nodup_sub_length (m := m.erase x) h2 (fun y hy => (List.mem_erase_of_ne (fun e => h1 (by rw [← e]; exact hy))).2 (hs y (by simp [hy])))
  simp only [List.length_cons]; omega
def litInt : Lit → Option Int
 | .int _ n => some n
 | _ => none
theorem has_count {D : DataW Value} {q : IntKind} {ks : List Int} (hn : ks.Nodup) (h : ∀ k ∈ ks, Maps.has D (.int q k) = true) : ks.length ≤ Maps.size D := by
 cases D with
 | map es =>
  rw [Maps.size_eq]
  refine Nat.le_trans (nodup_sub_length (m := es.filterMap fun p => litInt p.1) hn fun k hk => ?_) (List.length_filterMap_le _ _)
  have := h k hk
  rw [Maps.has_eq, List.any_eq_true] at this
  obtain ⟨p, hp, hs⟩ := this
  exact List.mem_filterMap.2 ⟨p, hp, by rw [WideAt.sameKey_eq hs]; rfl⟩
 | _ => cases ks with
  | nil => exact Nat.zero_le _
  | cons k ks => have := h k (by simp); cases this
theorem MK.count {β : Type} {q : IntKind} {K : TypeId} {e : Go.Proofs.Ytdlokohmdnkdoaa.G.K β} {mk : List Value → Value} {P : Program} {j i : Nat} {c : Nat → Nat} {w : World} {p : Option Addr} {o : MkV β} (h : MK q K e mk P j i c w p o) {l : List Int} (hn : l.Nodup) (hs : ∀ k ∈ l, (o.f k).isSome = true) : (l.length : Int) ≤ o.len := by
 obtain ⟨a0, rfl, hc, D0, hD, hsz, hat⟩ := h
 have := has_count (D := D0) (q := q) hn fun k hk => by rw [(hat k).has]; exact hs k hk
 omega
theorem MK.told {β : Type} {q : IntKind} {K : TypeId} {e : Go.Proofs.Ytdlokohmdnkdoaa.G.K β} {mk : List Value → Value} {P : Program} {j i : Nat} {c : Nat → Nat} {w : World} {p : Option Addr} {o : MkV β} (h : MK q K e mk P j i c w p o) {n : Int} (hk : ((o.keys n).length : Int) = o.len) {x : Int} (hx : (o.f x).isSome = true) : x ∈ o.keys n := by
 refine Classical.byContradiction fun hc => ?_
 have := h.count (l := x :: o.keys n) (List.nodup_cons.2 ⟨hc, rising_nodup (keys_rise o n)⟩) fun k hk => by
  rcases List.mem_cons.1 hk with e | e
  ·rw [e]; exact hx
  ·exact ((mem_keys o n k).1 e).2
 simp only [List.length_cons] at this
 omega
section
variable {β : Type} {q : IntKind} {K : TypeId} {e : KO β} {mk : List Value → Value} {P : Program} {i jr : Nat} {c c' : Nat → Nat} {w w' : World} {o : MkV β} {b r : Nat} {ks : List Int} {cnt : Nat} {M : Nat → Prop}
def MR1 (q : IntKind) (K : TypeId) (e : KO β) (mk : List Value → Value) (P : Program) (i jr : Nat) (c : Nat → Nat) (w : World) (b r : Nat) (o : MkV β) (ks : List Int) (cnt : Nat) : Prop :=
 0 < i ∧ ∃ (d : Nat → Nat) (ro : MkV (List Value)) (css : List (List Value)) (xs : List β) (ix : Int → Nat), MR q K (Kraw e.sz e.pos) mk P 1 (2 * jr) 0 (sub c d i) w b r ro ks cnt ∧ GR e 3 (sub c d i) w css xs ∧ MLink o ro css xs ix
theorem MR1.ev (h : MR1 q K e mk P i jr c w b r o ks cnt) (E : Ev M c w c' w') (hi : ¬ M i) (hjr : ¬ M jr) (h0 : ¬ M 0) : MR1 q K e mk P i jr c' w' b r o ks cnt := by
 obtain ⟨h1, d, ro, css, xs, ix, h2, h3, h4⟩ := h
 have E' := sub_ev (d := d) E hi
 refine ⟨h1, d, ro, css, xs, ix, h2.ev E' (fun hm => by omega) (fun hm => hjr ?_) (fun hm => h0 hm.2), GRh.ev h3 E' (fun hm => by omega) (fun hm => h0 hm.2), h4⟩
 have := hm.2
 rwa [Nat.mul_div_cancel_left _ (by decide)] at this
theorem MLink.some_iff {ro : MkV (List Value)} {css : List (List Value)} {xs : List β} {ix : Int → Nat} (h : MLink o ro css xs ix) (hl : css.length = xs.length) (k : Int) : (ro.f k).isSome = (o.f k).isSome := by
 cases ho : o.f k with
 | none => rw [h.no k ho]; rfl
 | some x =>
  obtain ⟨a1, a2, _⟩ := h.at_ k x ho
  rw [a2, List.getElem?_eq_getElem (by omega)]; rfl
theorem MR1.bound (h : MR1 q K e mk P i jr c w b r o ks cnt) : (ks.length : Int) ≤ o.len := by
 obtain ⟨h1, d, ro, css, xs, ix, h2, h3, h4⟩ := h
 obtain ⟨_, _, D0, left, _, _, hs, _, _, _, hc⟩ := h2
 rw [← h4.len]; omega
theorem MO1.told {p : Option Addr} (h : MO1 q K e mk P i c w p o) {n : Int} (hk : ((o.keys n).length : Int) = o.len) {x : Int} (hx : (o.f x).isSome = true) : x ∈ o.keys n := by
 obtain ⟨hi, d, ro, css, xs, ix, h1, h2, h3⟩ := h
 have hs := h3.some_iff h2.2.1
 have hkk : ro.keys n = o.keys n := by unfold MkV.keys; exact List.filter_congr fun z _ => hs z
 rw [← hkk]
 exact MK.told h1 (by rw [hkk, h3.len]; exact hk) (by rw [hs]; exact hx)
end
section
variable {β : Type} {q : IntKind} {K : TypeId} {e : KO β} {mk : List Value → Value} {P : Program} {a : Act} {N : Nat} {L : List (Nat × Value)} {D : List Deferred} {w w' : World} {v u : Value} {x y m : Operand} {d : Option Tmp} {t et ty : TypeId} {pos : String} {af : Array Edge} {gd : Option (Nat × Bool)} {c : Nat → Nat} {i : Nat} {p : Option Addr} {o : MkV β}
theorem e_range1 (F : Fr a N L D) (hk : P.underlying K = some (.int q)) (ht : P.underlying t = some (.map K et)) (hm : ev L x = some (.map (Option.map Addr.block p))) (h : MO1 q K e mk P i c w p o) (jr : Nat) (hji : jr ≠ i) :
  ∃ v w', (execOp a.eval { dst := d, op := .range t x, type := ty, pos := pos, after := af, guard := gd }).run P w = .ok (.value v) w' ∧
   ∃ c' b r cnt, v = .pointer (some ⟨r, 0, none⟩) ∧ Ev No c w c' w' ∧ MR1 q K e mk P i jr c' w' b r o [] cnt ∧ ∀ m, CB m c w → jr < m → CB m c' w' := by
 obtain ⟨hi, g, ro, css, xs, ix, h1, h2, h3⟩ := h
 obtain ⟨a0, rfl, hc, D0, hD, hs, hat⟩ := h1
 obtain ⟨w', hrun, hr, hg, hsz⟩ := hD.range (Maps.int_keyed hk) ht
 have hm' := F.ev hm
 simp only [Option.map_some] at hm'
 have E : ∀ (c : Nat → Nat) (x : Nat), Ev No c w (cset c w.heap.size x) w' := fun c x => ⟨hg.os, hg.tape, hg.output, hg.size, fun k hk _ => by unfold cset; rw [if_neg (by omega)], fun k hk _ => hg.block k hk (by simp)⟩
 have es : sub (cset c w.heap.size jr) g i = cset (sub c g i) w.heap.size (2 * jr) := by
  funext k
  unfold sub cset
  by_cases ck : k = w.heap.size
  ·rw [if_pos ck, if_pos ck, if_neg hji]
  ·rw [if_neg ck, if_neg ck]
 refine ⟨_, w', by simp [execOp, hm', hrun, Result.andThen], cset c w.heap.size jr, a0.block, w.heap.size, Maps.size D0, rfl, E c jr, ⟨hi, g, ro, css, xs, ix, ?_, ?_, h3⟩, fun m hm hj k hk => ?_⟩
 ·rw [es]
  exact ⟨((E _ _).col _ hD.lt (fun q => q)).trans hc, by unfold cset; rw [if_pos rfl], D0, Maps.has D0, hr, fun k => (hat k).ev (E _ _) (fun q => q), hs, List.nodup_nil, fun k => ⟨fun h => (by cases h), fun h => (by rw [(hat k).has, h.1] at h; cases h.2)⟩, fun kl h => h, by simp⟩
 ·rw [es]; exact GRh.ev h2 (E _ _) (fun q => q) (fun q => q)
 ·unfold cset
  split
  ·exact hj
  ·exact hm k (by omega)
theorem q_next1 {ops : Array Oper} {rest : List Oper} {K0 : Act → World → Prop} {dd : Nat} {it : Operand} {b r cnt jr : Nat} {ks : List Int} (F : Fr a N L D) (hN : dd < N) (hk : P.underlying K = some (.int q)) (hx : ev L it = some (.pointer (some ⟨r, 0, none⟩))) (h : MR1 q K e mk P i jr c w b r o ks cnt) (hj0 : jr ≠ 0) (hji : jr ≠ i)
  (done : (∀ x, x ∈ ks ↔ (o.f x).isSome = true) → ks.Nodup → (ks.length : Int) ≤ o.len → ∀ a', Fr a' N ((dd, .tuple #[.bool false]) :: L) D → wL P ops K0 rest a' w)
  (more : ∀ (x : Int) (y : β) (cs : List Value) w' cnt' a', o.f x = some y → x ∉ ks → MR1 q K e mk P i jr c w' b r o (ks ++ [x]) cnt' → cnt' < cnt → Ev (fun z => z = jr) c w c w' → w'.heap.size = w.heap.size → e.rep (fun _ => i) c w' cs y → (Lit.int q x).wf = true →
   (Instr.entry (.pointer (some ⟨r, 0, none⟩))).run P w' = .ok (.tuple #[.int q x, mk cs]) w' → Fr a' N ((dd, .tuple #[.bool true, .int q x, mk cs]) :: L) D → wL P ops K0 rest a' w') :
  wL P ops K0 ({ dst := some dd, op := .next it false, type := ty, pos := pos, after := af, guard := none } :: rest) a w := by
 obtain ⟨hi, g, ro, css, xs, ix, h1, h2, h3⟩ := h
 have hs := h3.some_iff h2.2.1
 refine q_nextK F hN hk hx h1 (by omega) (by omega) (fun hm hn hl => done (fun x => (hm x).trans (by rw [hs])) hn (by rw [← h3.len]; exact hl)) ?_
 intro x y cs w' cnt' a' hxy hnx hM hlt E hsz hrep hwf hen F'
 obtain ⟨z, hz⟩ := Option.isSome_iff_exists.1 (show (o.f x).isSome = true by rw [← hs, hxy]; rfl)
 obtain ⟨a1, a2, a3⟩ := h3.at_ x z hz
 have hl := h2.2.1
 have h2' := GRh.ev h2 E (by omega) (by omega)
 have hcs : cs = css[ix x] := by
  have e1 : cs = y := hrep.1
  rw [hxy, List.getElem?_eq_getElem (by omega)] at a2
  rw [e1]; exact Option.some.inj a2
 have hxs : xs[ix x] = z := by rw [List.getElem?_eq_getElem a1] at a3; exact Option.some.inj a3
 have hr := GRh.read h2' a1 (by omega) (fun q => q)
 rw [hxs] at hr
 have E2 : Ev (fun z => z = jr) c w c w' := ⟨E.os, E.tape, E.out, E.size, fun _ _ _ => rfl, fun n hn hm => E.blk n hn (by unfold sub; split <;> omega)⟩
 refine more x z cs w' cnt' a' hz hnx ⟨hi, g, ro, css, xs, ix, hM, h2', h3⟩ hlt E2 hsz ?_ hwf hen F'
 rw [hcs]
 exact e.rc hr (fun q _ b hb => (sub_eq (n := 1) hb).1) (fun b hb => (sub_zero hb).1) (fun _ _ => hi)
end
theorem zip_perm {α β : Type} : ∀ {a b : List α}, a.Perm b → ∀ (xs : List β), a.length = xs.length → ∃ ys : List β, b.length = ys.length ∧ (a.zip xs).Perm (b.zip ys) := by
 intro a b h
 induction h with
 | nil => intro xs hx; exact ⟨[], rfl, by simp⟩
 | cons x _ ih =>
  intro xs hx
  cases xs with
  | nil => simp at hx
  | cons y xs =>
   obtain ⟨ys, h1, h2⟩ := ih xs (by simpa using hx)
   exact ⟨y :: ys, by simp [h1], by simpa using h2.cons (x, y)⟩
 | swap x y l =>
  intro xs hx
  match xs, hx with
  | u :: v :: xs, hx => exact ⟨v :: u :: xs, by simpa using hx, by simpa using List.Perm.swap (x, v) (y, u) (l.zip xs)⟩
  | [_], hx => simp at hx
  | [], hx => simp at hx
 | trans _ _ ih1 ih2 =>
  intro xs hx
  obtain ⟨ys, h1, h2⟩ := ih1 xs hx
  obtain ⟨zs, h3, h4⟩ := ih2 ys h1
  exact ⟨zs, h3, h2.trans h4⟩
end Go.Proofs.Ytdlokohmdnkdoaa.G
namespace Go.Proofs.Ytdlokohmdnkdoaa.G
open Go Go.RowKit Go.Shelf Go.Sort Go.Lib
set_option linter.unusedVariables false
set_option linter.unusedSimpArgs false
set_option maxRecDepth 100000 in
set_option maxHeartbeats 2000000 in
theorem closure (x y f1 f2 t1 t2 : Int) (v1 v2 : Value) (W : World) : Calls Try.prog 34 #[.agg #[.int .i64 x, .int .i64 f1, .int .i64 t1, v1], .agg #[.int .i64 y, .int .i64 f2, .int .i64 t2, v2]] W fun e w' => e = .returned (.int .i64 (IntKind.i64.wrap (x - y))) ∧ ∃ q os', w' = grow (W.drewN q) os' := by
 go_enter Try.func34, Try.ntmps34
 go_wp2
 go_ret
 refine ⟨by rw [Go.IntWalk.i64_left]; rfl, 0, #[.cells #[.int .i64 x, .int .i64 f1, .int .i64 t1, v1] 40, .cells #[.int .i64 y, .int .i64 f2, .int .i64 t2, v2] 40], ?_⟩
 rw [alloc_eq_grow, alloc_eq_grow, grow_grow]
 rfl
def lnum : List Value → Int
 | .int _ n :: _ => n
 | _ => 0
theorem sub_block {cs : List Value} {n sz : Nat} {q : Nat} (hq : q < sz) (u : List Value) (h : (cs.drop (n * sz)).take sz = u) : cs[n * sz + q]? = u[q]? := by
 rw [← h, List.getElem?_take_of_lt hq, List.getElem?_drop]
set_option maxHeartbeats 2000000 in
theorem sort_raw {m : Nat} {c0 : Nat → Nat} {w0 : World} {j1 : Nat} {A2 : Option Addr} {C3 : Nat} {xs : List (List Value)} (B0 : CB m c0 w0) (h4 : SL true (Kraw KO_api_Letter.sz KO_api_Letter.pos) j1 0 c0 w0 A2 C3 xs) (bj1 : 0 < j1 ∧ j1 < m) (hs : xs.length < 4611686018427387904) (hf : ∀ u ∈ xs, ∃ f t v, u = [.int .i64 (lnum u), .int .i64 f, .int .i64 t, v]) (hb : ∀ x ∈ xs, 0 ≤ lnum x ∧ lnum x ≤ 1099511627776) (hn : (xs.map lnum).Nodup) :
  Calls Try.prog 33 #[.slice A2 xs.length C3, .func (.func 34) #[] #[]] w0 (fun e w_ => ∃ (c_ : Nat → Nat) (ys : List (List Value)), e = .returned (.tuple #[]) ∧ Ev (fun x => x = j1) c0 w0 c_ w_ ∧ CB m c_ w_ ∧ SL true (Kraw KO_api_Letter.sz KO_api_Letter.pos) j1 0 c_ w_ A2 C3 ys ∧ ys.Perm xs ∧ (ys.map lnum).Pairwise (· < ·)) := by
 by_cases hnil : xs = []
 ·subst hnil
  refine (AnyF.slices_SortFunc_none Try.sortLetters A2 C3 _ w0).mono ?_
  rintro e w' ⟨rfl, rfl⟩
  exact ⟨c0, [], rfl, Ev.refl, B0, h4, List.Perm.refl _, by simp⟩
 obtain ⟨l, hl⟩ : ∃ l, xs.length = l + 1 := ⟨xs.length - 1, by have := List.length_pos_iff.2 hnil; omega⟩
 obtain ⟨cs, h2, h3, hcl, hrow, hr⟩ := h4
 have hcl : cs.length = C3 * 4 := hcl
 rcases hrow with rfl | ⟨p, rfl, hat⟩
 ·simp at hcl; omega
 let en : Fin (l + 1) → List Value := fun k => (cs.drop (k.val * 4)).take 4
 let at_ : Fin (l + 1) → List Value := fun k => xs.getD k.val default
 have hke : ∀ (k : Nat) (hk : k < xs.length), (cs.drop (k * 4)).take 4 = xs[k] := fun k hk => (hr k hk).1
 have hae : ∀ k : Fin (l + 1), at_ k = xs[k.val]'(by have := k.isLt; omega) := fun k => by
  have hk : k.val < xs.length := by have := k.isLt; omega
  show xs.getD k.val default = _
  rw [List.getD_eq_getElem?_getD, List.getElem?_eq_getElem hk]; rfl
 have hen : ∀ k : Fin (l + 1), en k = at_ k := fun k => by rw [hae]; exact hke _ _
 have hat_ : ∀ k : Fin (l + 1), ∃ f t v, en k = [.int .i64 (lnum (at_ k)), .int .i64 f, .int .i64 t, v] := fun k => by
  rw [hen]
  refine hf _ ?_
  rw [hae]; exact List.getElem_mem _
 have hin : ∀ k, 0 ≤ lnum (at_ k) ∧ lnum (at_ k) ≤ 1099511627776 := fun k => by
  have hk : k.val < xs.length := by have := k.isLt; omega
  refine hb _ ?_
  show xs.getD k.val default ∈ xs
  rw [List.getD_eq_getElem?_getD, List.getElem?_eq_getElem hk]
  exact List.getElem_mem _
 have hk4 : ∀ k, (en k).length = 4 := fun k => by obtain ⟨A1, C2, v, e⟩ := hat_ k; rw [e]; rfl
 have h1 : ∀ k, ∀ v ∈ en k, v.oneCell' = true := fun k v hv => by
  rw [hen, hae] at hv
  exact (hr k.val (by have := k.isLt; omega)).2.2 v hv
 let cf : Fin (l + 1) → Fin (l + 1) → Int := fun x y => IntKind.i64.wrap (lnum (at_ x) - lnum (at_ y))
 have hcf : ∀ x y, cf x y = lnum (at_ x) - lnum (at_ y) := fun x y => by
  show IntKind.i64.wrap _ = _
  have := hin x; have := hin y
  rw [IntKind.wrap_i64]; omega
 have hlt : ∀ x y, ltOf cf x y = decide (lnum (at_ x) < lnum (at_ y)) := fun x y => by
  unfold ltOf
  rw [hcf]
  congr 1
  exact propext ⟨fun h => by omega, fun h => by omega⟩
 have swo : SWO (ltOf cf) := {
  irrefl := fun x => by rw [hlt]; simp
  trans := fun x y z h1 h2 => by rw [hlt] at *; simp at *; omega
  ntrans := fun x y z h1 h2 => by rw [hlt] at *; simp at *; omega }
 have tot : ∀ x y, ltOf cf x y = false → ltOf cf y x = false → x = y := fun x y g1 g2 => by
  rw [hlt] at g1 g2
  simp at g1 g2
  have hx : x.val < xs.length := by have := x.isLt; omega
  have hy : y.val < xs.length := by have := y.isLt; omega
  have ex : at_ x = xs[x.val] := by show xs.getD x.val default = _; rw [List.getD_eq_getElem?_getD, List.getElem?_eq_getElem hx]; rfl
  have ey : at_ y = xs[y.val] := by show xs.getD y.val default = _; rw [List.getD_eq_getElem?_getD, List.getElem?_eq_getElem hy]; rfl
  rw [ex, ey] at g1 g2
  have e : (xs.map lnum)[x.val]'(by simpa using hx) = (xs.map lnum)[y.val]'(by simpa using hy) := by simp; omega
  exact Fin.ext ((List.getElem_inj hn).1 e)
 let d : Array (Fin (l + 1)) := (List.finRange (l + 1)).toArray
 have hd : d.size = l + 1 := by simp [d]
 have hdk : ∀ k (h : k < d.size), d[k]! = ⟨k, by omega⟩ := fun k h => by
  rw [getElem!_pos d k h]; simp [d]
 have hat' := hat
 obtain ⟨b, off, cur, ty, fz, rfl, hbk, hc, hcells, hfree⟩ := hat
 have hlt0 := lt_of_get hbk
 have hlen4 : xs.length * 4 ≤ cs.length := by rw [hcl]; exact Nat.mul_le_mul_right _ h2
 have flat : ∀ t, t < (l + 1) * 4 → (flatK en 4 d)[t]! = cs.getD t undef := fun t ht => by
  rw [get_flatK _ _ _ _ (by rw [hd]; exact ht), hdk _ (by rw [hd]; omega)]
  show ((cs.drop (t / 4 * 4)).take 4)[t % 4]! = _
  have e := sub_block (cs := cs) (n := t / 4) (sz := 4) (q := t % 4) (Nat.mod_lt _ (by decide)) _ rfl
  have e3 : t / 4 * 4 + t % 4 = t := Nat.div_add_mod' t 4
  rw [e3] at e
  rw [List.getD_eq_getElem?_getD, e, List.getElem?_eq_getElem (by simp; omega), getElem!_pos]
  rfl
 have hH : HoldsK en 4 w0 b off d := fun t ht => by
  have ht' : t < (l + 1) * 4 := by rw [size_flatK, hd] at ht; exact ht
  rw [flat t ht']
  refine ⟨?_, ?_⟩
  ·rw [← add_eq, hat'.cell (List.getElem?_eq_getElem (by omega))]
   rw [List.getD_eq_getElem?_getD, List.getElem?_eq_getElem (by omega)]
   rfl
  ·rw [← add_eq]; exact hat'.free (by omega)
 have eg : ∀ args w, (callFunc 34 args).run Try.prog w = .ok (.enter 34 args) w := enters_of Try.func34 (by kernel_rfl) rfl
 have hcmp : CmpLays Try.prog 34 #[] en 4 cf b off d.size w0 := fun mm os dk _ x y => by
  obtain ⟨A1, C1, v1, e1⟩ := hat_ x
  obtain ⟨A3, C4, v2, e2⟩ := hat_ y
  rw [e1, e2]
  exact closure (lnum (at_ x)) (lnum (at_ y)) _ _ _ _ _ _ _
 have hcall := AnyQ.slices_SortFunc_total Try.sortLetters 4 Try.isAgg40 Try.sizeOf40 en hk4 h1 cf swo 34 #[] b off C3 d w0 eg hcmp hH hlt0 (by rw [hd]; omega) tot
 rw [hl, ← hd]
 change Calls Try.prog 33 #[.slice (some ⟨b, off, none⟩) d.size C3, .func (.func 34) #[] #[]] w0 _ at hcall
 refine hcall.mono ?_
 rintro e w' ⟨rfl, n, os, rfl⟩
 generalize hσ : (d.toList.mergeSort fun x y => !ltOf cf y x) = σ
 have hperm : σ.Perm (List.finRange (l + 1)) := by rw [← hσ]; exact List.mergeSort_perm _ _
 have hsl : σ.length = l + 1 := by rw [hperm.length_eq]; simp
 have hfs : (flatK en 4 σ.toArray).size = (l + 1) * 4 := by rw [size_flatK]; simp [hsl]
 have old : ∀ k, k < w0.heap.size → b ≠ k → (sortWorldK en 4 w0 b off n σ.toArray os).heap[k]? = w0.heap[k]? := fun k hk hne => by
  unfold sortWorldK
  rw [heap_grow_old _ _ (by simpa [putRowK, putRow, mapBlock, Sort.ahead] using hk)]
  simp [putRowK, putRow, mapBlock, Sort.ahead, Array.getElem?_modify, hne]
 have new : (sortWorldK en 4 w0 b off n σ.toArray os).heap[b]? = some (.cells (putCells id off (flatK en 4 σ.toArray) cur) ty fz) := by
  unfold sortWorldK
  rw [heap_grow_old _ _ (by simpa [putRowK, putRow, mapBlock, Sort.ahead] using hlt0)]
  simp [putRowK, putRow, mapBlock, Sort.ahead, Array.getElem?_modify, hbk, onCells]
 have hE : Ev (fun x => x = j1) c0 w0 (fun k => if k < w0.heap.size then c0 k else j1) (sortWorldK en 4 w0 b off n σ.toArray os) := ⟨rfl, rfl, rfl, by simp [sortWorldK, grow, putRowK, putRow, mapBlock, Sort.ahead], fun k hk _ => if_pos hk, fun k hk hm => old k hk (fun q => hm (by rw [← q]; exact hc))⟩
 refine ⟨_, σ.map at_, rfl, hE, fun k _ => ?_, ?_, ?_, ?_⟩
 ·show (if k < w0.heap.size then c0 k else j1) < m
  split
  ·exact B0 k (by assumption)
  ·exact bj1.2
 ·have hcur : ∀ t, t < C3 * 4 → off + t < cur.size := fun t ht => by
   have := hcells t (by omega)
   rw [List.getElem?_eq_getElem (by omega)] at this
   exact (Array.getElem?_eq_some_iff.1 this).1
  refine ⟨(flatK en 4 σ.toArray).toList ++ cs.drop ((l + 1) * 4), by simp [hsl]; omega, h3, by simp only [List.length_append, Array.length_toList, hfs, List.length_drop]; show _ = C3 * 4; omega, .inr ⟨_, rfl, b, off, _, ty, fz, rfl, new, by show (if b < w0.heap.size then c0 b else j1) = j1; rw [if_pos hlt0]; exact hc, fun k hk => ?_, fun q k hk => hfree q k (by simp only [List.length_append, Array.length_toList, hfs, List.length_drop] at hk; omega)⟩, fun k hk => ?_⟩
  ·simp only [List.length_append, Array.length_toList, hfs, List.length_drop] at hk
   simp only [putCells, Array.getElem?_mapIdx]
   have hck := hcur k (by omega)
   rw [Array.getElem?_eq_getElem hck]
   simp only [Option.map_some, hfs]
   by_cases cc : k < (l + 1) * 4
   ·rw [if_pos (by omega), List.getElem?_append_left (by rw [Array.length_toList, hfs]; exact cc)]
    have e : off + k - off = k := by omega
    rw [e, Array.getElem?_toList, Array.getElem?_eq_getElem (by rw [hfs]; exact cc), getElem!_pos _ k (by rw [hfs]; exact cc)]
    rfl
   ·rw [if_neg (by omega), List.getElem?_append_right (by rw [Array.length_toList, hfs]; omega), List.getElem?_drop, Array.length_toList, hfs]
    have e : (l + 1) * 4 + (k - (l + 1) * 4) = k := by omega
    rw [e, ← hcells k (by omega), Array.getElem?_eq_getElem hck]
  ·have hk' : k < σ.length := by simpa using hk
   show (Kraw KO_api_Letter.sz KO_api_Letter.pos).rep 0 _ _ ((((flatK en 4 σ.toArray).toList ++ cs.drop ((l + 1) * 4)).drop (k * 4)).take 4) (σ.map at_)[k]
   have hle : (k + 1) * 4 ≤ (l + 1) * 4 := Nat.mul_le_mul_right _ (by omega)
   have e1 : (((flatK en 4 σ.toArray).toList ++ cs.drop ((l + 1) * 4)).drop (k * 4)).take 4 = en σ[k] := by
    apply List.ext_getElem?
    intro q
    by_cases hq : q < 4
    ·rw [List.getElem?_take_of_lt hq, List.getElem?_drop, List.getElem?_append_left (by rw [Array.length_toList, hfs]; omega), Array.getElem?_toList, Array.getElem?_eq_getElem (by rw [hfs]; omega)]
     have e2 := get_flatK en 4 σ.toArray (k * 4 + q) (by simp [hsl]; omega)
     rw [getElem!_pos _ _ (by rw [hfs]; omega)] at e2
     rw [e2]
     have e3 : (k * 4 + q) / 4 = k := by omega
     have e4 : (k * 4 + q) % 4 = q := by omega
     rw [e3, e4]
     have e5 : σ.toArray[k]! = σ[k] := by rw [getElem!_pos _ k (by simpa using hk')]; simp
     rw [e5, getElem!_pos _ q (by rw [hk4]; exact hq), List.getElem?_eq_getElem (by rw [hk4]; exact hq)]
    ·rw [List.getElem?_eq_none (by simp; omega), List.getElem?_eq_none (by rw [hk4]; omega)]
   rw [e1, List.getElem_map]
   exact ⟨hen _, by rw [← hen]; exact hk4 _, fun u hu => h1 σ[k] u (by rw [hen]; exact hu)⟩
 ·have e1 : xs = (List.finRange (l + 1)).map at_ := by
   apply List.ext_getElem
   ·simp [hl]
   ·intro k a b
    simp only [List.getElem_map, List.getElem_finRange]
    show _ = xs.getD k default
    rw [List.getD_eq_getElem?_getD, List.getElem?_eq_getElem a]
    rfl
  have := hperm.map at_
  rw [← e1] at this
  exact this
 ·rw [List.map_map, List.pairwise_map]
  have hsrt : σ.Pairwise (fun x y => (!ltOf cf y x) = true) := by
   rw [← hσ]
   exact List.pairwise_mergeSort (le := fun x y => !ltOf cf y x) (fun a b c g1 g2 => by rw [hlt] at *; simp at *; omega) (fun a b => by rw [hlt, hlt]; simp; omega) _
  have hnd : σ.Nodup := hperm.nodup_iff.2 (List.nodup_finRange _)
  refine (List.Pairwise.and hsrt hnd).imp fun {x y} hxy => ?_
  obtain ⟨g1, g2⟩ := hxy
  have g3 : ltOf cf y x = false := by simpa using g1
  cases hq : ltOf cf x y with
  | true => rw [hlt] at hq; exact of_decide_eq_true hq
  | false => exact absurd (tot x y hq g3) g2
theorem sort_own {m : Nat} {c0 : Nat → Nat} {w0 : World} {j y : Nat} {A : Option Addr} {C : Nat} {xs : List api_Letter} (B0 : CB m c0 w0) (h : OL KO_api_Letter j y c0 w0 A C xs) (bj : 0 < j ∧ j < m) (hyj : y ≠ j) (hs : xs.length < 4611686018427387904) (hb : ∀ x ∈ xs, 0 ≤ x.Number ∧ x.Number ≤ 1099511627776) (hn : (xs.map (·.Number)).Nodup) :
  Calls Try.prog 33 #[.slice A xs.length C, .func (.func 34) #[] #[]] w0 (fun e w_ => ∃ (c_ : Nat → Nat) (ys : List api_Letter), e = .returned (.tuple #[]) ∧ Ev (fun x => x = j) c0 w0 c_ w_ ∧ CB m c_ w_ ∧ OL KO_api_Letter j y c_ w_ A C ys ∧ ys.Perm xs ∧ (ys.map (·.Number)).Pairwise (· < ·)) := by
 obtain ⟨css, hl, h1, h2⟩ := h.len
 have hrep : ∀ (k : Nat) (hk : k < css.length), ∃ f t v, css[k] = [.int .i64 (xs[k]'(by omega)).Number, .int .i64 f, .int .i64 t, v] := fun k hk => by
  obtain ⟨A0, C0, e, _⟩ := GRh.read h2 (k := k) (by omega) hk (fun q => q)
  exact ⟨_, _, _, e⟩
 have hnum : css.map lnum = xs.map (·.Number) := by
  apply List.ext_getElem
  ·simp [hl]
  ·intro k a b
   simp only [List.getElem_map]
   obtain ⟨f, t, v, e⟩ := hrep k (by simpa using a)
   rw [e]; rfl
 have hbb : ∀ u ∈ css, 0 ≤ lnum u ∧ lnum u ≤ 1099511627776 := fun u hu => by
  have : lnum u ∈ xs.map (·.Number) := by rw [← hnum]; exact List.mem_map_of_mem hu
  obtain ⟨x, hx, e⟩ := List.mem_map.1 this
  rw [← e]; exact hb x hx
 rw [← hl]
 refine (sort_raw B0 h1 bj (by omega) (fun u hu => ?_) hbb (by rw [hnum]; exact hn)).mono ?_
 ·obtain ⟨k, hk, rfl⟩ := List.getElem_of_mem hu
  obtain ⟨f, t, v, e⟩ := hrep k hk
  exact ⟨f, t, v, by rw [e]; rfl⟩
 rintro e w1 ⟨c1, dss, rfl, E1, B1, hS1, hp1, hp2⟩
 obtain ⟨ys, g1, g2⟩ := zip_perm hp1.symm xs hl
 have h3 := GR.perm (GRh.ev h2 E1 hyj (by omega)) g2 g1
 have hz2 : (dss.zip ys).map (·.2) = ys := List.map_snd_zip (by omega)
 have hz3 : (css.zip xs).map (·.2) = xs := List.map_snd_zip (by omega)
 have hpx : ys.Perm xs := by
  have := g2.map (·.2)
  rw [hz2, hz3] at this
  exact this.symm
 refine ⟨c1, ys, rfl, E1, B1, OL.mk hS1 h3, hpx, ?_⟩
 ·have : dss.map lnum = ys.map (·.Number) := by
   apply List.ext_getElem
   ·simp [g1]
   ·intro k a b
    simp only [List.getElem_map]
    obtain ⟨A0, C0, e, _⟩ := GRh.read h3 (k := k) (by simpa using b) (by simpa using a) (fun q => q)
    rw [e]; rfl
  rw [← this]; exact hp2
end Go.Proofs.Ytdlokohmdnkdoaa.G
namespace Go.Proofs.Ytdlokohmdnkdoaa.G
open Go Go.RowKit
set_option linter.unusedVariables false
set_option linter.unusedSimpArgs false
section
variable {P : Program} {a : Act} {N : Nat} {L : List (Nat × Value)} {D : List Deferred} {w w' : World} {v u : Value} {x y : Operand} {d : Option Tmp} {t ty : TypeId} {pos : String} {af : Array Edge} {gd : Option (Nat × Bool)}
theorem r_sleqB (F : Fr a N L D) {A : Option Addr} {n c : Nat} {e yt : TypeId} (hu : P.underlying t = some (.slice e)) (hx : ev L x = some (.slice A n c)) (hy : ev L y = some (.slice none 0 0)) : (execOp a.eval { dst := d, op := .binOp .eql t x y yt, type := ty, pos := pos, after := af, guard := gd }).run P w = .ok (.value (.bool A.isNone)) w := by
 have h : (binOp .eql t (.slice A n c) (.slice none 0 0)).run P w = .ok (.bool A.isNone) w := by
  simp only [binOp]
  simp [Op.equal, Op.maxDepth, Lib.run_equalIn_slice_nil w 9999 t e A n c 0 0 hu]
 simp [execOp, F.ev hx, F.ev hy, eqGuard, h]
end
theorem SL.none_nilB {α : Type} {e : K α} {own : Bool} {j i : Nat} {c : Nat → Nat} {w : World} {cap : Nat} {xs : List α} (h : SL own e j i c w none cap xs) : xs = [] := by
 obtain ⟨cs, h2, h3, h4, h5, h6⟩ := h
 rcases h5 with h5 | ⟨a, e, _⟩
 ·subst h5
  have := e.pos
  have h : cap * e.sz = 0 := h4.symm
  rcases Nat.mul_eq_zero.1 h with h | h
  ·exact List.eq_nil_of_length_eq_zero (by omega)
  ·omega
 ·cases e
theorem slices_Clone.calls {m : Nat} {c0 : Nat → Nat} {w0 : World} {j1 : Nat} {A2 : Option Addr} {C3 : Nat} {a1 : List Int} (hm0 : 0 < m) (B0 : CB m c0 w0) (h4 : SL false (Kint .u8) j1 0 c0 w0 A2 C3 a1) (bj1 : j1 < m) (jr : Nat) (bjr : jr < m) (r : List Int) (H : slices_Clone.f a1 = some r) :
  Calls Try.prog 46 #[.slice A2 a1.length C3] w0 (fun e w_ => ∃ (c_ : Nat → Nat) (A0_ : Option Addr) (C0_ : Nat), e = .returned (.slice A0_ r.length C0_) ∧ Ev (fun x => False) c0 w0 c_ w_ ∧ CB m c_ w_ ∧ SL true (Kint .u8) jr 0 c_ w_ A0_ C0_ r) := by
 unfold slices_Clone.f at H
 obtain ⟨g, H⟩ := ifN H
 have H := Option.some.inj H
 subst H
 have B := B0.mono (show m ≤ m + 2 by omega)
 have E : Ev (fun x => False ∨ m ≤ x) c0 w0 c0 w0 := Ev.refl
 refine enter (N := 8) (l := [.slice A2 a1.length C3]) Try.func46 rfl rfl (Nat.le_of_ble_eq_true rfl) fun a F => ?_
 refine wp_seq_k fun K5 hK5 => ?_
 refine reg ?_
 refine q_val F rfl rfl (by decide) (r_assign F rfl) fun a F => ?_
 refine nil ?_
 refine hK5 _ _ ?_
 refine wp_seq_k fun K6 hK6 => ?_
 refine wp_seq_k fun K7 hK7 => ?_
 refine reg ?_
 refine q_val F rfl rfl (by decide) (r_move F rfl) fun a F => ?_
 refine q_val F rfl rfl (by decide) (r_sleqB F Try.underlying27 rfl rfl) fun a F => ?_
 refine nil ?_
 refine hK7 _ _ ?_
 cases A2 with
 | none =>
  have e := h4.none_nilB
  subst e
  refine wp_cond_true (F.ev rfl) ?_
  refine wp_seq_k fun K8 hK8 => ?_
  refine reg ?_
  refine q_val F rfl rfl (by decide) (r_assign F rfl) fun a F => ?_
  refine nil ?_
  refine hK8 _ _ ?_
  refine wp_ret ?_
  refine thenR ?_
  refine out1 F rfl rfl ?_
  exact ⟨c0, none, 0, rfl, Ev.refl, B0, SL.nil⟩
 | some q =>
  refine wp_cond_false (F.ev rfl) ?_
  refine wp_skip ?_
  refine hK6 _ _ ?_
  refine wp_seq_k fun K9 hK9 => ?_
  refine reg ?_
  refine q_eff F rfl rfl (by decide) (e_buildSlice (e := 5) (c := c0) (k := Kint .u8) (i := 0) F [] [] ([] : List Int) (by exact trivial) (fun w => by kernel_rfl) rfl (by decide) rfl trivial (fun q => q) (m + 1)) ?_
  rintro v w1 a ⟨c1, A1, C1, rfl, E1, h1, B1⟩ F
  have B := B1 _ B (by omega)
  have h4 := SL.ev h4 E1 (fun q => q.elim) (fun q => q.elim)
  have E := E.trans E1 (fun x q => q.elim)
  refine q_val F rfl rfl (by decide) (r_move F rfl) fun a F => ?_
  refine q_eff F rfl rfl (by decide) (e_append (k := Kint .u8) (xs := []) (ys := a1) (c := c1) (j := m + 1) (i := 0) F et_27 rfl rfl h1 h4 (by simpa using g) (by have g_ := g; unfold maxLen; simp at g_ ⊢; omega) (by omega)) ?_
  rintro v w2 a ⟨c2, A3, C4, rfl, E2, h2, B2⟩ F
  have B := B2 _ B (by omega)
  have E := E.trans E2 (fun x q => by replace q : x = m + 1 := q; show False ∨ m ≤ x; omega)
  refine q_val F rfl rfl (by decide) (r_assign F rfl) fun a F => ?_
  refine nil ?_
  refine hK9 _ _ ?_
  refine wp_ret ?_
  refine out1 F rfl rfl ?_
  rw [List.nil_append] at h2 ⊢
  exact ⟨fun b_ => (fun x_ => if x_ = m + 1 then jr else if x_ < m then x_ else 0) (c2 b_), A3, C4, rfl, E.leave B0 (fun x_ => if x_ = m + 1 then jr else if x_ < m then x_ else 0) (by intro x_ hx_; show (if x_ = m + 1 then jr else if x_ < m then x_ else 0) = x_; ((repeat' split) <;> omega)), (fun b_ hb_ => by show (if (c2 b_) = m + 1 then jr else if (c2 b_) < m then (c2 b_) else 0) < m; ((repeat' split) <;> omega)), SL.rc h2 (fun k_ hk_ => by show (if (c2 k_) = m + 1 then jr else if (c2 k_) < m then (c2 k_) else 0) = _; rw [hk_]; ((repeat' split) <;> omega)) (fun k_ hk_ => by show (if (c2 k_) = m + 1 then jr else if (c2 k_) < m then (c2 k_) else 0) = _; rw [hk_]; ((repeat' split) <;> omega))⟩
end Go.Proofs.Ytdlokohmdnkdoaa.G
namespace Go.Proofs.Ytdlokohmdnkdoaa.G
open Go Go.RowKit
set_option linter.unusedVariables false
set_option linter.unusedSimpArgs false
set_option maxRecDepth 100000
set_option maxHeartbeats 40000000
theorem bag_own.calls {m : Nat} {c0 : Nat → Nat} {w0 : World} {j5 : Nat} {A2 : Option Addr} {C3 : Nat} {a1 : api_Letter} (hm0 : 0 < m) (B0 : CB m c0 w0) (h4 : SL false (Kint .u8) j5 0 c0 w0 A2 C3 a1.Data) (bj5 : j5 < m) (jr39 : Nat) (bjr39 : jr39 < m) (r : api_Letter) (H : bag_own.f a1 = some r) : Calls Try.prog 32 #[.agg #[.int .i64 a1.Number, .int .i64 a1.From, .int .i64 a1.To, .slice A2 a1.Data.length C3]] w0 (fun e w_ => ∃ (c_ : Nat → Nat) (A0_ : Option Addr) (C0_ : Nat), e = .returned (.agg #[.int .i64 r.Number, .int .i64 r.From, .int .i64 r.To, .slice A0_ r.Data.length C0_]) ∧ Ev (fun x => False) c0 w0 c_ w_ ∧ CB m c_ w_ ∧ SL true (Kint .u8) jr39 0 c_ w_ A0_ C0_ r.Data) := by
 unfold bag_own.f at H; have B := B0.mono (show m ≤ m + 4 by omega); have E : Ev (fun x => False ∨ m ≤ x) c0 w0 c0 w0 := Ev.refl; refine enter (N := 8) (l := [.agg #[.int .i64 a1.Number, .int .i64 a1.From, .int .i64 a1.To, .slice A2 a1.Data.length C3]]) Try.func32 rfl rfl (nb rfl) fun a F => ?_; refine sr fun K6 hK6 => ?_; refine q_eff F rfl rfl (by decide) (e_box F (v := .agg #[.int .i64 a1.Number, .int .i64 a1.From, .int .i64 a1.To, .slice A2 a1.Data.length C3]) rfl c0 (m + 1)) ?_; rintro v w8 a ⟨c7, qa9, rfl, E10, h11, B12⟩ F; replace B := B12 _ B lm; replace E := E.n E10; replace h11 : AT _ _ _ _ _ [.int .i64 a1.Number, .int .i64 a1.From, .int .i64 a1.To, .slice A2 a1.Data.length C3] := h11; refine q_eff F rfl rfl (by decide) (e_alloc F zv_40 c7 (m + 2)) ?_; rintro v w15 a ⟨c14, qa16, rfl, E17, h18, B19⟩ F; replace B := B19 _ B lm; replace h4 := (h4.ev E10).ev E17; replace h11 := h11.ev E17; replace E := E.n E17; replace h18 : AT _ _ _ _ _ [.int .i64 0, .int .i64 0, .int .i64 0, .slice none 0 0] := h18; refine nil (hK6 _ _ ?_); refine sr fun K21 hK21 => qf F ff_40_3 fun a F => ?_; refine ql F ag_27 h11 fun a F => ?_; obtain ⟨t22, q23, H⟩ := bind_some H; refine qc F Try.func46 (slices_Clone.calls (m := m + 4) (pl hm0) B h4 (by omega) (m + 3) lm _ q23) ?_; rintro e w25 ⟨c24, A28, C29, rfl, E26, B, h30⟩; refine rt fun a F => ?_; replace h11 := h11.ev E26; replace E := E.n E26; refine qf F ff_40_3 fun a F => ?_; refine q_eff0 F rfl rfl (e_store F rfl rfl sz_27 h11 (nb rfl) rfl) ?_; rintro w32 a ⟨E33, h11, Z34⟩ F; replace h18 := (h18.ev E26).ev E33; replace E := E.trans E33 lc1; replace h11 : AT _ _ _ _ _ [.int .i64 a1.Number, .int .i64 a1.From, .int .i64 a1.To, .slice A28 t22.length C29] := h11; refine nil (hK21 _ _ ?_); refine sr fun K35 hK35 => ?_; refine qv F (r_loads (cs := [.int .i64 a1.Number, .int .i64 a1.From, .int .i64 a1.To, .slice A28 t22.length C29]) F rfl ag_40 sz_40 h11) fun a F => ?_; refine q_eff0 F rfl rfl (e_storeN0 (us := [.int .i64 a1.Number, .int .i64 a1.From, .int .i64 a1.To, .slice A28 t22.length C29]) F rfl rfl sz_40 h18 (nb rfl) (one_all rfl)) ?_; rintro w36 a ⟨E37, h18, Z38⟩ F; replace h30 := (h30.ev E33).ev E37; replace E := E.trans E37 lc1; replace h18 : AT _ _ _ _ _ [.int .i64 a1.Number, .int .i64 a1.From, .int .i64 a1.To, .slice A28 t22.length C29] := h18; refine nil (hK35 _ _ ?_); refine wp_ret ?_; obtain rfl := si H; refine outR1 F rfl ⟨_, rfl, lv_agg (cs := [.int .i64 a1.Number, .int .i64 a1.From, .int .i64 a1.To, .slice A28 t22.length C29]) ag_40 sz_40 h18⟩ ?_; exact ⟨cf (fun x_ => if x_ = m + 3 then jr39 else if x_ < m then x_ else 0) c24, A28, C29, rfl, E.lv B0, cfb, SL.rc h30 cfk cfk⟩
end Go.Proofs.Ytdlokohmdnkdoaa.G
namespace Go.Proofs.Ytdlokohmdnkdoaa.G
open Go Go.RowKit
set_option linter.unusedVariables false
set_option linter.unusedSimpArgs false
theorem own_some {l : api_Letter} (h : l.Data.length ≤ 140737488355328) : bag_own.f l = some l := by
 unfold bag_own.f slices_Clone.f
 rw [if_pos (by omega)]
 cases l; rfl
theorem raw_zero : ∀ (i : Nat) (c : Nat → Nat) (w : World), (Kraw KO_api_Letter.sz KO_api_Letter.pos).rep i c w (Value.agg #[.int .i64 0, .int .i64 0, .int .i64 0, .slice none 0 0]).cells.toList [.int .i64 0, .int .i64 0, .int .i64 0, .slice none 0 0] := fun i c w => ⟨rfl, rfl, one_all rfl⟩
def FL (o : MkV api_Letter) (ks : List Int) : List api_Letter := ks.map fun k => (o.f k).getD default
theorem FL_snoc (o : MkV api_Letter) (ks : List Int) {x : Int} {y : api_Letter} (h : o.f x = some y) : FL o (ks ++ [x]) = FL o ks ++ [y] := by
 unfold FL; rw [List.map_append]; simp [h]
def FK (o : MkV api_Letter) (t : Int) (ks : List Int) : List Int := ks.filter fun k => decide (((o.f k).getD default).To = t)
theorem FK_snoc (o : MkV api_Letter) (t : Int) (ks : List Int) {x : Int} {y : api_Letter} (h : o.f x = some y) : FK o t (ks ++ [x]) = if y.To = t then FK o t ks ++ [x] else FK o t ks := by
 unfold FK; rw [List.filter_append]; simp only [List.filter_cons, List.filter_nil, h, Option.getD_some]
 by_cases c : y.To = t
 ·rw [if_pos c, if_pos (decide_eq_true c)]
 ·rw [if_neg c, if_neg (by simpa using c)]; simp
set_option maxRecDepth 100000 in
set_option maxHeartbeats 4000000 in
theorem bag_Bag_Waiting.calls {m : Nat} {c0 : Nat → Nat} {w0 : World} {j4 j5 : Nat} {p2 : Option Addr} {a1 : Option Bag} (hm0 : 0 < m) (B0 : CB m c0 w0) (h3 : BG j4 j5 c0 w0 p2 a1) (bj4 : j4 < m) (bj5 : 0 < j5 ∧ j5 < m ∧ j5 ≠ j4) (jr : Nat) (bjr : jr < m) (jy : Nat) (bjy : 0 < jy ∧ jy < m) (r : List api_Letter) (H : bag_Bag_Waiting.f a1 = some r) :
  Calls Try.prog 15 #[.pointer p2] w0 (fun e w_ => ∃ (c_ : Nat → Nat) (A0_ : Option Addr) (C0_ : Nat), e = .returned (.slice A0_ r.length C0_) ∧ Ev (fun x => False) c0 w0 c_ w_ ∧ CB m c_ w_ ∧ OL KO_api_Letter jr jy c_ w_ A0_ C0_ r) := by
 have B := B0.mono (show m ≤ m + 6 by omega)
 have E : Ev (fun x => False ∨ m ≤ x) c0 w0 c0 w0 := Ev.refl
 refine enter (N := 31) (l := [.pointer p2]) Try.func15 rfl rfl (Nat.le_of_ble_eq_true rfl) fun a F => ?_
 refine wp_seq_k fun K1 hK1 => ?_
 refine reg ?_
 refine q_val F rfl rfl (by decide) (r_assign F rfl) fun a F => ?_
 refine nil ?_
 refine hK1 _ _ ?_
 refine wp_seq_k fun K2 hK2 => ?_
 refine wp_seq_k fun K3 hK3 => ?_
 refine reg ?_
 refine q_val F rfl rfl (by decide) (r_move F rfl) fun a F => ?_
 refine q_val F rfl rfl (by decide) (r_peqlA F Try.underlying24 rfl rfl (BG.isNone h3)) fun a F => ?_
 refine nil ?_
 refine hK3 _ _ ?_
 cases a1 with
 | none =>
  have H := Option.some.inj H
  subst H
  refine wp_cond_true (F.ev rfl) ?_
  refine wp_seq_k fun K4 hK4 => ?_
  refine reg ?_
  refine q_val F rfl rfl (by decide) (r_assign F rfl) fun a F => ?_
  refine nil ?_
  refine hK4 _ _ ?_
  refine wp_ret ?_
  refine thenR ?_
  refine out1 F rfl rfl ?_
  exact ⟨c0, none, 0, rfl, Ev.refl, B0, OL.nil bjy.1⟩
 | some t =>
 refine wp_cond_false (F.ev rfl) ?_
 refine wp_skip ?_
 refine hK2 _ _ ?_
 obtain ⟨ht, H⟩ := ifN H
 have H := (Option.some.inj H).symm
 obtain ⟨ht1, ht2, ht3⟩ := ht
 have htold : ∀ x, (t.under.f x).isSome = true → x ∈ t.under.keys t.next := by
  obtain ⟨_, _, _, _, hML⟩ := BG.some h3
  exact fun x hx => MO1.told hML ht2 hx
 have hkl : (t.under.keys t.next).length ≤ t.next.toNat := by
  unfold MkV.keys
  refine Nat.le_trans (List.length_filter_le _ _) ?_
  simp
 obtain ⟨ad, p17, rfl, hat, hML⟩ := BG.some h3
 refine wp_seq_k fun K4 hK4 => ?_
 refine reg ?_
 refine q_val F rfl rfl (by decide) (r_move F rfl) fun a F => ?_
 refine q_val F rfl rfl (by decide) (r_nil F rfl) fun a F => ?_
 refine q_val F rfl rfl (by decide) (r_fieldAddr F rfl ff_67_0) fun a F => ?_
 refine q_val F rfl rfl (by decide) (r_load F rfl ag_65 (AT.cell hat rfl)) fun a F => ?_
 refine q_val F rfl rfl (by decide) (r_lenmap1 F hML Try.underlying65 rfl) fun a F => ?_
 refine q_eff F rfl rfl (by decide) (e_make (k := Kraw KO_api_Letter.sz KO_api_Letter.pos) (x0 := [.int .i64 0, .int .i64 0, .int .i64 0, .slice none 0 0]) F et_34 rfl rfl raw_zero (by decide) (by omega) c0 m 0) ?_
 rintro v w1 a ⟨c1, A1, C1, rfl, E1, hS, B1⟩ F
 have B := B1 _ B (by omega)
 have hS : OL KO_api_Letter m (m + 4) c1 w1 A1 C1 [] := OL.mk hS (GR.nil (by omega))
 have h3 := h3.ev E1 (fun q => q.elim) (fun q => q.elim) (fun q => q.elim)
 have E := E.trans E1 (fun x q => q.elim)
 clear hat hML
 refine q_val F rfl rfl (by decide) (r_assign F rfl) fun a F => ?_
 refine nil ?_
 refine hK4 _ _ ?_
 refine wp_seq_k fun K5 hK5 => ?_
 obtain ⟨ad_, p17, e_, hat, hML⟩ := BG.some h3
 obtain rfl := Option.some.inj e_
 refine wp_seq_k fun K6 hK6 => ?_
 refine reg ?_
 refine q_val F rfl rfl (by decide) (r_move F rfl) fun a F => ?_
 refine q_val F rfl rfl (by decide) (r_nil F rfl) fun a F => ?_
 refine q_val F rfl rfl (by decide) (r_fieldAddr F rfl ff_67_0) fun a F => ?_
 refine q_val F rfl rfl (by decide) (r_load F rfl ag_65 (AT.cell hat rfl)) fun a F => ?_
 refine q_eff F rfl rfl (by decide) (e_range1 F Try.underlying3 Try.underlying65 rfl hML (m + 1) (by omega)) ?_
 rintro v w2 a ⟨c2, b, rr, cnt, rfl, E2, hM, B2⟩ F
 have B := B2 _ B (by omega)
 have hS := OL.ev hS E2 (fun q => q.elim) (fun q => q.elim) (fun q => q.elim)
 have E := E.trans E2 (fun x q => q.elim)
 refine nil ?_
 refine hK6 _ _ ?_
 refine wp_block ?_
 have J2 : ∀ (ks : List Int) (A : Option Addr) (C : Nat) (c : Nat → Nat) (w : World) (a : Act), Fr a 31 [(3, .slice A (FL t.under ks).length C)] → Ev (fun x => False ∨ m ≤ x) c0 w0 c w → CB (m + 6) c w → OL KO_api_Letter m (m + 4) c w A C (FL t.under ks) → (∀ x, x ∈ ks ↔ (t.under.f x).isSome = true) → ks.Nodup → (ks.length : Int) ≤ t.under.len → K5 a w := by
  clear F E B hS hM E1 E2 B1 B2 hat hML h3
  intro ks A C c w a F E B hS hm hn hl
  have hp := keys_perm hm hl ht2
  have hlen : (FL t.under ks).length = ks.length := by simp [FL]
  have hpl := hp.length_eq
  have hmap : ∀ l : List Int, (∀ x ∈ l, x ∈ t.under.keys t.next) → (FL t.under l).map (·.Number) = l := fun l hl => by
   unfold FL
   rw [List.map_map]
   conv => rhs; rw [← List.map_id l]
   exact List.map_congr_left fun x hx => (ht3 x (hl x hx)).1
  have hin : ∀ x ∈ ks, x ∈ t.under.keys t.next := fun x hx => hp.mem_iff.2 hx
  refine hK5 _ _ ?_
  refine wp_seq_k fun K9 hK9 => ?_
  refine reg ?_
  refine q_val F rfl rfl (by decide) (r_move F rfl) fun a F => ?_
  refine q_call F rfl rfl (by decide) (r_call F Try.func33 rfl (by kernel_rfl) rfl) (sort_own B hS (by omega) (by omega) (by omega) (fun x hx => by
   obtain ⟨k, hk, rfl⟩ := List.mem_map.1 hx
   have h1 := ((mem_keys _ _ _).1 (hin k hk)).1
   rw [(ht3 k (hin k hk)).1]; omega) (by rw [hmap ks hin]; exact hn)) ?_
  rintro e w1 ⟨c1, ys, rfl, E1, B1, hS1, hp1, hp2⟩
  refine ⟨_, rfl, fun a F => ?_⟩
  have E := E.trans E1 (fun x q => by replace q : x = m := q; show False ∨ m ≤ x; omega)
  refine nil ?_
  refine hK9 _ _ ?_
  refine wp_seq_k fun K10 hK10 => ?_
  refine reg ?_
  refine q_val F rfl rfl (by decide) (r_move F rfl) fun a F => ?_
  refine q_val F rfl rfl (by decide) (r_assign F rfl) fun a F => ?_
  refine nil ?_
  refine hK10 _ _ ?_
  refine wp_ret ?_
  have es : ys = r := by
   have e1 : ys.map (·.Number) = t.under.keys t.next := by
    refine perm_rising hp2 (keys_rise _ _) ?_
    have := hp1.map (·.Number)
    rw [hmap ks hin] at this
    exact this.trans hp.symm
   have e2 : FL t.under (ys.map (·.Number)) = ys := by
    unfold FL
    rw [List.map_map]
    conv => rhs; rw [← List.map_id ys]
    refine List.map_congr_left fun y hy => ?_
    obtain ⟨k, hk, rfl⟩ := List.mem_map.1 (hp1.mem_iff.1 hy)
    show (t.under.f ((t.under.f k).getD default).Number).getD default = _
    rw [(ht3 k (hin k hk)).1]; rfl
   rw [← e2, e1, H]; rfl
  have hlr : (FL t.under ks).length = r.length := by rw [← es, hp1.length_eq]
  refine out1 F rfl rfl ?_
  refine ⟨fun b_ => (fun x_ => if x_ = m then jr else if x_ = m + 4 then jy else if x_ < m then x_ else 0) (c1 b_), A, C, by rw [hlr], E.leave B0 (fun x_ => if x_ = m then jr else if x_ = m + 4 then jy else if x_ < m then x_ else 0) (by intro x_ hx_; show (if x_ = m then jr else if x_ = m + 4 then jy else if x_ < m then x_ else 0) = x_; ((repeat' split) <;> omega)), (fun b_ hb_ => by show (if (c1 b_) = m then jr else if (c1 b_) = m + 4 then jy else if (c1 b_) < m then (c1 b_) else 0) < m; ((repeat' split) <;> omega)), ?_⟩
  rw [← es]
  exact OL.rc hS1 (fun k_ hk_ => by show (if (c1 k_) = m then jr else if (c1 k_) = m + 4 then jy else if (c1 k_) < m then (c1 k_) else 0) = _; rw [hk_]; ((repeat' split) <;> omega)) (fun k_ hk_ => by show (if (c1 k_) = m then jr else if (c1 k_) = m + 4 then jy else if (c1 k_) < m then (c1 k_) else 0) = _; rw [hk_]; ((repeat' split) <;> omega)) (fun k_ hk_ => by show (if (c1 k_) = m then jr else if (c1 k_) = m + 4 then jy else if (c1 k_) < m then (c1 k_) else 0) = _; rw [hk_]; ((repeat' split) <;> omega)) bjy.1
 refine loop_fuel (I := fun n a w => ∃ (ks : List Int) (A : Option Addr) (C : Nat) (c : Nat → Nat), Fr a 31 [(3, .slice A (FL t.under ks).length C), (18, .pointer (some ⟨rr, 0, none⟩))] ∧ Ev (fun x => False ∨ m ≤ x) c0 w0 c w ∧ CB (m + 6) c w ∧ MR1 .i64 3 KO_api_Letter (fun cs => .agg cs.toArray) Try.prog j5 (m + 1) c w b rr t.under ks n ∧ OL KO_api_Letter m (m + 4) c w A C (FL t.under ks)) (k := cnt)
  ⟨[], A1, C1, c2, F.sub ⟨rfl, rfl, trivial⟩, E, B, hM, hS⟩ ?_
 clear F E B hS hM E1 E2 B1 B2 hat hML h3
 intro n X hX a w ⟨ks, A, C, c, F, E, B, hM, hS⟩
 have hkb : ks.length ≤ 1000000000 := by have := hM.bound; omega
 have hlen : (FL t.under ks).length = ks.length := by simp [FL]
 refine wp_seq_k fun K11 hK11 => ?_
 refine reg ?_
 refine q_next1 F (by decide) Try.underlying3 rfl hM (by omega) (by omega) ?_ ?_
 ·intro hm hn hl a F
  refine q_val F rfl rfl (by decide) (r_extract F rfl rfl) fun a F => ?_
  refine nil ?_
  refine hK11 _ _ ?_
  refine wp_seq_k fun K12 hK12 => ?_
  refine wp_cond_false (F.ev rfl) ?_
  refine wp_exit ?_
  repeat (first | refine thenE ?_ | refine inbE ?_)
  exact J2 ks A C c w a (F.sub ⟨rfl, trivial⟩) E B hS hm hn hl
 ·intro x y cs w1 cnt1 a hxy hnx hM hlt E1 hsz hrep hwf hen F
  have B := B.size hsz
  have hS := OL.ev hS E1 (by show ¬ (m = m + 1); omega) (by show ¬ (m + 4 = m + 1); omega) (by show ¬ (0 = m + 1); omega)
  have E := E.trans E1 (fun x q => by replace q : x = m + 1 := q; show False ∨ m ≤ x; omega)
  obtain ⟨A1, C1, rfl, hD⟩ := hrep
  have hD : SL false (Kint .u8) j5 0 c w1 A1 C1 y.Data := hD.r
  refine q_val F rfl rfl (by decide) (r_extract F rfl rfl) fun a F => ?_
  refine nil ?_
  refine hK11 _ _ ?_
  refine wp_seq_k fun K12 hK12 => ?_
  refine wp_cond_true (F.ev rfl) ?_
  refine wp_skip ?_
  refine hK12 _ _ ?_
  refine wp_block ?_
  refine wp_seq_k fun K13 hK13 => ?_
  refine reg ?_
  refine q_val F rfl rfl (by decide) (r_entry F rfl hen) fun a F => ?_
  refine q_val F rfl rfl (by decide) (r_extract F rfl rfl) fun a F => ?_
  refine q_eff F rfl rfl (by decide) (e_alloc F zv_40 c (m + 2)) ?_
  rintro v w2 a ⟨c2, qa, rfl, E2, hat, B2⟩ F
  have B := B2 _ B (by omega)
  have hS := OL.ev hS E2 (fun q => q.elim) (fun q => q.elim) (fun q => q.elim)
  have hD := hD.ev E2 (fun q => q.elim) (fun q => q.elim)
  have hM := hM.ev E2 (fun q => q.elim) (fun q => q.elim) (fun q => q.elim)
  have E := E.trans E2 (fun x q => q.elim)
  refine q_eff0 F rfl rfl (e_storeN0 (us := [.int .i64 y.Number, .int .i64 y.From, .int .i64 y.To, .slice A1 y.Data.length C1]) F rfl rfl sz_40 hat (Nat.le_of_ble_eq_true rfl) (one_all rfl)) ?_
  rintro w3 a ⟨E3, hat, Z3⟩ F
  have hat : AT true (m + 2) c2 w3 qa [.int .i64 y.Number, .int .i64 y.From, .int .i64 y.To, .slice A1 y.Data.length C1] := hat
  have B := B.size Z3
  have hS := OL.ev hS E3 (by show ¬ (m = m + 2); omega) (by show ¬ (m + 4 = m + 2); omega) (by show ¬ (0 = m + 2); omega)
  have hD := hD.ev E3 (by show ¬ (j5 = m + 2); omega) (by show ¬ (0 = m + 2); omega)
  have hM := hM.ev E3 (by show ¬ (j5 = m + 2); omega) (by show ¬ (m + 1 = m + 2); omega) (by show ¬ (0 = m + 2); omega)
  have E := E.trans E3 (fun x q => by replace q : x = m + 2 := q; show False ∨ m ≤ x; omega)
  refine nil ?_
  refine hK13 _ _ ?_
  refine reg ?_
  have hyl : y.Data.length ≤ 140737488355328 := by
   have := (ht3 x (htold x (by rw [hxy]; rfl))).2
   rw [hxy] at this; exact this
  refine q_val F rfl rfl (by decide) (r_move F rfl) fun a F => ?_
  refine q_val F rfl rfl (by decide) (r_loads (cs := [.int .i64 y.Number, .int .i64 y.From, .int .i64 y.To, .slice A1 y.Data.length C1]) F rfl ag_40 sz_40 hat) fun a F => ?_
  refine q_call F rfl rfl (by decide) (r_call F Try.func32 rfl (by kernel_rfl) rfl) (bag_own.calls (m := m + 6) (by omega) B hD (by omega) (m + 3) (by omega) y (own_some hyl)) ?_
  rintro e w4 ⟨c4, A4, C4, rfl, E4, B4, hD⟩
  refine ⟨_, rfl, fun a F => ?_⟩
  have B := B4
  have hS := OL.ev hS E4 (fun q => q) (fun q => q) (fun q => q)
  have hM := hM.ev E4 (fun q => q) (fun q => q) (fun q => q)
  have E := E.trans E4 (fun x q => q.elim)
  refine q_eff F rfl rfl (by decide) (e_buildSlice (n := 1) (e := 40) (c := c4) (k := Kraw KO_api_Letter.sz KO_api_Letter.pos) (i := 0) F [(0, .agg #[.int .i64 y.Number, .int .i64 y.From, .int .i64 y.To, .slice A4 y.Data.length C4])] [.int .i64 y.Number, .int .i64 y.From, .int .i64 y.To, .slice A4 y.Data.length C4] ([[.int .i64 y.Number, .int .i64 y.From, .int .i64 y.To, .slice A4 y.Data.length C4]] : List (List Value)) (by exact ⟨rfl, rfl, trivial⟩) (fun w => by kernel_rfl) rfl (by decide) rfl ⟨⟨rfl, rfl, one_all rfl⟩, trivial⟩ (fun q => q) (m + 5)) ?_
  rintro v w5 a ⟨c5, A5, C5, rfl, E5, h5, B5⟩ F
  have B := B5 _ B (by omega)
  have hS := OL.ev hS E5 (fun q => q.elim) (fun q => q.elim) (fun q => q.elim)
  have hM := hM.ev E5 (fun q => q.elim) (fun q => q.elim) (fun q => q.elim)
  have hD := hD.ev E5 (fun q => q.elim) (fun q => q.elim)
  have E := E.trans E5 (fun x q => q.elim)
  obtain ⟨css, hcl, hs, hg⟩ := OL.len hS
  refine q_eff F rfl rfl (by decide) (e_appendR (e := KO_api_Letter) (xs := FL t.under ks) (ys := [y]) (c := c5) (j := m) F et_34 rfl rfl hs h5 hcl rfl (by simp only [List.length_cons, List.length_nil]; omega) (by unfold maxLen; simp only [List.length_cons, List.length_nil]; omega) (by omega)) ?_
  rintro v w6 a ⟨c6, A6, C6, rfl, E6, h6, B6⟩ F
  have B := B6 _ B (by omega)
  have hM := hM.ev E6 (by show ¬ (j5 = m); omega) (by show ¬ (m + 1 = m); omega) (by show ¬ (0 = m); omega)
  have hD := hD.ev E6 (by show ¬ (m + 3 = m); omega) (by show ¬ (0 = m); omega)
  have hg := GRh.ev hg E6 (by show ¬ (m + 4 = m); omega) (by show ¬ (0 = m); omega)
  have E := E.trans E6 (fun x q => by replace q : x = m := q; show False ∨ m ≤ x; omega)
  obtain ⟨cz, az1, az2, hg⟩ := GRL.push (zs := [m + 3]) (ds := ([.int .i64 y.Number, .int .i64 y.From, .int .i64 y.To, .slice A4 y.Data.length C4] : List Value)) (x := y) hg ⟨A4, C4, rfl, hD⟩ rfl ⟨⟨by omega, by omega⟩, trivial⟩ ⟨trivial, trivial⟩
  have Ez : Ev (fun k => k = m + 3) c6 w6 cz w6 := ⟨rfl, rfl, rfl, Nat.le_refl _, fun k _ hm => az1 k ⟨hm, trivial⟩, fun _ _ _ => rfl⟩
  have B := B.recol (fun b => (az2 b).imp id (fun q => by rw [q]; omega))
  have hM := hM.ev Ez (by show ¬ (j5 = m + 3); omega) (by show ¬ (m + 1 = m + 3); omega) (by show ¬ (0 = m + 3); omega)
  have h6 := h6.ev Ez (by show ¬ (m = m + 3); omega) (by show ¬ (0 = m + 3); omega)
  have E := E.trans Ez (fun x q => by replace q : x = m + 3 := q; show False ∨ m ≤ x; omega)
  have h6 := OL.mk h6 hg
  refine q_val F rfl rfl (by decide) (r_assign F rfl) fun a F => ?_
  refine nil ?_
  rw [← FL_snoc t.under ks hxy] at h6
  exact hX _ _ _ hlt ⟨ks ++ [x], A6, C6, cz, F.sub ⟨by rw [FL_snoc t.under ks hxy]; rfl, rfl, trivial⟩, E, B, hM, h6⟩
set_option maxRecDepth 100000 in
set_option maxHeartbeats 4000000 in
theorem bag_Bag_For.calls {m : Nat} {c0 : Nat → Nat} {w0 : World} {j4 j5 : Nat} {p2 : Option Addr} {a1 : Option Bag} {a6 : Int} (hm0 : 0 < m) (B0 : CB m c0 w0) (h3 : BG j4 j5 c0 w0 p2 a1) (bj4 : j4 < m) (bj5 : 0 < j5 ∧ j5 < m ∧ j5 ≠ j4) (jr : Nat) (bjr : jr < m) (r : List Int) (H : bag_Bag_For.f a1 a6 = some r) :
  Calls Try.prog 16 #[.pointer p2, .int .i64 a6] w0 (fun e w_ => ∃ (c_ : Nat → Nat) (A0_ : Option Addr) (C0_ : Nat), e = .returned (.slice A0_ r.length C0_) ∧ Ev (fun x => False) c0 w0 c_ w_ ∧ CB m c_ w_ ∧ SL true (Kint .i64) jr 0 c_ w_ A0_ C0_ r) := by
 have B := B0.mono (show m ≤ m + 4 by omega)
 have E : Ev (fun x => False ∨ m ≤ x) c0 w0 c0 w0 := Ev.refl
 refine enter (N := 32) (l := [.pointer p2, .int .i64 a6]) Try.func16 rfl rfl (Nat.le_of_ble_eq_true rfl) fun a F => ?_
 refine wp_seq_k fun K1 hK1 => ?_
 refine reg ?_
 refine q_val F rfl rfl (by decide) (r_assign F rfl) fun a F => ?_
 refine nil ?_
 refine hK1 _ _ ?_
 refine wp_seq_k fun K1 hK1 => ?_
 refine reg ?_
 refine q_val F rfl rfl (by decide) (r_assign F rfl) fun a F => ?_
 refine nil ?_
 refine hK1 _ _ ?_
 refine wp_seq_k fun K2 hK2 => ?_
 refine wp_seq_k fun K3 hK3 => ?_
 refine reg ?_
 refine q_val F rfl rfl (by decide) (r_move F rfl) fun a F => ?_
 refine q_val F rfl rfl (by decide) (r_peqlA F Try.underlying24 rfl rfl (BG.isNone h3)) fun a F => ?_
 refine nil ?_
 refine hK3 _ _ ?_
 cases a1 with
 | none =>
  have H := Option.some.inj H
  subst H
  refine wp_cond_true (F.ev rfl) ?_
  refine wp_seq_k fun K4 hK4 => ?_
  refine reg ?_
  refine q_val F rfl rfl (by decide) (r_move F rfl) fun a F => ?_
  refine q_val F rfl rfl (by decide) (r_assign F rfl) fun a F => ?_
  refine nil ?_
  refine hK4 _ _ ?_
  refine wp_ret ?_
  refine thenR ?_
  refine out1 F rfl rfl ?_
  exact ⟨c0, none, 0, rfl, Ev.refl, B0, SL.nil⟩
 | some t =>
 refine wp_cond_false (F.ev rfl) ?_
 refine wp_skip ?_
 refine hK2 _ _ ?_
 obtain ⟨ht, H⟩ := ifN H
 have H := (Option.some.inj H).symm
 obtain ⟨ht1, ht2, ht3⟩ := ht
 have hkl : (t.under.keys t.next).length ≤ t.next.toNat := by
  unfold MkV.keys
  refine Nat.le_trans (List.length_filter_le _ _) ?_
  simp
 refine wp_seq_k fun K5 hK5 => ?_
 obtain ⟨ad_, p17, rfl, hat, hML⟩ := BG.some h3
 refine wp_seq_k fun K6 hK6 => ?_
 refine reg ?_
 refine q_val F rfl rfl (by decide) (r_move F rfl) fun a F => ?_
 refine q_val F rfl rfl (by decide) (r_nil F rfl) fun a F => ?_
 refine q_val F rfl rfl (by decide) (r_fieldAddr F rfl ff_67_0) fun a F => ?_
 refine q_val F rfl rfl (by decide) (r_load F rfl ag_65 (AT.cell hat rfl)) fun a F => ?_
 refine q_eff F rfl rfl (by decide) (e_range1 F Try.underlying3 Try.underlying65 rfl hML (m + 1) (by omega)) ?_
 rintro v w2 a ⟨c2, b, rr, cnt, rfl, E2, hM, B2⟩ F
 have B := B2 _ B (by omega)
 have E := E.trans E2 (fun x q => q.elim)
 refine nil ?_
 refine hK6 _ _ ?_
 refine wp_block ?_
 have J2 : ∀ (ks : List Int) (A : Option Addr) (C : Nat) (c : Nat → Nat) (w : World) (a : Act), Fr a 32 [(5, .slice A (FK t.under a6 ks).length C)] → Ev (fun x => False ∨ m ≤ x) c0 w0 c w → CB (m + 4) c w → SL true (Kint .i64) m 0 c w A C (FK t.under a6 ks) → (∀ x, x ∈ ks ↔ (t.under.f x).isSome = true) → ks.Nodup → (ks.length : Int) ≤ t.under.len → K5 a w := by
  clear F E B hM E2 B2 hat hML h3
  intro ks A C c w a F E B hS hm hn hl
  have hp := keys_perm hm hl ht2
  have hpl := hp.length_eq
  have hlen : (FK t.under a6 ks).length ≤ ks.length := List.length_filter_le _ _
  refine hK5 _ _ ?_
  refine wp_seq_k fun K9 hK9 => ?_
  refine reg ?_
  refine q_val F rfl rfl (by decide) (r_move F rfl) fun a F => ?_
  refine q_call F rfl rfl (by decide) (r_call F Try.func35 rfl (by kernel_rfl) rfl) (slices_Sort.calls B hS (by omega) (by omega)) ?_
  rintro e w1 ⟨c1, rfl, E1, B1, hS1⟩
  refine ⟨_, rfl, fun a F => ?_⟩
  have E := E.trans E1 (fun x q => by replace q : x = m := q; show False ∨ m ≤ x; omega)
  refine nil ?_
  refine hK9 _ _ ?_
  refine wp_seq_k fun K10 hK10 => ?_
  refine reg ?_
  refine q_val F rfl rfl (by decide) (r_move F rfl) fun a F => ?_
  refine q_val F rfl rfl (by decide) (r_assign F rfl) fun a F => ?_
  refine nil ?_
  refine hK10 _ _ ?_
  refine wp_ret ?_
  have es : sortI (FK t.under a6 ks) = r := by
   rw [H]
   have hq : ∀ l : List Int, (sortI l).Perm l := fun l => List.mergeSort_perm _ _
   have hss : ∀ l : List Int, l.Nodup → (sortI l).Pairwise (· < ·) := fun l h => by
    have hs : (sortI l).Pairwise (fun x y => decide (x ≤ y) = true) := List.pairwise_mergeSort (le := fun x y : Int => decide (x ≤ y)) (fun a b c h1 h2 => by simp at h1 h2 ⊢; omega) (fun a b => by simp; omega) l
    have hn2 : (sortI l).Nodup := (hq l).nodup_iff.2 h
    exact (List.Pairwise.and hs hn2).imp (fun {a b} hab => by have h1 := of_decide_eq_true hab.1; have h2 : a ≠ b := hab.2; omega)
   refine perm_rising (hss _ (List.Pairwise.filter _ hn)) (List.Pairwise.filter _ (keys_rise _ _)) ?_
   exact (hq _).trans ((hp.symm.filter _))
  refine out1 F rfl rfl ?_
  refine ⟨fun b_ => (fun x_ => if x_ = m then jr else if x_ < m then x_ else 0) (c1 b_), A, C, by rw [← es, sortI_length], E.leave B0 (fun x_ => if x_ = m then jr else if x_ < m then x_ else 0) (by intro x_ hx_; show (if x_ = m then jr else if x_ < m then x_ else 0) = x_; ((repeat' split) <;> omega)), (fun b_ hb_ => by show (if (c1 b_) = m then jr else if (c1 b_) < m then (c1 b_) else 0) < m; ((repeat' split) <;> omega)), ?_⟩
  rw [← es]
  exact SL.rc hS1 (fun k_ hk_ => by show (if (c1 k_) = m then jr else if (c1 k_) < m then (c1 k_) else 0) = _; rw [hk_]; ((repeat' split) <;> omega)) (fun k_ hk_ => by show (if (c1 k_) = m then jr else if (c1 k_) < m then (c1 k_) else 0) = _; rw [hk_]; ((repeat' split) <;> omega))
 refine loop_fuel (I := fun n a w => ∃ (ks : List Int) (A : Option Addr) (C : Nat) (c : Nat → Nat), Fr a 32 [(1, .int .i64 a6), (5, .slice A (FK t.under a6 ks).length C), (15, .pointer (some ⟨rr, 0, none⟩))] ∧ Ev (fun x => False ∨ m ≤ x) c0 w0 c w ∧ CB (m + 4) c w ∧ MR1 .i64 3 KO_api_Letter (fun cs => .agg cs.toArray) Try.prog j5 (m + 1) c w b rr t.under ks n ∧ SL true (Kint .i64) m 0 c w A C (FK t.under a6 ks)) (k := cnt)
  ⟨[], none, 0, c2, F.sub ⟨rfl, rfl, rfl, trivial⟩, E, B, hM, SL.nil⟩ ?_
 clear F E B hM E2 B2 hat hML h3
 intro n X hX a w ⟨ks, A, C, c, F, E, B, hM, hS⟩
 have hkb : ks.length ≤ 1000000000 := by have := hM.bound; omega
 have hlen : (FK t.under a6 ks).length ≤ ks.length := List.length_filter_le _ _
 refine wp_seq_k fun K11 hK11 => ?_
 refine reg ?_
 refine q_next1 F (by decide) Try.underlying3 rfl hM (by omega) (by omega) ?_ ?_
 ·intro hm hn hl a F
  refine q_val F rfl rfl (by decide) (r_extract F rfl rfl) fun a F => ?_
  refine nil ?_
  refine hK11 _ _ ?_
  refine wp_seq_k fun K12 hK12 => ?_
  refine wp_cond_false (F.ev rfl) ?_
  refine wp_exit ?_
  repeat (first | refine thenE ?_ | refine inbE ?_)
  exact J2 ks A C c w a (F.sub ⟨rfl, trivial⟩) E B hS hm hn hl
 ·intro x y cs w1 cnt1 a hxy hnx hM hlt E1 hsz hrep hwf hen F
  have B := B.size hsz
  have hS := hS.ev E1 (by show ¬ (m = m + 1); omega) (by show ¬ (0 = m + 1); omega)
  have E := E.trans E1 (fun x q => by replace q : x = m + 1 := q; show False ∨ m ≤ x; omega)
  obtain ⟨A1, C1, rfl, hD⟩ := hrep
  refine q_val F rfl rfl (by decide) (r_extract F rfl rfl) fun a F => ?_
  refine nil ?_
  refine hK11 _ _ ?_
  refine wp_seq_k fun K12 hK12 => ?_
  refine wp_cond_true (F.ev rfl) ?_
  refine wp_skip ?_
  refine hK12 _ _ ?_
  refine wp_block ?_
  refine wp_seq_k fun K13 hK13 => ?_
  refine reg ?_
  refine q_val F rfl rfl (by decide) (r_entry F rfl hen) fun a F => ?_
  refine q_val F rfl rfl (by decide) (r_extract F rfl rfl) fun a F => ?_
  refine q_val F rfl rfl (by decide) (r_extract F rfl rfl) fun a F => ?_
  refine q_eff F rfl rfl (by decide) (e_alloc F zv_40 c (m + 2)) ?_
  rintro v w2 a ⟨c2, qa, rfl, E2, hat, B2⟩ F
  have B := B2 _ B (by omega)
  have hS := hS.ev E2 (fun q => q.elim) (fun q => q.elim)
  have hM := hM.ev E2 (fun q => q.elim) (fun q => q.elim) (fun q => q.elim)
  have E := E.trans E2 (fun x q => q.elim)
  refine q_val F rfl rfl (by decide) (r_assign F rfl) fun a F => ?_
  refine q_eff0 F rfl rfl (e_storeN0 (us := [.int .i64 y.Number, .int .i64 y.From, .int .i64 y.To, .slice A1 y.Data.length C1]) F rfl rfl sz_40 hat (Nat.le_of_ble_eq_true rfl) (one_all rfl)) ?_
  rintro w3 a ⟨E3, hat, Z3⟩ F
  have hat : AT true (m + 2) c2 w3 qa [.int .i64 y.Number, .int .i64 y.From, .int .i64 y.To, .slice A1 y.Data.length C1] := hat
  have B := B.size Z3
  have hS := hS.ev E3 (by show ¬ (m = m + 2); omega) (by show ¬ (0 = m + 2); omega)
  have hM := hM.ev E3 (by show ¬ (j5 = m + 2); omega) (by show ¬ (m + 1 = m + 2); omega) (by show ¬ (0 = m + 2); omega)
  have E := E.trans E3 (fun x q => by replace q : x = m + 2 := q; show False ∨ m ≤ x; omega)
  refine nil ?_
  refine hK13 _ _ ?_
  refine wp_seq_k fun K14 hK14 => ?_
  refine reg ?_
  refine q_val F rfl rfl (by decide) (r_fieldAddr F rfl ff_40_2) fun a F => ?_
  refine q_val F rfl rfl (by decide) (r_load F rfl ag_3 (AT.cell hat (n := 2) rfl)) fun a F => ?_
  refine q_val F rfl rfl (by decide) (r_move F rfl) fun a F => ?_
  refine q_val F rfl rfl (by decide) (r_eql F rfl rfl) fun a F => ?_
  refine nil ?_
  refine hK14 _ _ ?_
  have hsn := FK_snoc t.under a6 ks hxy
  by_cases cc : y.To = a6
  ·rw [if_pos cc] at hsn
   refine wp_cond_true ((F.ev rfl).trans (congrArg Value.bool (decide_eq_true cc))) ?_
   refine reg ?_
   refine q_val F rfl rfl (by decide) (r_move F rfl) fun a F => ?_
   refine q_val F rfl rfl (by decide) (r_move F rfl) fun a F => ?_
   refine q_eff F rfl rfl (by decide) (e_buildSlice (n := 1) (e := 3) (c := c2) (k := Kint .i64) (i := 0) F [(0, .int .i64 x)] [.int .i64 x] ([x] : List Int) (by exact ⟨rfl, rfl, trivial⟩) (fun w => by kernel_rfl) rfl (by decide) rfl ⟨rfl, trivial⟩ (fun q => q) (m + 3)) ?_
   rintro v w5 a ⟨c5, A5, C5, rfl, E5, h5, B5⟩ F
   have B := B5 _ B (by omega)
   have hS := hS.ev E5 (fun q => q.elim) (fun q => q.elim)
   have hM := hM.ev E5 (fun q => q.elim) (fun q => q.elim) (fun q => q.elim)
   have E := E.trans E5 (fun x q => q.elim)
   refine q_eff F rfl rfl (by decide) (e_append (k := Kint .i64) (xs := FK t.under a6 ks) (ys := [x]) (c := c5) (j := m) (i := 0) F et_36 rfl rfl hS h5 (by simp only [List.length_cons, List.length_nil]; omega) (by unfold maxLen; simp only [List.length_cons, List.length_nil]; omega) (by omega)) ?_
   rintro v w6 a ⟨c6, A6, C6, rfl, E6, h6, B6⟩ F
   have B := B6 _ B (by omega)
   have hM := hM.ev E6 (by show ¬ (j5 = m); omega) (by show ¬ (m + 1 = m); omega) (by show ¬ (0 = m); omega)
   have E := E.trans E6 (fun x q => by replace q : x = m := q; show False ∨ m ≤ x; omega)
   refine q_val F rfl rfl (by decide) (r_assign F rfl) fun a F => ?_
   refine nil ?_
   rw [← hsn] at h6
   exact hX _ _ _ hlt ⟨ks ++ [x], A6, C6, c6, F.sub ⟨rfl, by rw [hsn]; rfl, rfl, trivial⟩, E, B, hM, h6⟩
  ·rw [if_neg cc] at hsn
   refine wp_cond_false ((F.ev rfl).trans (congrArg Value.bool (decide_eq_false cc))) ?_
   refine wp_skip ?_
   exact hX _ _ _ hlt ⟨ks ++ [x], A, C, c2, F.sub ⟨rfl, by rw [hsn]; rfl, rfl, trivial⟩, E, B, hM, by rw [hsn]; exact hS⟩
def FindAt (j i : Nat) (c : Nat → Nat) (w : World) (p : Option Addr) (o : Option Bag) (k : Int) (cs : List Value) : Prop := ∀ t x, o = some t → t.under.f k = some x → ∃ (a : Addr) (p1 : Option Addr), p = some a ∧ AT true j c w a [.map (Option.map Addr.block p1), .int .i64 t.next, .int .i64 t.told.Sent, .int .i64 t.told.Twice, .int .i64 t.told.Delivered, .int .i64 t.told.Dropped, .int .i64 t.told.Lost] ∧ MO1at .i64 3 KO_api_Letter (fun cs => .agg cs.toArray) Try.prog i c w p1 t.under k cs
set_option maxRecDepth 100000 in
set_option maxHeartbeats 4000000 in
theorem bag_Bag_find.at_ {m : Nat} {c0 : Nat → Nat} {w0 : World} {j4 : Nat} {j5 : Nat} {p2 : Option Addr} {a1 : Option Bag} {a6 : Int} (hm0 : 0 < m) (B0 : CB m c0 w0) (h3 : BG j4 j5 c0 w0 p2 a1) (bj4 : j4 < m) (bj5 : 0 < j5 ∧ j5 < m ∧ j5 ≠ j4) (r : api_Letter × Int) (H : bag_Bag_find.f a1 a6 = some r) : Calls Try.prog 36 #[.pointer p2, .int .i64 a6] w0 (fun e w_ => ∃ (c_ : Nat → Nat) (A0_ : Option Addr) (C0_ : Nat), e = .returned (.tuple #[.agg #[.int .i64 r.1.Number, .int .i64 r.1.From, .int .i64 r.1.To, .slice A0_ r.1.Data.length C0_], .int .i64 r.2]) ∧ Ev (fun x => False) c0 w0 c_ w_ ∧ CB m c_ w_ ∧ SL false (Kint .u8) j5 0 c_ w_ A0_ C0_ r.1.Data ∧ FindAt j4 j5 c_ w_ p2 a1 a6 [.int .i64 r.1.Number, .int .i64 r.1.From, .int .i64 r.1.To, .slice A0_ r.1.Data.length C0_]) := by
 unfold bag_Bag_find.f at H
 have B := B0.mono (show m ≤ m + 3 by omega)
 have E : Ev (fun x => False ∨ m ≤ x) c0 w0 c0 w0 := Ev.refl
 refine enter (N := 24) (l := [.pointer p2, .int .i64 a6]) Try.func36 rfl rfl (Nat.le_of_ble_eq_true rfl) fun a F => ?_
 refine wp_seq_k fun K7 hK7 => ?_
 refine reg ?_
 refine q_eff F rfl rfl (by decide) (e_alloc F zv_40 c0 (m + 1)) ?_
 rintro v w9 a ⟨c8, qa10, rfl, E11, h12, B13⟩ F
 replace B := B13 _ B (Nat.add_lt_add_left (by decide) m)
 replace h3 := BG.ev h3 E11 (fun q => q.elim) (fun q => q.elim) (fun q => q.elim)
 replace E := E.trans E11 (fun x q => q.elim)
 replace h12 : AT true (m + 1) c8 w9 qa10 [.int .i64 0, .int .i64 0, .int .i64 0, .slice none 0 0] := h12
 refine q_val F rfl rfl (by decide) (r_assign F rfl) fun a F => ?_
 refine nil ?_
 refine hK7 _ _ ?_
 refine wp_seq_k fun K15 hK15 => ?_
 refine wp_seq_k fun K16 hK16 => ?_
 refine reg ?_
 refine q_val F rfl rfl (by decide) (r_move F rfl) fun a F => ?_
 refine q_val F rfl rfl (by decide) (r_peqlA F Try.underlying24 rfl rfl (BG.isNone h3)) fun a F => ?_
 refine nil ?_
 refine hK16 _ _ ?_
 by_cases hb17 : (Option.isNone a1) = true
 ·replace H := (if_pos hb17).symm.trans H
  refine wp_cond_true ((F.ev rfl).trans (congrArg Value.bool hb17)) ?_
  refine wp_seq_k fun K18 hK18 => ?_
  refine reg ?_
  refine q_val F rfl rfl (by decide) (r_build (v := .agg #[.int .i64 0, .int .i64 0, .int .i64 0, .slice none 0 0]) F [] (by exact trivial) (fun w => by kernel_rfl)) fun a F => ?_
  refine q_eff0 F rfl rfl (e_storeN0 (us := [.int .i64 0, .int .i64 0, .int .i64 0, .slice none 0 0]) F rfl rfl sz_40 h12 (Nat.le_of_ble_eq_true rfl) (one_all rfl)) ?_
  rintro w19 a ⟨E20, h12, Z21⟩ F
  replace B := B.size Z21
  replace h3 := BG.ev h3 E20 (ne_pm bj4) (ne_pm bj5.2.1) ne_zm
  replace E := E.trans E20 (fun x (q : x = m + 1) => Or.inr (le_col q))
  replace h12 : AT true (m + 1) c8 w19 qa10 [.int .i64 0, .int .i64 0, .int .i64 0, .slice none 0 0] := h12
  refine q_val F rfl rfl (by decide) (r_assign F rfl) fun a F => ?_
  refine nil ?_
  refine hK18 _ _ ?_
  refine wp_ret ?_
  refine thenR ?_
  replace H := Option.some.inj H
  subst H
  refine outR2 F rfl ⟨_, rfl, lv_agg (cs := [.int .i64 0, .int .i64 0, .int .i64 0, .slice none 0 0]) ag_40 sz_40 h12⟩ rfl ?_
  exact ⟨fun b_ => (fun x_ => if x_ < m then x_ else 0) (c8 b_), none, 0, rfl, E.leave B0 (fun x_ => if x_ < m then x_ else 0) (by intro x_ hx_; show (if x_ < m then x_ else 0) = x_; ((repeat' split) <;> omega)), (fun b_ hb_ => by show (if (c8 b_) < m then (c8 b_) else 0) < m; ((repeat' split) <;> omega)), SL.nil, fun t x e1 _ => by rw [e1] at hb17; cases hb17⟩
 ·replace H := (if_neg hb17).symm.trans H
  refine wp_cond_false ((F.ev rfl).trans (congrArg Value.bool (bfalse hb17))) ?_
  refine wp_skip ?_
  refine hK15 _ _ ?_
  refine wp_seq_k fun K22 hK22 => ?_
  refine reg ?_
  refine q_val F rfl rfl (by decide) (r_move F rfl) fun a F => ?_
  replace H := bind_some H
  obtain ⟨ob23, e24, H⟩ := H
  have z25 := h3
  rw [e24] at z25
  obtain ⟨ad26, p28, rfl, hat27, h29⟩ := BG.some z25
  refine q_val F rfl rfl (by decide) (r_nil F rfl) fun a F => ?_
  refine q_val F rfl rfl (by decide) (r_fieldAddr F rfl ff_67_0) fun a F => ?_
  refine q_val F rfl rfl (by decide) (r_load F rfl ag_65 (AT.cell hat27 rfl)) fun a F => ?_
  refine q_val F rfl rfl (by decide) (r_move F rfl) fun a F => ?_
  replace H := ifN H
  obtain ⟨g31, H⟩ := H
  obtain ⟨cs32, r33, hl34, hk_⟩ := MO1seeA (t := 65) (x0 := (default : api_Letter)) (zcs := [.int .i64 0, .int .i64 0, .int .i64 0, .slice none 0 0]) h29 Try.underlying3 Try.underlying65 (fun w => by kernel_rfl) ⟨none, 0, rfl, SL.nil⟩ g31
  replace h29 := hk_
  replace r33 := KO_api_Letter.v r33
  obtain ⟨A35, C36, rfl, h37⟩ := r33
  replace h37 := SL.fl (i' := 0) h37 (fun q => q)
  refine q_val F rfl rfl (by decide) (r_lookK F rfl rfl hl34) fun a F => ?_
  refine q_val F rfl rfl (by decide) (r_move F rfl) fun a F => ?_
  refine q_val F rfl rfl (by decide) (r_extract F rfl rfl) fun a F => ?_
  refine q_val F rfl rfl (by decide) (r_extract F rfl rfl) fun a F => ?_
  refine q_eff F rfl rfl (by decide) (e_alloc F zv_40 c8 (m + 2)) ?_
  rintro v w39 a ⟨c38, qa40, rfl, E41, h42, B43⟩ F
  replace B := B43 _ B (Nat.add_lt_add_left (by decide) m)
  replace h3 := BG.ev h3 E41 (fun q => q.elim) (fun q => q.elim) (fun q => q.elim)
  replace h12 := AT.ev h12 E41 (fun q => q.elim)
  replace h29 := LK.ev h29 E41 (fun q => q.elim) (fun q => q.elim)
  replace hat27 := AT.ev hat27 E41 (fun q => q.elim)
  replace h37 := SL.ev h37 E41 (fun q => q.elim) (fun q => q.elim)
  replace E := E.trans E41 (fun x q => q.elim)
  replace h42 : AT true (m + 2) c38 w39 qa40 [.int .i64 0, .int .i64 0, .int .i64 0, .slice none 0 0] := h42
  refine q_eff0 F rfl rfl (e_storeN0 (us := [.int .i64 (((ob23.under.f a6).getD default).Number), .int .i64 (((ob23.under.f a6).getD default).From), .int .i64 (((ob23.under.f a6).getD default).To), .slice A35 (((ob23.under.f a6).getD default).Data).length C36]) F rfl rfl sz_40 h42 (Nat.le_of_ble_eq_true rfl) (one_all rfl)) ?_
  rintro w45 a ⟨E46, h42, Z47⟩ F
  replace B := B.size Z47
  replace h3 := BG.ev h3 E46 (ne_pm bj4) (ne_pm bj5.2.1) ne_zm
  replace h12 := AT.ev h12 E46 (ne_mm (by decide))
  replace h29 := LK.ev h29 E46 (ne_pm bj5.2.1) ne_zm
  replace hat27 := AT.ev hat27 E46 (ne_pm bj4)
  replace h37 := SL.ev h37 E46 (ne_pm bj5.2.1) ne_zm
  replace E := E.trans E46 (fun x (q : x = m + 2) => Or.inr (le_col q))
  replace h42 : AT true (m + 2) c38 w45 qa40 [.int .i64 (((ob23.under.f a6).getD default).Number), .int .i64 (((ob23.under.f a6).getD default).From), .int .i64 (((ob23.under.f a6).getD default).To), .slice A35 (((ob23.under.f a6).getD default).Data).length C36] := h42
  refine q_val F rfl rfl (by decide) (r_assign F rfl) fun a F => ?_
  refine nil ?_
  refine hK22 _ _ ?_
  replace F : Fr a 24 [(4, .pointer (some qa10)), (6, .pointer (some qa40)), (7, .bool ((ob23.under.f a6).isSome))] := F.sub ⟨rfl, rfl, rfl, trivial⟩
  refine wp_seq_k fun K48 hK48 => ?_
  refine wp_seq_k fun K49 hK49 => ?_
  refine reg ?_
  refine q_val F rfl rfl (by decide) (r_move F rfl) fun a F => ?_
  refine q_val F rfl rfl (by decide) (r_not F rfl) fun a F => ?_
  refine nil ?_
  refine hK49 _ _ ?_
  by_cases hb50 : ((ob23.under.f a6).isSome) = true
  ·replace H := (if_pos hb50).symm.trans H
   refine wp_cond_false ((F.ev rfl).trans (congrArg Value.bool (congrArg not hb50))) ?_
   refine wp_skip ?_
   refine hK48 _ _ ?_
   refine wp_seq_k fun K55 hK55 => ?_
   refine reg ?_
   refine q_val F rfl rfl (by decide) (r_loads (cs := [.int .i64 (((ob23.under.f a6).getD default).Number), .int .i64 (((ob23.under.f a6).getD default).From), .int .i64 (((ob23.under.f a6).getD default).To), .slice A35 (((ob23.under.f a6).getD default).Data).length C36]) F rfl ag_40 sz_40 h42) fun a F => ?_
   refine q_eff0 F rfl rfl (e_storeN0 (us := [.int .i64 (((ob23.under.f a6).getD default).Number), .int .i64 (((ob23.under.f a6).getD default).From), .int .i64 (((ob23.under.f a6).getD default).To), .slice A35 (((ob23.under.f a6).getD default).Data).length C36]) F rfl rfl sz_40 h12 (Nat.le_of_ble_eq_true rfl) (one_all rfl)) ?_
   rintro w56 a ⟨E57, h12, Z58⟩ F
   replace B := B.size Z58
   replace h3 := BG.ev h3 E57 (ne_pm bj4) (ne_pm bj5.2.1) ne_zm
   replace h29 := LK.ev h29 E57 (ne_pm bj5.2.1) ne_zm
   replace hat27 := AT.ev hat27 E57 (ne_pm bj4)
   replace h37 := SL.ev h37 E57 (ne_pm bj5.2.1) ne_zm
   replace h42 := AT.ev h42 E57 (ne_mm (by decide))
   replace E := E.trans E57 (fun x (q : x = m + 1) => Or.inr (le_col q))
   replace h12 : AT true (m + 1) c38 w56 qa10 [.int .i64 (((ob23.under.f a6).getD default).Number), .int .i64 (((ob23.under.f a6).getD default).From), .int .i64 (((ob23.under.f a6).getD default).To), .slice A35 (((ob23.under.f a6).getD default).Data).length C36] := h12
   refine q_val F rfl rfl (by decide) (r_assign F rfl) fun a F => ?_
   refine nil ?_
   refine hK55 _ _ ?_
   refine wp_ret ?_
   replace H := Option.some.inj H
   subst H
   refine outR2 F rfl ⟨_, rfl, lv_agg (cs := [.int .i64 (((ob23.under.f a6).getD default).Number), .int .i64 (((ob23.under.f a6).getD default).From), .int .i64 (((ob23.under.f a6).getD default).To), .slice A35 (((ob23.under.f a6).getD default).Data).length C36]) ag_40 sz_40 h12⟩ rfl ?_
   exact ⟨fun b_ => (fun x_ => if x_ < m then x_ else 0) (c38 b_), A35, C36, rfl, E.leave B0 (fun x_ => if x_ < m then x_ else 0) (by intro x_ hx_; show (if x_ < m then x_ else 0) = x_; ((repeat' split) <;> omega)), (fun b_ hb_ => by show (if (c38 b_) < m then (c38 b_) else 0) < m; ((repeat' split) <;> omega)), SL.rc h37 (fun k_ hk_ => by show (if (c38 k_) < m then (c38 k_) else 0) = _; rw [hk_]; ((repeat' split) <;> omega)) (fun k_ hk_ => by show (if (c38 k_) < m then (c38 k_) else 0) = _; rw [hk_]; ((repeat' split) <;> omega)), fun t x e1 e2 => by rw [e24] at e1; cases e1; exact ⟨ad26, p28, rfl, AT.rc hat27 (fun k_ hk_ => by show (if (c38 k_) < m then (c38 k_) else 0) = _; rw [hk_]; ((repeat' split) <;> omega)), (h29 x e2).rc (fun k_ hk_ => by show (if (c38 k_) < m then (c38 k_) else 0) = _; rw [hk_]; ((repeat' split) <;> omega)) (fun k_ hk_ => by show (if (c38 k_) < m then (c38 k_) else 0) = _; rw [hk_]; ((repeat' split) <;> omega)) bj5.1⟩⟩
  ·replace H := (if_neg hb50).symm.trans H
   refine wp_cond_true ((F.ev rfl).trans (congrArg Value.bool (congrArg not (bfalse hb50)))) ?_
   refine wp_seq_k fun K51 hK51 => ?_
   refine reg ?_
   refine q_val F rfl rfl (by decide) (r_build (v := .agg #[.int .i64 0, .int .i64 0, .int .i64 0, .slice none 0 0]) F [] (by exact trivial) (fun w => by kernel_rfl)) fun a F => ?_
   refine q_eff0 F rfl rfl (e_storeN0 (us := [.int .i64 0, .int .i64 0, .int .i64 0, .slice none 0 0]) F rfl rfl sz_40 h12 (Nat.le_of_ble_eq_true rfl) (one_all rfl)) ?_
   rintro w52 a ⟨E53, h12, Z54⟩ F
   replace B := B.size Z54
   replace h3 := BG.ev h3 E53 (ne_pm bj4) (ne_pm bj5.2.1) ne_zm
   replace h29 := LK.ev h29 E53 (ne_pm bj5.2.1) ne_zm
   replace hat27 := AT.ev hat27 E53 (ne_pm bj4)
   replace h37 := SL.ev h37 E53 (ne_pm bj5.2.1) ne_zm
   replace h42 := AT.ev h42 E53 (ne_mm (by decide))
   replace E := E.trans E53 (fun x (q : x = m + 1) => Or.inr (le_col q))
   replace h12 : AT true (m + 1) c38 w52 qa10 [.int .i64 0, .int .i64 0, .int .i64 0, .slice none 0 0] := h12
   refine q_val F rfl rfl (by decide) (r_assign F rfl) fun a F => ?_
   refine nil ?_
   refine hK51 _ _ ?_
   refine wp_ret ?_
   refine thenR ?_
   replace H := Option.some.inj H
   subst H
   refine outR2 F rfl ⟨_, rfl, lv_agg (cs := [.int .i64 0, .int .i64 0, .int .i64 0, .slice none 0 0]) ag_40 sz_40 h12⟩ rfl ?_
   exact ⟨fun b_ => (fun x_ => if x_ < m then x_ else 0) (c38 b_), none, 0, rfl, E.leave B0 (fun x_ => if x_ < m then x_ else 0) (by intro x_ hx_; show (if x_ < m then x_ else 0) = x_; ((repeat' split) <;> omega)), (fun b_ hb_ => by show (if (c38 b_) < m then (c38 b_) else 0) < m; ((repeat' split) <;> omega)), SL.nil, fun t x e1 e2 => by rw [e24] at e1; cases e1; rw [e2] at hb50; exact absurd rfl hb50⟩
theorem MO1at.ev {β : Type} {q : IntKind} {K : TypeId} {e : KO β} {mk : List Value → Value} {P : Program} {i : Nat} {c c' : Nat → Nat} {w w' : World} {p : Option Addr} {o : MkV β} {k : Int} {cs : List Value} {M : Nat → Prop} (h : MO1at q K e mk P i c w p o k cs) (E : Ev M c w c' w') (hi : ¬ M i) (h0 : ¬ M 0) : MO1at q K e mk P i c' w' p o k cs := by
 obtain ⟨h1, d, h2⟩ := h
 exact ⟨h1, d, h2.ev (sub_ev E hi) (fun hm => by omega) (fun hm => by omega) (fun hm => h0 hm.2)⟩
theorem FindAt.ev {j i : Nat} {c c' : Nat → Nat} {w w' : World} {p : Option Addr} {o : Option Bag} {k : Int} {cs : List Value} {M : Nat → Prop} (h : FindAt j i c w p o k cs) (E : Ev M c w c' w') (hj : ¬ M j) (hi : ¬ M i) (h0 : ¬ M 0) : FindAt j i c' w' p o k cs := fun t x e1 e2 => by
 obtain ⟨a, p1, h1, h2, h3⟩ := h t x e1 e2
 exact ⟨a, p1, h1, h2.ev E hj, h3.ev E hi h0⟩
theorem find_ok {b : Bag} {k : Int} {r : api_Letter × Int} (h : bag_Bag_find.f (some b) k = some r) (h0 : r.2 = 0) : b.under.f k = some r.1 := by
 unfold bag_Bag_find.f at h
 rw [if_neg (show ¬ ((some b : Option Bag).isNone = true) from fun q => Bool.noConfusion q), Option.bind_some] at h
 obtain ⟨_, h⟩ := ifN h
 by_cases c : (b.under.f k).isSome = true
 ·rw [if_pos c] at h
  obtain ⟨x, hx⟩ := Option.isSome_iff_exists.1 c
  obtain rfl := Option.some.inj h
  rw [hx]; rfl
 ·rw [if_neg c] at h
  obtain rfl := Option.some.inj h
  exact absurd h0 (show ¬ ((200 : Int) = 0) by decide)
set_option maxRecDepth 100000 in
set_option maxHeartbeats 4000000 in
theorem bag_Bag_Deliver.calls {m : Nat} {c0 : Nat → Nat} {w0 : World} {j4 : Nat} {j5 : Nat} {p2 : Option Addr} {a1 : Option Bag} {a6 : Int} (hm0 : 0 < m) (B0 : CB m c0 w0) (h3 : BG j4 j5 c0 w0 p2 a1) (bj4 : 0 < j4 ∧ j4 < m) (bj5 : 0 < j5 ∧ j5 < m ∧ j5 ≠ j4) (jr66 : Nat) (bjr66 : jr66 < m) (r : api_Letter × Int × (Option Bag)) (H : bag_Bag_Deliver.f a1 a6 = some r) : Calls Try.prog 18 #[.pointer p2, .int .i64 a6] w0 (fun e w_ => ∃ (c_ : Nat → Nat) (A0_ : Option Addr) (C0_ : Nat), e = .returned (.tuple #[.agg #[.int .i64 r.1.Number, .int .i64 r.1.From, .int .i64 r.1.To, .slice A0_ r.1.Data.length C0_], .int .i64 r.2.1]) ∧ Ev (fun x => (x = j4 ∨ x = j5)) c0 w0 c_ w_ ∧ CB m c_ w_ ∧ SL true (Kint .u8) jr66 0 c_ w_ A0_ C0_ r.1.Data ∧ BG j4 j5 c_ w_ p2 r.2.2) := by
 unfold bag_Bag_Deliver.f at H
 have B := B0.mono (show m ≤ m + 4 by omega)
 have E : Ev (fun x => (x = j4 ∨ x = j5) ∨ m ≤ x) c0 w0 c0 w0 := Ev.refl
 refine enter (N := 33) (l := [.pointer p2, .int .i64 a6]) Try.func18 rfl rfl (Nat.le_of_ble_eq_true rfl) fun a F => ?_
 refine wp_seq_k fun K7 hK7 => ?_
 refine reg ?_
 refine q_eff F rfl rfl (by decide) (e_alloc F zv_40 c0 (m + 1)) ?_
 rintro v w9 a ⟨c8, qa10, rfl, E11, h12, B13⟩ F
 replace B := B13 _ B (Nat.add_lt_add_left (by decide) m)
 replace h3 := BG.ev h3 E11 (fun q => q.elim) (fun q => q.elim) (fun q => q.elim)
 replace E := E.trans E11 (fun x q => q.elim)
 replace h12 : AT true (m + 1) c8 w9 qa10 [.int .i64 0, .int .i64 0, .int .i64 0, .slice none 0 0] := h12
 refine q_val F rfl rfl (by decide) (r_assign F rfl) fun a F => ?_
 refine nil ?_
 refine hK7 _ _ ?_
 refine wp_seq_k fun K15 hK15 => ?_
 refine reg ?_
 refine q_val F rfl rfl (by decide) (r_move F rfl) fun a F => ?_
 refine q_val F rfl rfl (by decide) (r_move F rfl) fun a F => ?_
 replace H := bind_some H
 obtain ⟨t16, q17, H⟩ := H
 refine q_call F rfl rfl (by decide) (r_call F Try.func36 rfl (by kernel_rfl) rfl) (bag_Bag_find.at_ (m := m + 4) (Nat.add_pos_left hm0 _) B h3 (by omega) ⟨bj5.1, by omega, bj5.2.2⟩ _ q17) ?_
 rintro e w19 ⟨c18, A22, C23, rfl, E20, B21, _, hfa_⟩
 refine ⟨_, rfl, fun a F => ?_⟩
 have B := B21
 replace h3 := BG.ev h3 E20 (fun q => q.elim) (fun q => q.elim) (fun q => q.elim)
 replace h12 := AT.ev h12 E20 (fun q => q.elim)
 replace E := E.trans E20 (fun x q => q.elim)
 refine q_val F rfl rfl (by decide) (r_move F rfl) fun a F => ?_
 refine q_val F rfl rfl (by decide) (r_extract F rfl rfl) fun a F => ?_
 refine q_val F rfl rfl (by decide) (r_extract F rfl rfl) fun a F => ?_
 refine q_eff F rfl rfl (by decide) (e_alloc F zv_40 c18 (m + 3)) ?_
 rintro v w27 a ⟨c26, qa28, rfl, E29, h30, B31⟩ F
 replace B := B31 _ B (Nat.add_lt_add_left (by decide) m)
 replace h3 := BG.ev h3 E29 (fun q => q.elim) (fun q => q.elim) (fun q => q.elim)
 replace h12 := AT.ev h12 E29 (fun q => q.elim)
 replace hfa_ := FindAt.ev hfa_ E29 (fun q => q.elim) (fun q => q.elim) (fun q => q.elim)
 replace E := E.trans E29 (fun x q => q.elim)
 replace h30 : AT true (m + 3) c26 w27 qa28 [.int .i64 0, .int .i64 0, .int .i64 0, .slice none 0 0] := h30
 refine q_eff0 F rfl rfl (e_storeN0 (us := [.int .i64 t16.1.Number, .int .i64 t16.1.From, .int .i64 t16.1.To, .slice A22 t16.1.Data.length C23]) F rfl rfl sz_40 h30 (Nat.le_of_ble_eq_true rfl) (one_all rfl)) ?_
 rintro w33 a ⟨E34, h30, Z35⟩ F
 replace B := B.size Z35
 replace h3 := BG.ev h3 E34 (ne_pm bj4.2) (ne_pm bj5.2.1) ne_zm
 replace h12 := AT.ev h12 E34 (ne_mm (by decide))
 replace hfa_ := FindAt.ev hfa_ E34 (ne_pm bj4.2) (ne_pm bj5.2.1) ne_zm
 replace E := E.trans E34 (fun x (q : x = m + 3) => Or.inr (le_col q))
 replace h30 : AT true (m + 3) c26 w33 qa28 [.int .i64 t16.1.Number, .int .i64 t16.1.From, .int .i64 t16.1.To, .slice A22 t16.1.Data.length C23] := h30
 refine q_val F rfl rfl (by decide) (r_assign F rfl) fun a F => ?_
 refine nil ?_
 refine hK15 _ _ ?_
 refine wp_seq_k fun K36 hK36 => ?_
 refine wp_seq_k fun K37 hK37 => ?_
 refine reg ?_
 refine q_val F rfl rfl (by decide) (r_move F rfl) fun a F => ?_
 refine q_val F rfl rfl (by decide) (r_neq F rfl rfl) fun a F => ?_
 refine nil ?_
 refine hK37 _ _ ?_
 replace F : Fr a 33 [(0, .pointer p2), (1, .int .i64 a6), (4, .pointer (some qa10)), (6, .pointer (some qa28)), (7, .int .i64 t16.2), (15, .bool (!decide (t16.2 = 0)))] := F.sub ⟨rfl, rfl, rfl, rfl, rfl, rfl, trivial⟩
 by_cases hb38 : t16.2 = 0
 ·replace H := (if_pos hb38).symm.trans H
  refine wp_cond_false ((F.ev rfl).trans (congrArg Value.bool (congrArg not (decide_eq_true hb38)))) ?_
  refine wp_skip ?_
  refine hK36 _ _ ?_
  refine wp_seq_k fun K43 hK43 => ?_
  refine reg ?_
  refine q_val F rfl rfl (by decide) (r_move F rfl) fun a F => ?_
  replace H := bind_some H
  obtain ⟨ob44, e45, H⟩ := H
  have hx_ := find_ok (r := t16) (by rw [← e45]; exact q17) hb38
  obtain ⟨ad47, p49, rfl, hat48, h50⟩ := hfa_ _ _ e45 hx_
  refine q_val F rfl rfl (by decide) (r_nil F rfl) fun a F => ?_
  refine q_val F rfl rfl (by decide) (r_fieldAddr F rfl ff_67_0) fun a F => ?_
  refine q_val F rfl rfl (by decide) (r_load F rfl ag_65 (AT.cell hat48 rfl)) fun a F => ?_
  refine q_val F rfl rfl (by decide) (r_move F rfl) fun a F => ?_
  replace H := ifN H
  obtain ⟨g52, H⟩ := H
  refine q_effv0 F rfl rfl (e_mapTake1 (zs := [m + 2]) (y0 := default) (ds := [.int .i64 0, .int .i64 0, .int .i64 0, .slice none 0 0]) F Try.underlying3 Try.underlying65 rfl rfl h50 hx_ (fun _ _ _ => ⟨none, 0, rfl, SL.nil⟩) rfl ⟨⟨by omega, by omega⟩, trivial⟩ g52) ?_
  rintro w53 a ⟨cz_, az_, bz_, E54, hr_, h55, Z56⟩ F
  replace E54 : Ev (fun k => k = j5) c26 _ cz_ _ := ⟨E54.os, E54.tape, E54.out, E54.size, fun k _ hm => az_ k hm, E54.blk⟩
  replace B := (bz_ _ ⟨Nat.add_lt_add_left (by decide) m, trivial⟩ B).size Z56
  obtain ⟨A0_, C0_, hcs_, h24⟩ := hr_
  simp only [List.cons.injEq, Value.slice.injEq, and_true, true_and] at hcs_
  obtain ⟨rfl, rfl⟩ := hcs_
  replace h24 : SL true (Kint .u8) (m + 2) 0 cz_ _ _ _ t16.1.Data := h24
  replace h12 := AT.ev h12 E54 (ne_mp bj5.2.1)
  replace h30 := AT.ev h30 E54 (ne_mp bj5.2.1)
  replace hat48 := AT.ev hat48 E54 (Ne.symm bj5.2.2)
  replace E := E.trans E54 (fun x (q : x = j5) => Or.inl (Or.inr (q)))
  replace h55 : ML j5 cz_ w53 p49 (MkV.del ob44.under a6) := h55
  refine nil ?_
  refine hK43 _ _ ?_
  replace F : Fr a 33 [(0, .pointer (some ad47)), (4, .pointer (some qa10)), (6, .pointer (some qa28))] := F.sub ⟨rfl, rfl, rfl, trivial⟩
  refine wp_seq_k fun K57 hK57 => ?_
  refine reg ?_
  refine q_val F rfl rfl (by decide) (r_move F rfl) fun a F => ?_
  refine q_val F rfl rfl (by decide) (r_nil F rfl) fun a F => ?_
  refine q_val F rfl rfl (by decide) (r_fieldAddr F rfl ff_67_2) fun a F => ?_
  refine q_val F rfl rfl (by decide) (r_fieldAddr2 F hat48 rfl ff_63_2) fun a F => ?_
  refine q_val F rfl rfl (by decide) (r_load F rfl ag_3 (AT.cell hat48 rfl)) fun a F => ?_
  refine q_val F rfl rfl (by decide) (r_add F rfl rfl) fun a F => ?_
  refine q_val F rfl rfl (by decide) (r_nil F rfl) fun a F => ?_
  refine q_val F rfl rfl (by decide) (r_fieldAddr F rfl ff_67_2) fun a F => ?_
  refine q_val F rfl rfl (by decide) (r_fieldAddr2 F hat48 rfl ff_63_2) fun a F => ?_
  refine q_eff0 F rfl rfl (e_store F rfl rfl sz_3 hat48 (Nat.le_of_ble_eq_true rfl) rfl) ?_
  rintro w58 a ⟨E59, hat48, Z60⟩ F
  replace B := B.size Z60
  replace h12 := AT.ev h12 E59 (ne_mp bj4.2)
  replace h24 := SL.ev h24 E59 (ne_mp bj4.2) (ne_z bj4.1)
  replace h30 := AT.ev h30 E59 (ne_mp bj4.2)
  replace h55 := ML.ev h55 E59 bj5.2.2 (ne_z bj4.1)
  replace E := E.trans E59 (fun x (q : x = j4) => Or.inl (Or.inl q))
  replace hat48 : AT true j4 cz_ w58 ad47 [.map (Option.map Addr.block p49), .int .i64 ob44.next, .int .i64 ob44.told.Sent, .int .i64 ob44.told.Twice, .int .i64 (IntKind.i64.wrap (ob44.told.Delivered + 1)), .int .i64 ob44.told.Dropped, .int .i64 ob44.told.Lost] := hat48
  refine nil ?_
  refine hK57 _ _ ?_
  replace F : Fr a 33 [(4, .pointer (some qa10)), (6, .pointer (some qa28))] := F.sub ⟨rfl, rfl, trivial⟩
  refine wp_seq_k fun K61 hK61 => ?_
  refine reg ?_
  refine q_val F rfl rfl (by decide) (r_loads (cs := [.int .i64 t16.1.Number, .int .i64 t16.1.From, .int .i64 t16.1.To, .slice A22 t16.1.Data.length C23]) F rfl ag_40 sz_40 h30) fun a F => ?_
  refine q_eff0 F rfl rfl (e_storeN0 (us := [.int .i64 t16.1.Number, .int .i64 t16.1.From, .int .i64 t16.1.To, .slice A22 t16.1.Data.length C23]) F rfl rfl sz_40 h12 (Nat.le_of_ble_eq_true rfl) (one_all rfl)) ?_
  rintro w62 a ⟨E63, h12, Z64⟩ F
  replace B := B.size Z64
  replace h24 := SL.ev h24 E63 (ne_mm (by decide)) ne_zm
  replace h30 := AT.ev h30 E63 (ne_mm (by decide))
  replace hat48 := AT.ev hat48 E63 (ne_pm bj4.2)
  replace h55 := ML.ev h55 E63 (ne_pm bj5.2.1) ne_zm
  replace E := E.trans E63 (fun x (q : x = m + 1) => Or.inr (le_col q))
  replace h12 : AT true (m + 1) cz_ w62 qa10 [.int .i64 t16.1.Number, .int .i64 t16.1.From, .int .i64 t16.1.To, .slice A22 t16.1.Data.length C23] := h12
  refine q_val F rfl rfl (by decide) (r_assign F rfl) fun a F => ?_
  refine nil ?_
  refine hK61 _ _ ?_
  refine wp_ret ?_
  have h65 : BG j4 j5 cz_ w62 (some ad47) (some (Bag.mk (MkV.del ob44.under a6) ob44.next (api_Traffic.mk ob44.told.Sent ob44.told.Twice (IntKind.i64.wrap (ob44.told.Delivered + 1)) ob44.told.Dropped ob44.told.Lost))) := BG.mk hat48 h55
  replace H := Option.some.inj H
  subst H
  refine outR2 F rfl ⟨_, rfl, lv_agg (cs := [.int .i64 t16.1.Number, .int .i64 t16.1.From, .int .i64 t16.1.To, .slice A22 t16.1.Data.length C23]) ag_40 sz_40 h12⟩ rfl ?_
  exact ⟨fun b_ => (fun x_ => if x_ = m + 2 then jr66 else if x_ < m then x_ else 0) (cz_ b_), A22, C23, rfl, E.leave B0 (fun x_ => if x_ = m + 2 then jr66 else if x_ < m then x_ else 0) (by intro x_ hx_; show (if x_ = m + 2 then jr66 else if x_ < m then x_ else 0) = x_; ((repeat' split) <;> omega)), (fun b_ hb_ => by show (if (cz_ b_) = m + 2 then jr66 else if (cz_ b_) < m then (cz_ b_) else 0) < m; ((repeat' split) <;> omega)), SL.rc h24 (fun k_ hk_ => by show (if (cz_ k_) = m + 2 then jr66 else if (cz_ k_) < m then (cz_ k_) else 0) = _; rw [hk_]; ((repeat' split) <;> omega)) (fun k_ hk_ => by show (if (cz_ k_) = m + 2 then jr66 else if (cz_ k_) < m then (cz_ k_) else 0) = _; rw [hk_]; ((repeat' split) <;> omega)), BG.rc h65 (fun k_ hk_ => by show (if (cz_ k_) = m + 2 then jr66 else if (cz_ k_) < m then (cz_ k_) else 0) = _; rw [hk_]; ((repeat' split) <;> omega)) (fun k_ hk_ => by show (if (cz_ k_) = m + 2 then jr66 else if (cz_ k_) < m then (cz_ k_) else 0) = _; rw [hk_]; ((repeat' split) <;> omega)) (fun k_ hk_ => by show (if (cz_ k_) = m + 2 then jr66 else if (cz_ k_) < m then (cz_ k_) else 0) = _; rw [hk_]; ((repeat' split) <;> omega)) (by omega)⟩
 ·replace H := (if_neg hb38).symm.trans H
  refine wp_cond_true ((F.ev rfl).trans (congrArg Value.bool (congrArg not (decide_eq_false hb38)))) ?_
  refine wp_seq_k fun K39 hK39 => ?_
  refine reg ?_
  refine q_val F rfl rfl (by decide) (r_build (v := .agg #[.int .i64 0, .int .i64 0, .int .i64 0, .slice none 0 0]) F [] (by exact trivial) (fun w => by kernel_rfl)) fun a F => ?_
  refine q_val F rfl rfl (by decide) (r_move F rfl) fun a F => ?_
  refine q_eff0 F rfl rfl (e_storeN0 (us := [.int .i64 0, .int .i64 0, .int .i64 0, .slice none 0 0]) F rfl rfl sz_40 h12 (Nat.le_of_ble_eq_true rfl) (one_all rfl)) ?_
  rintro w40 a ⟨E41, h12, Z42⟩ F
  replace B := B.size Z42
  replace h3 := BG.ev h3 E41 (ne_pm bj4.2) (ne_pm bj5.2.1) ne_zm
  replace h30 := AT.ev h30 E41 (ne_mm (by decide))
  replace E := E.trans E41 (fun x (q : x = m + 1) => Or.inr (le_col q))
  replace h12 : AT true (m + 1) c26 w40 qa10 [.int .i64 0, .int .i64 0, .int .i64 0, .slice none 0 0] := h12
  refine q_val F rfl rfl (by decide) (r_assign F rfl) fun a F => ?_
  refine nil ?_
  refine hK39 _ _ ?_
  refine wp_ret ?_
  refine thenR ?_
  replace H := Option.some.inj H
  subst H
  refine outR2 F rfl ⟨_, rfl, lv_agg (cs := [.int .i64 0, .int .i64 0, .int .i64 0, .slice none 0 0]) ag_40 sz_40 h12⟩ rfl ?_
  exact ⟨fun b_ => (fun x_ => if x_ = m + 2 then jr66 else if x_ < m then x_ else 0) (c26 b_), none, 0, rfl, E.leave B0 (fun x_ => if x_ = m + 2 then jr66 else if x_ < m then x_ else 0) (by intro x_ hx_; show (if x_ = m + 2 then jr66 else if x_ < m then x_ else 0) = x_; ((repeat' split) <;> omega)), (fun b_ hb_ => by show (if (c26 b_) = m + 2 then jr66 else if (c26 b_) < m then (c26 b_) else 0) < m; ((repeat' split) <;> omega)), SL.nil, BG.rc h3 (fun k_ hk_ => by show (if (c26 k_) = m + 2 then jr66 else if (c26 k_) < m then (c26 k_) else 0) = _; rw [hk_]; ((repeat' split) <;> omega)) (fun k_ hk_ => by show (if (c26 k_) = m + 2 then jr66 else if (c26 k_) < m then (c26 k_) else 0) = _; rw [hk_]; ((repeat' split) <;> omega)) (fun k_ hk_ => by show (if (c26 k_) = m + 2 then jr66 else if (c26 k_) < m then (c26 k_) else 0) = _; rw [hk_]; ((repeat' split) <;> omega)) (by omega)⟩
end Go.Proofs.Ytdlokohmdnkdoaa.G
namespace Go.Proofs.Ytdlokohmdnkdoaa.G
open Go Go.RowKit
set_option linter.unusedVariables false
set_option linter.unusedSimpArgs false
set_option maxRecDepth 100000
set_option maxHeartbeats 40000000
theorem bag_Bag_Len.calls {m : Nat} {c0 : Nat → Nat} {w0 : World} {j4 : Nat} {j5 : Nat} {p2 : Option Addr} {a1 : Option Bag} (hm0 : 0 < m) (B0 : CB m c0 w0) (h3 : BG j4 j5 c0 w0 p2 a1) (bj4 : j4 < m) (bj5 : 0 < j5 ∧ j5 < m ∧ j5 ≠ j4) (r : Int) (H : bag_Bag_Len.f a1 = some r) : Calls Try.prog 10 #[.pointer p2] w0 (fun e w_ => ∃ (c_ : Nat → Nat), e = .returned (.int .i64 r) ∧ Ev (fun x => False) c0 w0 c_ w_ ∧ CB m c_ w_) := by
 unfold bag_Bag_Len.f at H; have B := B0.mono (show m ≤ m + 1 by omega); have E : Ev (fun x => False ∨ m ≤ x) c0 w0 c0 w0 := Ev.refl; refine enter (N := 10) (l := [.pointer p2]) Try.func10 rfl rfl (nb rfl) fun a F => ?_; refine sr fun K6 hK6 => qa F fun a F => nil (hK6 _ _ ?_); refine sq fun K7 hK7 => ?_; refine sr fun K8 hK8 => qm F fun a F => ?_; refine qv F (r_peqlA F Try.underlying24 rfl rfl (BG.isNone h3)) fun a F => ?_; refine nil (hK8 _ _ ?_)
 by_cases hb9 : (Option.isNone a1) = true
 ·replace H := ip hb9 H; refine wct (fb F hb9) ?_; refine sr fun K10 hK10 => qa F fun a F => nil (hK10 _ _ ?_); refine wp_ret ?_; refine thenR ?_; obtain rfl := si H; refine out1 F rfl rfl ?_; exact ⟨cf (ct m) c0, rfl, E.lv B0, cfb⟩
 replace H := im hb9 H; refine wcf (fb F (bfalse hb9)) (wp_skip (hK7 _ _ ?_)); refine sr fun K11 hK11 => qm F fun a F => ?_; obtain ⟨ob12, e13, H⟩ := bind_some H; have z14 := h3; rw [e13] at z14; obtain ⟨ad15, p17, rfl, hat16, h18⟩ := BG.some z14; refine qi F fun a F => ?_; refine qf F ff_67_0 fun a F => ?_; refine ql F ag_65 hat16 fun a F => ?_; refine qv F (r_lenmap1 F h18 Try.underlying65 rfl) fun a F => ?_; refine qa F fun a F => nil (hK11 _ _ ?_); replace F : Fr a 10 [(2, .int .i64 ob12.under.len)] := F.sub ⟨rfl, trivial⟩; refine wp_ret ?_; obtain rfl := si H; refine out1 F rfl rfl ?_; exact ⟨cf (ct m) c0, rfl, E.lv B0, cfb⟩
theorem bag_Bag_put.calls {m : Nat} {c0 : Nat → Nat} {w0 : World} {j4 : Nat} {j5 : Nat} {j10 : Nat} {p2 : Option Addr} {A7 : Option Addr} {C8 : Nat} {a1 : Option Bag} {a6 : api_Letter} (hm0 : 0 < m) (B0 : CB m c0 w0) (h3 : BG j4 j5 c0 w0 p2 a1) (h9 : SL false (Kint .u8) j10 0 c0 w0 A7 C8 a6.Data) (bj4 : 0 < j4 ∧ j4 < m) (bj5 : 0 < j5 ∧ j5 < m ∧ j5 ≠ j4) (bj10 : j10 < m) (r : Int × (Option Bag)) (H : bag_Bag_put.f a1 a6 = some r) : Calls Try.prog 31 #[.pointer p2, .agg #[.int .i64 a6.Number, .int .i64 a6.From, .int .i64 a6.To, .slice A7 a6.Data.length C8]] w0 (fun e w_ => ∃ (c_ : Nat → Nat), e = .returned (.int .i64 r.1) ∧ Ev (fun x => (x = j4 ∨ x = j5)) c0 w0 c_ w_ ∧ CB m c_ w_ ∧ BG j4 j5 c_ w_ p2 r.2) := by
 unfold bag_Bag_put.f at H; have B := B0.mono (show m ≤ m + 3 by omega); have E : Ev (fun x => (x = j4 ∨ x = j5) ∨ m ≤ x) c0 w0 c0 w0 := Ev.refl; refine enter (N := 27) (l := [.pointer p2, .agg #[.int .i64 a6.Number, .int .i64 a6.From, .int .i64 a6.To, .slice A7 a6.Data.length C8]]) Try.func31 rfl rfl (nb rfl) fun a F => ?_; refine sr fun K11 hK11 => ?_; refine q_eff F rfl rfl (by decide) (e_box F (v := .agg #[.int .i64 a6.Number, .int .i64 a6.From, .int .i64 a6.To, .slice A7 a6.Data.length C8]) rfl c0 (m + 1)) ?_; rintro v w13 a ⟨c12, qa14, rfl, E15, h16, B17⟩ F; replace B := B17 _ B lm; replace h3 := h3.ev E15; replace h9 := h9.ev E15; replace E := E.n E15; replace h16 : AT _ _ _ _ _ [.int .i64 a6.Number, .int .i64 a6.From, .int .i64 a6.To, .slice A7 a6.Data.length C8] := h16; refine qa F fun a F => nil (hK11 _ _ ?_); refine sr fun K19 hK19 => qm F fun a F => ?_; obtain ⟨ob20, e21, H⟩ := bind_some H; have z22 := h3; rw [e21] at z22; obtain ⟨ad23, p25, rfl, hat24, h26⟩ := BG.some z22; refine qi F fun a F => ?_; refine qf F ff_67_1 fun a F => ?_; refine ql F ag_3 hat24 fun a F => ?_; refine qf F ff_40_0 fun a F => ?_; refine q_eff0 F rfl rfl (e_store F rfl rfl sz_3 h16 (nb rfl) rfl) ?_; rintro w28 a ⟨E29, h16, Z30⟩ F; replace B := B.size Z30; replace h9 := h9.ev E29 (ne_pm bj10) ne_zm; replace h26 := h26.ev E29 (ne_pm bj5.2.1) ne_zm; replace hat24 := hat24.ev E29 (ne_pm bj4.2); replace E := E.trans E29 lc1; replace h16 : AT _ _ _ _ _ [.int .i64 ob20.next, .int .i64 a6.From, .int .i64 a6.To, .slice A7 a6.Data.length C8] := h16; refine nil (hK19 _ _ ?_); refine sq fun K31 hK31 => ?_; refine regD (SB No c12 w28) 8 (.q 0 (.q 1 (.q 2 (.q 3 (.q 4 (.q 5 (.q 6 (.e 7 (.e 8 .nil))))))))) Try_hm (by decide +kernel) ?_; intro w32 w1_ w2_ w3_ w4_; have E33 : Ev No c12 w28 c12 w32 := Ev.same w1_ w2_ w3_ w4_; replace B := B.same w1_; have zh16 := h16; have zhat24 := hat24; have ER : Ev No c12 w28 c12 w32 := Ev.same w1_ w2_ w3_ w4_; replace h9 := h9.ev E33; replace E := E.n E33; refine dm F ER.sb fun a F => ?_; refine di F ER.sb fun a F => ?_; refine df F ff_67_0 ER.sb fun a F => ?_; refine dl F ag_65 zhat24 nq ER.sb fun a F => ?_; refine df F ff_40_0 ER.sb fun a F => ?_; refine dl F ag_3 zh16 nq ER.sb fun a F => ?_; refine dq F (fun wq hS => r_loads (cs := [.int .i64 ob20.next, .int .i64 a6.From, .int .i64 a6.To, .slice A7 a6.Data.length C8]) F rfl ag_40 sz_40 (AT.sb zh16 hS nq)) ER.sb fun a F => ?_; refine d_e ?_; obtain ⟨t34, q35, H⟩ := bind_some H; refine oc F Try.func32 (bag_own.calls (m := m + 3) (a1 := api_Letter.mk ob20.next a6.From a6.To a6.Data) (pl hm0) B h9 (Nat.lt_add_right _ bj10) (m + 2) lm _ q35) ?_; rintro e w37 ⟨c36, A40, C41, rfl, E38, B, h42⟩; refine rt fun a F => ?_; replace ER := ER.trans E38 nx; replace h16 := (h16.ev E33).ev E38; replace h26 := (h26.ev E33).ev E38; replace hat24 := (hat24.ev E33).ev E38; replace E := E.n E38; refine ⟨fun _ => ER.sb, ?_⟩; refine d_e ?_; replace H := ifN H; obtain ⟨g44, H⟩ := H; refine o_eff0 F rfl rfl rfl (e_mapUpdate1 (b := t34) (cs := [.int .i64 t34.Number, .int .i64 t34.From, .int .i64 t34.To, .slice A40 t34.Data.length C41]) (zs := [m + 2]) F Try.underlying3 Try.underlying65 rfl rfl rfl h26 ⟨A40, C41, rfl, h42⟩ rfl ⟨⟨(ne_mp bj5.2.1), (pl hm0)⟩, trivial⟩ ⟨trivial, trivial⟩ g44.1 (n_ok g44.2)) ?_
 rintro w45 a ⟨c49, e50, e51, E46, h47, Z48⟩ F; replace B := B.size Z48; replace h16 := h16.ev E46 (ne_mp bj5.2.1); replace hat24 := hat24.ev E46 (Ne.symm bj5.2.2); replace E := E.trans E46 (fun x (q : x = j5) => Or.inl (Or.inr (q))); replace h16 := AT.rc h16 (rn e50 ⟨mm, trivial⟩); replace hat24 := AT.rc hat24 (rn e50 ⟨(ne_pm bj4.2), trivial⟩); replace E : Ev (fun x => (x = j4 ∨ x = j5) ∨ m ≤ x) c0 w0 c49 w45 := E.recol B0 (fun b_ hb_ => e50 b_ ⟨(by omega), trivial⟩); replace B := B.rk e51 (Nat.lt_add_right _ bj5.2.1); replace h47 : ML j5 c49 w45 p25 (MkV.put ob20.under ob20.next t34) := h47; refine ⟨fun q => absurd rfl q, ?_⟩; refine d_nil ?_; refine hK31 _ _ ?_; replace F : Fr a 27 [(0, .pointer (some ad23)), (3, .pointer (some qa14))] := F.sub ⟨rfl, rfl, trivial⟩; refine sr fun K52 hK52 => qm F fun a F => ?_; refine qi F fun a F => ?_; refine qf F ff_67_1 fun a F => ?_; refine ql F ag_3 hat24 fun a F => ?_; refine qv F (r_add F rfl rfl) fun a F => ?_; refine qi F fun a F => ?_; refine qf F ff_67_1 fun a F => ?_; refine q_eff0 F rfl rfl (e_store F rfl rfl sz_3 hat24 (nb rfl) rfl) ?_; rintro w53 a ⟨E54, hat24, Z55⟩ F; replace h16 := h16.ev E54 (ne_mp bj4.2); replace h47 := h47.ev E54 bj5.2.2 (ne_z bj4.1); replace E := E.trans E54 (fun x (q : x = j4) => Or.inl (Or.inl q)); replace hat24 : AT true j4 c49 w53 ad23 [.map (Option.map Addr.block p25), .int .i64 (IntKind.i64.wrap (ob20.next + 1)), .int .i64 ob20.told.Sent, .int .i64 ob20.told.Twice, .int .i64 ob20.told.Delivered, .int .i64 ob20.told.Dropped, .int .i64 ob20.told.Lost] := hat24; refine nil (hK52 _ _ ?_); replace F : Fr a 27 [(3, .pointer (some qa14))] := F.sub ⟨rfl, trivial⟩; refine sr fun K56 hK56 => qf F ff_40_0 fun a F => ?_; refine ql F ag_3 h16 fun a F => ?_; refine qa F fun a F => nil (hK56 _ _ ?_); refine wp_ret ?_; have h57 : BG j4 j5 c49 w53 (some ad23) (some (Bag.mk (MkV.put ob20.under ob20.next t34) (IntKind.i64.wrap (ob20.next + 1)) ob20.told)) := BG.mk hat24 h47; obtain rfl := si H; refine out1 F rfl rfl ?_; exact ⟨cf (ct m) c49, rfl, E.lv B0, cfb, BG.rc h57 cfk cfk cfk (by omega)⟩
theorem bag_Bag_room.calls {m : Nat} {c0 : Nat → Nat} {w0 : World} {j4 : Nat} {j5 : Nat} {p2 : Option Addr} {a1 : Option Bag} (hm0 : 0 < m) (B0 : CB m c0 w0) (h3 : BG j4 j5 c0 w0 p2 a1) (bj4 : 0 < j4 ∧ j4 < m) (bj5 : 0 < j5 ∧ j5 < m ∧ j5 ≠ j4) (r : Int × (Option Bag)) (H : bag_Bag_room.f a1 = some r) : Calls Try.prog 30 #[.pointer p2] w0 (fun e w_ => ∃ (c_ : Nat → Nat), e = .returned (.int .i64 r.1) ∧ Ev (fun x => (x = j4)) c0 w0 c_ w_ ∧ CB m c_ w_ ∧ BG j4 j5 c_ w_ p2 r.2) := by
 unfold bag_Bag_room.f at H; have B := B0.mono (show m ≤ m + 1 by omega); have E : Ev (fun x => (x = j4) ∨ m ≤ x) c0 w0 c0 w0 := Ev.refl; refine enter (N := 18) (l := [.pointer p2]) Try.func30 rfl rfl (nb rfl) fun a F => ?_; refine sr fun K6 hK6 => qa F fun a F => nil (hK6 _ _ ?_); refine sq fun K7 hK7 => ?_; refine sr fun K8 hK8 => qm F fun a F => ?_; obtain ⟨ob9, e10, H⟩ := bind_some H; have z11 := h3; rw [e10] at z11; obtain ⟨ad12, p14, rfl, hat13, h15⟩ := BG.some z11; refine qi F fun a F => ?_; refine qf F ff_67_0 fun a F => ?_; refine ql F ag_65 hat13 fun a F => ?_; refine qv F (r_lenmap1 F h15 Try.underlying65 rfl) fun a F => ?_; refine qv F (r_geq F rfl rfl) fun a F => ?_; refine nil (hK8 _ _ ?_)
 by_cases hb17 : 65536 ≤ ob9.under.len
 ·replace H := ip hb17 H; refine wct (fb F (dt hb17)) ?_; refine sr fun K18 hK18 => qm F fun a F => ?_; refine qi F fun a F => ?_; refine qf F ff_67_2 fun a F => ?_; refine qv F (r_fieldAddr2 F hat13 rfl ff_63_4) fun a F => ?_; refine ql F ag_3 hat13 fun a F => ?_; refine qv F (r_add F rfl rfl) fun a F => ?_; refine qi F fun a F => ?_; refine qf F ff_67_2 fun a F => ?_; refine qv F (r_fieldAddr2 F hat13 rfl ff_63_4) fun a F => ?_; refine q_eff0 F rfl rfl (e_store F rfl rfl sz_3 hat13 (nb rfl) rfl) ?_; rintro w19 a ⟨E20, hat13, Z21⟩ F; replace h15 := h15.ev E20 bj5.2.2 (ne_z bj4.1); replace E := E.trans E20 (fun x (q : x = j4) => Or.inl (q)); replace hat13 : AT true j4 c0 w19 ad12 [.map (Option.map Addr.block p14), .int .i64 ob9.next, .int .i64 ob9.told.Sent, .int .i64 ob9.told.Twice, .int .i64 ob9.told.Delivered, .int .i64 ob9.told.Dropped, .int .i64 (IntKind.i64.wrap (ob9.told.Lost + 1))] := hat13; refine nil (hK18 _ _ ?_); replace F : Fr a 18 [] := F.sub trivial; refine sr fun K22 hK22 => qa F fun a F => nil (hK22 _ _ ?_); refine wp_ret ?_; refine thenR ?_; have h23 : BG j4 j5 c0 w19 (some ad12) (some (Bag.mk ob9.under ob9.next (api_Traffic.mk ob9.told.Sent ob9.told.Twice ob9.told.Delivered ob9.told.Dropped (IntKind.i64.wrap (ob9.told.Lost + 1))))) := BG.mk hat13 h15; obtain rfl := si H; refine out1 F rfl rfl ?_; exact ⟨cf (ct m) c0, rfl, E.lv B0, cfb, BG.rc h23 cfk cfk cfk (by omega)⟩
 replace H := im hb17 H; refine wcf (fb F (dz hb17)) (wp_skip (hK7 _ _ ?_)); replace F : Fr a 18 [] := F.sub trivial; refine sr fun K24 hK24 => qa F fun a F => nil (hK24 _ _ ?_); refine wp_ret ?_; obtain rfl := si H; refine out1 F rfl rfl ?_; exact ⟨cf (ct m) c0, rfl, E.lv B0, cfb, BG.rc h3 cfk cfk cfk (by omega)⟩
theorem bag_Bag_Send.calls {m : Nat} {c0 : Nat → Nat} {w0 : World} {j4 : Nat} {j5 : Nat} {j12 : Nat} {p2 : Option Addr} {A9 : Option Addr} {C10 : Nat} {a1 : Option Bag} {a6 : Int} {a7 : Int} {a8 : List Int} (hm0 : 0 < m) (B0 : CB m c0 w0) (h3 : BG j4 j5 c0 w0 p2 a1) (h11 : SL false (Kint .u8) j12 0 c0 w0 A9 C10 a8) (bj4 : 0 < j4 ∧ j4 < m) (bj5 : 0 < j5 ∧ j5 < m ∧ j5 ≠ j4) (bj12 : j12 < m ∧ j12 ≠ j4 ∧ j12 ≠ j5) (r : Int × Int × (Option Bag)) (H : bag_Bag_Send.f a1 a6 a7 a8 = some r) : Calls Try.prog 12 #[.pointer p2, .int .i64 a6, .int .i64 a7, .slice A9 a8.length C10] w0 (fun e w_ => ∃ (c_ : Nat → Nat), e = .returned (.tuple #[.int .i64 r.1, .int .i64 r.2.1]) ∧ Ev (fun x => (x = j4 ∨ x = j5)) c0 w0 c_ w_ ∧ CB m c_ w_ ∧ BG j4 j5 c_ w_ p2 r.2.2) := by
 unfold bag_Bag_Send.f at H; have B := B0.mono (show m ≤ m + 1 by omega); have E : Ev (fun x => (x = j4 ∨ x = j5) ∨ m ≤ x) c0 w0 c0 w0 := Ev.refl; refine enter (N := 45) (l := [.pointer p2, .int .i64 a6, .int .i64 a7, .slice A9 a8.length C10]) Try.func12 rfl rfl (nb rfl) fun a F => ?_; refine sr fun K13 hK13 => qa F fun a F => qa F fun a F => nil (hK13 _ _ ?_); refine sq fun K14 hK14 => ?_; refine wp_block ?_; refine sr fun K15 hK15 => qm F fun a F => ?_; refine qv F (r_peqlA F Try.underlying24 rfl rfl (BG.isNone h3)) fun a F => ?_; refine qa F fun a F => nil (hK15 _ _ ?_)
 by_cases hb16 : (Option.isNone a1) = true
 ·replace H := ip hb16 H; refine wct (fb F hb16) ?_; refine sr fun K17 hK17 => qa F fun a F => qa F fun a F => nil (hK17 _ _ ?_); refine wp_ret ?_; refine inbR ?_; refine thenR ?_; obtain rfl := si H; refine out2 F rfl rfl rfl ?_; exact ⟨cf (ct m) c0, rfl, E.lv B0, cfb, BG.rc h3 cfk cfk cfk (by omega)⟩
 replace H := im hb16 H; refine wcf (fb F (bfalse hb16)) ?_; refine sq fun K18 hK18 => ?_; have J21 : ∀ (c22 : Nat → Nat) (w23 : World) (a : Act) (b20 : Bool), Fr a 45 [(0, .pointer p2), (1, .int .i64 a6), (2, .int .i64 a7), (3, .slice A9 a8.length C10), (14, .bool b20)] → Ev (fun x => (x = j4 ∨ x = j5) ∨ m ≤ x) c0 w0 c22 w23 → CB (m + 1) c22 w23 → BG j4 j5 c22 w23 p2 a1 → SL false (Kint .u8) j12 0 c22 w23 A9 C10 a8 → bag_Bag_Send.j1 a1 a6 a7 a8 b20 = some r → K18 a w23 := by
  intro c22 w23 a b20 F E B h3 h11 H; unfold bag_Bag_Send.j1 at H; refine hK18 _ _ ?_
  by_cases hb24 : b20 = true
  ·replace H := ip hb24 H; refine wct (fb F hb24) ?_; refine sr fun K25 hK25 => qa F fun a F => qa F fun a F => nil (hK25 _ _ ?_); refine wp_ret ?_; refine inbR ?_; refine thenR ?_; obtain rfl := si H; refine out2 F rfl rfl rfl ?_; exact ⟨cf (ct m) c22, rfl, E.lv B0, cfb, BG.rc h3 cfk cfk cfk (by omega)⟩
  replace H := im hb24 H; refine wcf (fb F (bfalse hb24)) ?_; refine sr fun K26 hK26 => qm F fun a F => ?_; refine qv F (r_lensl F Try.underlying27 rfl) fun a F => ?_; refine qv F (r_gtr F rfl rfl) fun a F => ?_; refine qa F fun a F => nil (hK26 _ _ ?_)
  by_cases hb27 : 524288 < (a8.length : Int)
  ·replace H := ip hb27 H; refine wct (fb F (dt hb27)) ?_; refine sr fun K28 hK28 => qa F fun a F => qa F fun a F => nil (hK28 _ _ ?_); replace F : Fr a 45 [(8, .int .i64 0), (9, .int .i64 3)] := F.sub ⟨rfl, rfl, trivial⟩; refine wp_ret ?_; refine inbR ?_; refine thenR ?_; obtain rfl := si H; refine out2 F rfl rfl rfl ?_; exact ⟨cf (ct m) c22, rfl, E.lv B0, cfb, BG.rc h3 cfk cfk cfk (by omega)⟩
  replace H := im hb27 H; refine wcf (fb F (dz hb27)) (wp_skip (hK14 _ _ ?_)); refine sq fun K29 hK29 => ?_; refine sr fun K30 hK30 => qm F fun a F => ?_; obtain ⟨t31, q32, H⟩ := bind_some H; refine qc F Try.func30 (bag_Bag_room.calls (m := m + 1) (pl hm0) B h3 ⟨bj4.1, (Nat.lt_add_right _ bj4.2)⟩ ⟨bj5.1, (Nat.lt_add_right _ bj5.2.1), bj5.2.2⟩ _ q32) ?_; rintro e w34 ⟨c33, rfl, E35, B, h37⟩; refine rt fun a F => ?_; replace h11 := h11.ev E35 bj12.2.1 (ne_z bj4.1); replace E := E.trans E35 (fun x (q : x = j4) => Or.inl (Or.inl q)); refine qa F fun a F => nil (hK30 _ _ ?_); refine sr fun K39 hK39 => qm F fun a F => ?_; refine qv F (r_neq F rfl rfl) fun a F => ?_; refine nil (hK39 _ _ ?_); replace F : Fr a 45 [(0, .pointer p2), (1, .int .i64 a6), (2, .int .i64 a7), (3, .slice A9 a8.length C10), (10, .int .i64 t31.1), (28, .bool (!decide (t31.1 = 0)))] := F.sub ⟨rfl, rfl, rfl, rfl, rfl, rfl, trivial⟩
  by_cases hb40 : t31.1 = 0
  ·replace H := ip hb40 H; refine wcf (fb F (congrArg not (dt hb40))) (wp_skip (hK29 _ _ ?_)); refine sr fun K42 hK42 => qm F fun a F => ?_; obtain ⟨ob43, e44, H⟩ := bind_some H; have z45 := h37; rw [e44] at z45; obtain ⟨ad46, p48, rfl, hat47, h49⟩ := BG.some z45; refine qi F fun a F => ?_; refine qf F ff_67_2 fun a F => ?_; refine qv F (r_fieldAddr2 F hat47 rfl ff_63_0) fun a F => ?_; refine ql F ag_3 hat47 fun a F => ?_; refine qv F (r_add F rfl rfl) fun a F => ?_; refine qi F fun a F => ?_; refine qf F ff_67_2 fun a F => ?_; refine qv F (r_fieldAddr2 F hat47 rfl ff_63_0) fun a F => ?_; refine q_eff0 F rfl rfl (e_store F rfl rfl sz_3 hat47 (nb rfl) rfl) ?_; rintro w51 a ⟨E52, hat47, Z53⟩ F; replace B := B.size Z53; replace h11 := h11.ev E52 bj12.2.1 (ne_z bj4.1); replace h49 := h49.ev E52 bj5.2.2 (ne_z bj4.1); replace E := E.trans E52 (fun x (q : x = j4) => Or.inl (Or.inl q)); replace hat47 : AT true j4 c33 w51 ad46 [.map (Option.map Addr.block p48), .int .i64 ob43.next, .int .i64 (IntKind.i64.wrap (ob43.told.Sent + 1)), .int .i64 ob43.told.Twice, .int .i64 ob43.told.Delivered, .int .i64 ob43.told.Dropped, .int .i64 ob43.told.Lost] := hat47; refine nil (hK42 _ _ ?_); replace F : Fr a 45 [(0, .pointer (some ad46)), (1, .int .i64 a6), (2, .int .i64 a7), (3, .slice A9 a8.length C10)] := F.sub ⟨rfl, rfl, rfl, rfl, trivial⟩; refine sr fun K54 hK54 => qm F fun a F => qm F fun a F => qm F fun a F => qm F fun a F => ?_; refine qv F (r_build (v := .agg #[.int .i64 0, .int .i64 a6, .int .i64 a7, .slice A9 a8.length C10]) F [(1, .int .i64 a6), (2, .int .i64 a7), (3, .slice A9 a8.length C10)] (by exact ⟨rfl, rfl, rfl, rfl, rfl, rfl, trivial⟩) (fun w => by kernel_rfl)) fun a F => ?_; have h55 : BG j4 j5 c33 w51 (some ad46) (some (Bag.mk ob43.under ob43.next (api_Traffic.mk (IntKind.i64.wrap (ob43.told.Sent + 1)) ob43.told.Twice ob43.told.Delivered ob43.told.Dropped ob43.told.Lost))) := BG.mk hat47 h49; obtain ⟨t56, q57, H⟩ := bind_some H; refine qc F Try.func31 (bag_Bag_put.calls (m := m + 1) (a6 := api_Letter.mk 0 a6 a7 a8) (pl hm0) B h55 h11 ⟨bj4.1, (Nat.lt_add_right _ bj4.2)⟩ ⟨bj5.1, (Nat.lt_add_right _ bj5.2.1), bj5.2.2⟩ (Nat.lt_add_right _ bj12.1) _ q57) ?_; rintro e w59 ⟨c58, rfl, E60, B, h62⟩; refine rt fun a F => ?_; replace E := E.trans E60 (fun x (q : x = j4 ∨ x = j5) => q.elim (fun q => Or.inl (Or.inl q)) (fun q => Or.inl (Or.inr (q)))); refine qa F fun a F => qa F fun a F => nil (hK54 _ _ ?_); replace F : Fr a 45 [(8, .int .i64 t56.1), (9, .int .i64 0)] := F.sub ⟨rfl, rfl, trivial⟩; refine wp_ret ?_; obtain rfl := si H; refine out2 F rfl rfl rfl ?_; exact ⟨cf (ct m) c58, rfl, E.lv B0, cfb, BG.rc h62 cfk cfk cfk (by omega)⟩
  replace H := im hb40 H; refine wct (fb F (congrArg not (dz hb40))) ?_; refine sr fun K41 hK41 => qm F fun a F => qa F fun a F => qa F fun a F => nil (hK41 _ _ ?_); refine wp_ret ?_; refine thenR ?_; obtain rfl := si H; refine out2 F rfl rfl rfl ?_; exact ⟨cf (ct m) c33, rfl, E.lv B0, cfb, BG.rc h37 cfk cfk cfk (by omega)⟩
 refine reg ?_; refine qm F fun a F => ?_; refine qv F (r_lss F rfl rfl) fun a F => ?_; refine qm F fun a F => ?_
 by_cases hb19 : a6 < 0
 ·replace H := ip hb19 H; refine qn F (dt hb19) fun a F => qn F (dt hb19) fun a F => ?_; refine qv F (r_pick_t F rfl (dt hb19) rfl) fun a F => ?_; refine qa F fun a F => nil ?_; exact J21 c0 w0 a true (F.sub ⟨rfl, rfl, rfl, rfl, rfl, trivial⟩) E B h3 h11 H
 replace H := im hb19 H; refine qy F (dz hb19) ?_; refine qm F fun a F => ?_; refine qy F (dz hb19) ?_; refine qv F (r_lss F rfl rfl) fun a F => ?_; refine qv F (r_pick_f F rfl (dz hb19) rfl) fun a F => ?_; refine qa F fun a F => nil ?_; exact J21 c0 w0 a (decide (a7 < 0)) (F.sub ⟨rfl, rfl, rfl, rfl, rfl, trivial⟩) E B h3 h11 H
theorem bag_Bag_find.calls {m : Nat} {c0 : Nat → Nat} {w0 : World} {j4 : Nat} {j5 : Nat} {p2 : Option Addr} {a1 : Option Bag} {a6 : Int} (hm0 : 0 < m) (B0 : CB m c0 w0) (h3 : BG j4 j5 c0 w0 p2 a1) (bj4 : j4 < m) (bj5 : 0 < j5 ∧ j5 < m ∧ j5 ≠ j4) (r : api_Letter × Int) (H : bag_Bag_find.f a1 a6 = some r) : Calls Try.prog 36 #[.pointer p2, .int .i64 a6] w0 (fun e w_ => ∃ (c_ : Nat → Nat) (A0_ : Option Addr) (C0_ : Nat), e = .returned (.tuple #[.agg #[.int .i64 r.1.Number, .int .i64 r.1.From, .int .i64 r.1.To, .slice A0_ r.1.Data.length C0_], .int .i64 r.2]) ∧ Ev (fun x => False) c0 w0 c_ w_ ∧ CB m c_ w_ ∧ SL false (Kint .u8) j5 0 c_ w_ A0_ C0_ r.1.Data) := by
 unfold bag_Bag_find.f at H; have B := B0.mono (show m ≤ m + 3 by omega); have E : Ev (fun x => False ∨ m ≤ x) c0 w0 c0 w0 := Ev.refl; refine enter (N := 24) (l := [.pointer p2, .int .i64 a6]) Try.func36 rfl rfl (nb rfl) fun a F => ?_; refine sr fun K7 hK7 => ?_; refine q_eff F rfl rfl (by decide) (e_alloc F zv_40 c0 (m + 1)) ?_; rintro v w9 a ⟨c8, qa10, rfl, E11, h12, B13⟩ F; replace B := B13 _ B lm; replace h3 := h3.ev E11; replace E := E.n E11; replace h12 : AT _ _ _ _ _ [.int .i64 0, .int .i64 0, .int .i64 0, .slice none 0 0] := h12; refine qa F fun a F => nil (hK7 _ _ ?_); refine sq fun K15 hK15 => ?_; refine sr fun K16 hK16 => qm F fun a F => ?_; refine qv F (r_peqlA F Try.underlying24 rfl rfl (BG.isNone h3)) fun a F => ?_; refine nil (hK16 _ _ ?_)
 by_cases hb17 : (Option.isNone a1) = true
 ·replace H := ip hb17 H; refine wct (fb F hb17) ?_; refine sr fun K18 hK18 => ?_; refine qv F (r_build (v := .agg #[.int .i64 0, .int .i64 0, .int .i64 0, .slice none 0 0]) F [] (by exact trivial) (fun w => by kernel_rfl)) fun a F => ?_; refine q_eff0 F rfl rfl (e_storeN0 (us := [.int .i64 0, .int .i64 0, .int .i64 0, .slice none 0 0]) F rfl rfl sz_40 h12 (nb rfl) (one_all rfl)) ?_; rintro w19 a ⟨E20, h12, Z21⟩ F; replace E := E.trans E20 lc1; replace h12 : AT _ _ _ _ _ [.int .i64 0, .int .i64 0, .int .i64 0, .slice none 0 0] := h12; refine qa F fun a F => nil (hK18 _ _ ?_); refine wp_ret ?_; refine thenR ?_; obtain rfl := si H; refine outR2 F rfl ⟨_, rfl, lv_agg (cs := [.int .i64 0, .int .i64 0, .int .i64 0, .slice none 0 0]) ag_40 sz_40 h12⟩ rfl ?_; exact ⟨cf (ct m) c8, none, 0, rfl, E.lv B0, cfb, SL.nil⟩
 replace H := im hb17 H; refine wcf (fb F (bfalse hb17)) (wp_skip (hK15 _ _ ?_)); refine sr fun K22 hK22 => qm F fun a F => ?_; obtain ⟨ob23, e24, H⟩ := bind_some H; have z25 := h3; rw [e24] at z25; obtain ⟨ad26, p28, rfl, hat27, h29⟩ := BG.some z25; refine qi F fun a F => ?_; refine qf F ff_67_0 fun a F => ?_; refine ql F ag_65 hat27 fun a F => ?_; refine qm F fun a F => ?_; replace H := ifN H; obtain ⟨g31, H⟩ := H; obtain ⟨cs32, r33, hl34⟩ := MO1see (t := 65) (x0 := (default : api_Letter)) (zcs := [.int .i64 0, .int .i64 0, .int .i64 0, .slice none 0 0]) h29 Try.underlying3 Try.underlying65 (fun w => by kernel_rfl) ⟨none, 0, rfl, SL.nil⟩ g31; replace r33 := KO_api_Letter.v r33; obtain ⟨A35, C36, rfl, h37⟩ := r33; replace h37 := SL.fl (i' := 0) h37 (fun q => q); refine qv F (r_lookK F rfl rfl hl34) fun a F => ?_; refine qm F fun a F => ?_; refine qx F fun a F => ?_; refine qx F fun a F => ?_; refine q_eff F rfl rfl (by decide) (e_alloc F zv_40 c8 (m + 2)) ?_; rintro v w39 a ⟨c38, qa40, rfl, E41, h42, B43⟩ F; replace B := B43 _ B lm; replace h37 := h37.ev E41; replace E := E.n E41; replace h42 : AT _ _ _ _ _ [.int .i64 0, .int .i64 0, .int .i64 0, .slice none 0 0] := h42; refine q_eff0 F rfl rfl (e_storeN0 (us := [.int .i64 (((ob23.under.f a6).getD default).Number), .int .i64 (((ob23.under.f a6).getD default).From), .int .i64 (((ob23.under.f a6).getD default).To), .slice A35 (((ob23.under.f a6).getD default).Data).length C36]) F rfl rfl sz_40 h42 (nb rfl) (one_all rfl)) ?_; rintro w45 a ⟨E46, h42, Z47⟩ F; replace h12 := (h12.ev E41).ev E46; replace h37 := h37.ev E46 (ne_pm bj5.2.1) ne_zm; replace E := E.trans E46 lc1; replace h42 : AT _ _ _ _ _ [.int .i64 (((ob23.under.f a6).getD default).Number), .int .i64 (((ob23.under.f a6).getD default).From), .int .i64 (((ob23.under.f a6).getD default).To), .slice A35 (((ob23.under.f a6).getD default).Data).length C36] := h42; refine qa F fun a F => nil (hK22 _ _ ?_); replace F : Fr a 24 [(4, .pointer (some qa10)), (6, .pointer (some qa40)), (7, .bool ((ob23.under.f a6).isSome))] := F.sub ⟨rfl, rfl, rfl, trivial⟩; refine sq fun K48 hK48 => ?_; refine sr fun K49 hK49 => qm F fun a F => ?_; refine qv F (r_not F rfl) fun a F => ?_; refine nil (hK49 _ _ ?_)
 by_cases hb50 : ((ob23.under.f a6).isSome) = true
 ·replace H := ip hb50 H; refine wcf (fb F (congrArg not hb50)) (wp_skip (hK48 _ _ ?_)); refine sr fun K55 hK55 => ?_; refine qv F (r_loads (cs := [.int .i64 (((ob23.under.f a6).getD default).Number), .int .i64 (((ob23.under.f a6).getD default).From), .int .i64 (((ob23.under.f a6).getD default).To), .slice A35 (((ob23.under.f a6).getD default).Data).length C36]) F rfl ag_40 sz_40 h42) fun a F => ?_; refine q_eff0 F rfl rfl (e_storeN0 (us := [.int .i64 (((ob23.under.f a6).getD default).Number), .int .i64 (((ob23.under.f a6).getD default).From), .int .i64 (((ob23.under.f a6).getD default).To), .slice A35 (((ob23.under.f a6).getD default).Data).length C36]) F rfl rfl sz_40 h12 (nb rfl) (one_all rfl)) ?_; rintro w56 a ⟨E57, h12, Z58⟩ F; replace h37 := h37.ev E57 (ne_pm bj5.2.1) ne_zm; replace E := E.trans E57 lc1; replace h12 : AT _ _ _ _ _ [.int .i64 (((ob23.under.f a6).getD default).Number), .int .i64 (((ob23.under.f a6).getD default).From), .int .i64 (((ob23.under.f a6).getD default).To), .slice A35 (((ob23.under.f a6).getD default).Data).length C36] := h12; refine qa F fun a F => nil (hK55 _ _ ?_); refine wp_ret ?_; obtain rfl := si H; refine outR2 F rfl ⟨_, rfl, lv_agg (cs := [.int .i64 (((ob23.under.f a6).getD default).Number), .int .i64 (((ob23.under.f a6).getD default).From), .int .i64 (((ob23.under.f a6).getD default).To), .slice A35 (((ob23.under.f a6).getD default).Data).length C36]) ag_40 sz_40 h12⟩ rfl ?_; exact ⟨cf (ct m) c38, A35, C36, rfl, E.lv B0, cfb, SL.rc h37 cfk cfk⟩
 replace H := im hb50 H; refine wct (fb F (congrArg not (bfalse hb50))) ?_; refine sr fun K51 hK51 => ?_; refine qv F (r_build (v := .agg #[.int .i64 0, .int .i64 0, .int .i64 0, .slice none 0 0]) F [] (by exact trivial) (fun w => by kernel_rfl)) fun a F => ?_; refine q_eff0 F rfl rfl (e_storeN0 (us := [.int .i64 0, .int .i64 0, .int .i64 0, .slice none 0 0]) F rfl rfl sz_40 h12 (nb rfl) (one_all rfl)) ?_; rintro w52 a ⟨E53, h12, Z54⟩ F; replace E := E.trans E53 lc1; replace h12 : AT _ _ _ _ _ [.int .i64 0, .int .i64 0, .int .i64 0, .slice none 0 0] := h12; refine qa F fun a F => nil (hK51 _ _ ?_); refine wp_ret ?_; refine thenR ?_; obtain rfl := si H; refine outR2 F rfl ⟨_, rfl, lv_agg (cs := [.int .i64 0, .int .i64 0, .int .i64 0, .slice none 0 0]) ag_40 sz_40 h12⟩ rfl ?_; exact ⟨cf (ct m) c38, none, 0, rfl, E.lv B0, cfb, SL.nil⟩
theorem bag_Bag_Twice.calls {m : Nat} {c0 : Nat → Nat} {w0 : World} {j4 : Nat} {j5 : Nat} {p2 : Option Addr} {a1 : Option Bag} {a6 : Int} (hm0 : 0 < m) (B0 : CB m c0 w0) (h3 : BG j4 j5 c0 w0 p2 a1) (bj4 : 0 < j4 ∧ j4 < m) (bj5 : 0 < j5 ∧ j5 < m ∧ j5 ≠ j4) (r : Int × Int × (Option Bag)) (H : bag_Bag_Twice.f a1 a6 = some r) : Calls Try.prog 17 #[.pointer p2, .int .i64 a6] w0 (fun e w_ => ∃ (c_ : Nat → Nat), e = .returned (.tuple #[.int .i64 r.1, .int .i64 r.2.1]) ∧ Ev (fun x => (x = j4 ∨ x = j5)) c0 w0 c_ w_ ∧ CB m c_ w_ ∧ BG j4 j5 c_ w_ p2 r.2.2) := by
 unfold bag_Bag_Twice.f at H; have B := B0.mono (show m ≤ m + 2 by omega); have E : Ev (fun x => (x = j4 ∨ x = j5) ∨ m ≤ x) c0 w0 c0 w0 := Ev.refl; refine enter (N := 35) (l := [.pointer p2, .int .i64 a6]) Try.func17 rfl rfl (nb rfl) fun a F => ?_; refine sr fun K7 hK7 => qa F fun a F => qa F fun a F => nil (hK7 _ _ ?_); refine sr fun K8 hK8 => qm F fun a F => qm F fun a F => ?_; obtain ⟨t9, q10, H⟩ := bind_some H; refine qc F Try.func36 (bag_Bag_find.calls (m := m + 2) (pl hm0) B h3 (Nat.lt_add_right _ bj4.2) ⟨bj5.1, (Nat.lt_add_right _ bj5.2.1), bj5.2.2⟩ _ q10) ?_; rintro e w12 ⟨c11, A15, C16, rfl, E13, B, h17⟩; refine rt fun a F => ?_; replace E := E.n E13; refine qm F fun a F => ?_; refine qx F fun a F => ?_; refine qx F fun a F => ?_; refine q_eff F rfl rfl (by decide) (e_alloc F zv_40 c11 (m + 1)) ?_; rintro v w20 a ⟨c19, qa21, rfl, E22, h23, B24⟩ F; replace B := B24 _ B lm; replace h3 := (h3.ev E13).ev E22; replace h17 := h17.ev E22; replace E := E.n E22; replace h23 : AT _ _ _ _ _ [.int .i64 0, .int .i64 0, .int .i64 0, .slice none 0 0] := h23; refine q_eff0 F rfl rfl (e_storeN0 (us := [.int .i64 t9.1.Number, .int .i64 t9.1.From, .int .i64 t9.1.To, .slice A15 t9.1.Data.length C16]) F rfl rfl sz_40 h23 (nb rfl) (one_all rfl)) ?_; rintro w26 a ⟨E27, h23, Z28⟩ F; replace B := B.size Z28; replace h3 := h3.ev E27 (ne_pm bj4.2) (ne_pm bj5.2.1) ne_zm; replace h17 := h17.ev E27 (ne_pm bj5.2.1) ne_zm; replace E := E.trans E27 lc1; replace h23 : AT _ _ _ _ _ [.int .i64 t9.1.Number, .int .i64 t9.1.From, .int .i64 t9.1.To, .slice A15 t9.1.Data.length C16] := h23; refine qa F fun a F => nil (hK8 _ _ ?_); replace F : Fr a 35 [(0, .pointer p2), (6, .pointer (some qa21)), (7, .int .i64 t9.2)] := F.sub ⟨rfl, rfl, rfl, trivial⟩; refine sq fun K29 hK29 => ?_; refine sr fun K30 hK30 => qm F fun a F => ?_; refine qv F (r_neq F rfl rfl) fun a F => ?_; refine nil (hK30 _ _ ?_)
 by_cases hb31 : t9.2 = 0
 ·replace H := ip hb31 H; refine wcf (fb F (congrArg not (dt hb31))) (wp_skip (hK29 _ _ ?_)); refine sq fun K33 hK33 => ?_; refine sr fun K34 hK34 => qm F fun a F => ?_; obtain ⟨t35, q36, H⟩ := bind_some H; refine qc F Try.func30 (bag_Bag_room.calls (m := m + 2) (pl hm0) B h3 ⟨bj4.1, (Nat.lt_add_right _ bj4.2)⟩ ⟨bj5.1, (Nat.lt_add_right _ bj5.2.1), bj5.2.2⟩ _ q36) ?_; rintro e w38 ⟨c37, rfl, E39, B, h41⟩; refine rt fun a F => ?_; replace h17 := h17.ev E39 bj5.2.2 (ne_z bj4.1); replace h23 := h23.ev E39 (ne_mp bj4.2); replace E := E.trans E39 (fun x (q : x = j4) => Or.inl (Or.inl q)); refine qa F fun a F => nil (hK34 _ _ ?_); refine sr fun K43 hK43 => qm F fun a F => ?_; refine qv F (r_neq F rfl rfl) fun a F => ?_; refine nil (hK43 _ _ ?_)
  by_cases hb44 : t35.1 = 0
  ·replace H := ip hb44 H; refine wcf (fb F (congrArg not (dt hb44))) (wp_skip (hK33 _ _ ?_)); replace F : Fr a 35 [(0, .pointer p2), (6, .pointer (some qa21))] := F.sub ⟨rfl, rfl, trivial⟩; refine sr fun K46 hK46 => qm F fun a F => ?_; obtain ⟨ob47, e48, H⟩ := bind_some H; have z49 := h41; rw [e48] at z49; obtain ⟨ad50, p52, rfl, hat51, h53⟩ := BG.some z49; refine qi F fun a F => ?_; refine qf F ff_67_2 fun a F => ?_; refine qv F (r_fieldAddr2 F hat51 rfl ff_63_1) fun a F => ?_; refine ql F ag_3 hat51 fun a F => ?_; refine qv F (r_add F rfl rfl) fun a F => ?_; refine qi F fun a F => ?_; refine qf F ff_67_2 fun a F => ?_; refine qv F (r_fieldAddr2 F hat51 rfl ff_63_1) fun a F => ?_; refine q_eff0 F rfl rfl (e_store F rfl rfl sz_3 hat51 (nb rfl) rfl) ?_; rintro w55 a ⟨E56, hat51, Z57⟩ F; replace B := B.size Z57; replace h17 := h17.ev E56 bj5.2.2 (ne_z bj4.1); replace h23 := h23.ev E56 (ne_mp bj4.2); replace h53 := h53.ev E56 bj5.2.2 (ne_z bj4.1); replace E := E.trans E56 (fun x (q : x = j4) => Or.inl (Or.inl q)); replace hat51 : AT true j4 c37 w55 ad50 [.map (Option.map Addr.block p52), .int .i64 ob47.next, .int .i64 ob47.told.Sent, .int .i64 (IntKind.i64.wrap (ob47.told.Twice + 1)), .int .i64 ob47.told.Delivered, .int .i64 ob47.told.Dropped, .int .i64 ob47.told.Lost] := hat51; refine nil (hK46 _ _ ?_); replace F : Fr a 35 [(0, .pointer (some ad50)), (6, .pointer (some qa21))] := F.sub ⟨rfl, rfl, trivial⟩; refine sr fun K58 hK58 => qm F fun a F => ?_; refine qv F (r_loads (cs := [.int .i64 t9.1.Number, .int .i64 t9.1.From, .int .i64 t9.1.To, .slice A15 t9.1.Data.length C16]) F rfl ag_40 sz_40 h23) fun a F => ?_; have h59 : BG j4 j5 c37 w55 (some ad50) (some (Bag.mk ob47.under ob47.next (api_Traffic.mk ob47.told.Sent (IntKind.i64.wrap (ob47.told.Twice + 1)) ob47.told.Delivered ob47.told.Dropped ob47.told.Lost))) := BG.mk hat51 h53; obtain ⟨t60, q61, H⟩ := bind_some H; refine qc F Try.func31 (bag_Bag_put.calls (m := m + 2) (pl hm0) B h59 h17 ⟨bj4.1, (Nat.lt_add_right _ bj4.2)⟩ ⟨bj5.1, (Nat.lt_add_right _ bj5.2.1), bj5.2.2⟩ (Nat.lt_add_right _ bj5.2.1) _ q61) ?_; rintro e w63 ⟨c62, rfl, E64, B, h66⟩; refine rt fun a F => ?_; replace E := E.trans E64 (fun x (q : x = j4 ∨ x = j5) => q.elim (fun q => Or.inl (Or.inl q)) (fun q => Or.inl (Or.inr (q)))); refine qa F fun a F => qa F fun a F => nil (hK58 _ _ ?_); refine wp_ret ?_; obtain rfl := si H; refine out2 F rfl rfl rfl ?_; exact ⟨cf (ct m) c62, rfl, E.lv B0, cfb, BG.rc h66 cfk cfk cfk (by omega)⟩
  replace H := im hb44 H; refine wct (fb F (congrArg not (dz hb44))) ?_; refine sr fun K45 hK45 => qm F fun a F => qa F fun a F => qa F fun a F => nil (hK45 _ _ ?_); replace F : Fr a 35 [(4, .int .i64 0), (5, .int .i64 t35.1)] := F.sub ⟨rfl, rfl, trivial⟩; refine wp_ret ?_; refine thenR ?_; obtain rfl := si H; refine out2 F rfl rfl rfl ?_; exact ⟨cf (ct m) c37, rfl, E.lv B0, cfb, BG.rc h41 cfk cfk cfk (by omega)⟩
 replace H := im hb31 H; refine wct (fb F (congrArg not (dz hb31))) ?_; refine sr fun K32 hK32 => qm F fun a F => qa F fun a F => qa F fun a F => nil (hK32 _ _ ?_); refine wp_ret ?_; refine thenR ?_; obtain rfl := si H; refine out2 F rfl rfl rfl ?_; exact ⟨cf (ct m) c19, rfl, E.lv B0, cfb, BG.rc h3 cfk cfk cfk (by omega)⟩
theorem bag_New.calls {m : Nat} {c0 : Nat → Nat} {w0 : World} (hm0 : 0 < m) (B0 : CB m c0 w0) (jr17 : Nat) (bjr17 : 0 < jr17 ∧ jr17 < m) (jr18 : Nat) (bjr18 : 0 < jr18 ∧ jr18 < m) (r : (Option Bag)) (H : bag_New.f = some r) : Calls Try.prog 9 #[] w0 (fun e w_ => ∃ (c_ : Nat → Nat) (P0_ : Option Addr), e = .returned (.pointer P0_) ∧ Ev (fun x => False) c0 w0 c_ w_ ∧ CB m c_ w_ ∧ BG jr17 jr18 c_ w_ P0_ r) := by
 unfold bag_New.f at H; have B := B0.mono (show m ≤ m + 3 by omega); have E : Ev (fun x => False ∨ m ≤ x) c0 w0 c0 w0 := Ev.refl; refine enter (N := 4) (l := []) Try.func9 rfl rfl (nb rfl) fun a F => ?_; refine sr fun K1 hK1 => qa F fun a F => nil (hK1 _ _ ?_); refine sr fun K2 hK2 => ?_; refine q_eff F rfl rfl (by decide) (e_makeMap1 (q := .i64) (K := 3) (e := KO_api_Letter) (mk := (fun cs => .agg cs.toArray)) F c0 (m + 1) (pl hm0) (fun w => by kernel_rfl)) ?_; rintro v w4 a ⟨c3, qa5, rfl, E6, h7, B8⟩ F; replace B := B8 _ B lm; replace E := E.n E6; replace h7 : ML (m + 1) c3 w4 (some qa5) (MkV.mk (fun _ => none) 0 0) := h7; refine qv F (r_build (v := .agg #[.map (Option.map Addr.block (some qa5)), .int .i64 0, .int .i64 0, .int .i64 0, .int .i64 0, .int .i64 0, .int .i64 0]) F [(0, .map (Option.map Addr.block (some qa5)))] (by exact ⟨rfl, rfl, trivial⟩) (fun w => by kernel_rfl)) fun a F => ?_; refine q_eff F rfl rfl (by decide) (e_box F (v := .agg #[.map (Option.map Addr.block (some qa5)), .int .i64 0, .int .i64 0, .int .i64 0, .int .i64 0, .int .i64 0, .int .i64 0]) rfl c3 (m + 2)) ?_; rintro v w10 a ⟨c9, qa11, rfl, E12, h13, B14⟩ F; replace B := B14 _ B lm; replace h7 := h7.ev E12; replace E := E.n E12; replace h13 : AT _ _ _ _ _ [.map (Option.map Addr.block (some qa5)), .int .i64 0, .int .i64 0, .int .i64 0, .int .i64 0, .int .i64 0, .int .i64 0] := h13; refine qa F fun a F => nil (hK2 _ _ ?_); refine wp_ret ?_; have h16 : BG (m + 2) (m + 1) c9 w10 (some qa11) (some (Bag.mk (MkV.mk (fun _ => none) 0 0) 0 (api_Traffic.mk 0 0 0 0 0))) := BG.mk h13 h7; obtain rfl := si H; refine out1 F rfl rfl ?_; exact ⟨cf (fun x_ => if x_ = m + 2 then jr17 else if x_ = m + 1 then jr18 else if x_ < m then x_ else 0) c9, (some qa11), rfl, E.lv B0, cfb, BG.rc h16 cfk cfk cfk (by omega)⟩
theorem haulagelaw20_ints.calls (k : Nat) {m : Nat} {c0 : Nat → Nat} {w0 : World} {j5 : Nat} {j10 : Nat} {A2 : Option Addr} {C3 : Nat} {A7 : Option Addr} {C8 : Nat} {a1 : List Int} {a6 : List Int} (hm0 : 0 < m) (B0 : CB m c0 w0) (h4 : SL false (Kint .i64) j5 0 c0 w0 A2 C3 a1) (h9 : SL false (Kint .i64) j10 0 c0 w0 A7 C8 a6) (bj5 : j5 < m) (bj10 : j10 < m) (r : Bool) (H : haulagelaw20_ints.f k a1 a6 = some r) : Calls Try.prog 20 #[.slice A2 a1.length C3, .slice A7 a6.length C8] w0 (fun e w_ => ∃ (c_ : Nat → Nat), e = .returned (.bool r) ∧ Ev (fun x => False) c0 w0 c_ w_ ∧ CB m c_ w_) := by
 unfold haulagelaw20_ints.f at H; have B := B0.mono (show m ≤ m + 1 by omega); have E : Ev (fun x => False ∨ m ≤ x) c0 w0 c0 w0 := Ev.refl; refine enter (N := 26) (l := [.slice A2 a1.length C3, .slice A7 a6.length C8]) Try.func20 rfl rfl (nb rfl) fun a F => ?_; refine sr fun K11 hK11 => qa F fun a F => nil (hK11 _ _ ?_); refine sq fun K12 hK12 => ?_; refine sr fun K13 hK13 => qm F fun a F => ?_; refine qv F (r_lensl F Try.underlying36 rfl) fun a F => ?_; refine qm F fun a F => ?_; refine qv F (r_lensl F Try.underlying36 rfl) fun a F => ?_; refine qv F (r_neq F rfl rfl) fun a F => ?_; refine nil (hK13 _ _ ?_)
 by_cases hb14 : (a1.length : Int) = (a6.length : Int)
 ·replace H := ip hb14 H; refine wcf (fb F (congrArg not (dt hb14))) (wp_skip (hK12 _ _ ?_)); refine sq fun K16 hK16 => ?_; refine sr fun K17 hK17 => qa F fun a F => nil (hK17 _ _ ?_); refine wp_block ?_; obtain ⟨x28, HL, HR27⟩ := bind_some H; have J55 : ∀ (c56 : Nat → Nat) (w57 : World) (a : Act), Fr a 26 [] → Ev (fun x => False ∨ m ≤ x) c0 w0 c56 w57 → CB (m + 1) c56 w57 → haulagelaw20_ints.j2 = some r → K16 a w57 := by
   intro c56 w57 a  F E B  H; unfold haulagelaw20_ints.j2 at H; refine hK16 _ _ ?_; refine sr fun K58 hK58 => qa F fun a F => nil (hK58 _ _ ?_); refine wp_ret ?_; obtain rfl := si H; refine out1 F rfl rfl ?_; exact ⟨cf (ct m) c56, rfl, E.lv B0, cfb⟩
  refine loop_fuel (I := fun n a w => ∃ (i18 : Int) (c : Nat → Nat), Fr a 26 [(0, .slice A2 a1.length C3), (1, .slice A7 a6.length C8), (5, .int .i64 i18)] ∧ Ev (fun x => False ∨ m ≤ x) c0 w0 c w ∧ CB (m + 1) c w ∧ SL false (Kint .i64) j5 0 c w A2 C3 a1 ∧ SL false (Kint .i64) j10 0 c w A7 C8 a6 ∧ loop (fun (s_ : Int) => haulagelaw20_ints.b1 a1 a6 s_) n i18 = some x28) (k := k) ⟨0, c0, F.sub ⟨rfl, rfl, rfl, trivial⟩, E, B, h4, h9, HL⟩ ?_; clear HL H E F B; intro n25 X21 hX21 a w20 ⟨i18, c19, F, E, B, h4, h9, HL⟩; obtain ⟨n26, ctl24, rfl, HB, HN22, HD23⟩ := loop_some HL; have H : haulagelaw20_ints.b1 a1 a6 i18 = some ctl24 := HB; clear HB HL; unfold haulagelaw20_ints.b1 at H; refine sq fun K29 hK29 => ?_; refine sr fun K30 hK30 => qm F fun a F => qm F fun a F => ?_; refine qv F (r_lensl F Try.underlying36 rfl) fun a F => ?_; refine qv F (r_lss F rfl rfl) fun a F => ?_; refine nil (hK30 _ _ ?_)
  by_cases hb31 : i18 < (a1.length : Int)
  ·replace H := ip hb31 H; refine wct (fb F (dt hb31)) (wp_skip (hK29 _ _ ?_)); refine sq fun K32 hK32 => ?_; refine wp_block ?_; refine sq fun K33 hK33 => ?_; refine regD (SB No c19 w20) 9 (.q 0 (.q 1 (.q 2 (.q 3 (.q 4 (.q 5 (.q 6 (.q 7 (.q 8 .nil))))))))) Try_hm (by decide +kernel) ?_; intro w34 w1_ w2_ w3_ w4_; have E35 : Ev No c19 w20 c19 w34 := Ev.same w1_ w2_ w3_ w4_; replace B := B.same w1_; have zh4 := h4; have zh9 := h9; have ER : Ev No c19 w20 c19 w34 := Ev.same w1_ w2_ w3_ w4_; replace h4 := h4.ev E35; replace h9 := h9.ev E35; replace E := E.n E35; refine dm F ER.sb fun a F => ?_; refine dm F ER.sb fun a F => ?_; replace H := ifN H; obtain ⟨g36, H⟩ := H; obtain ⟨ad37, cs38, e39, h40, r41⟩ := SL.at zh4 i18 g36.1 g36.2; obtain rfl : cs38 = [.int .i64 (rd a1 i18)] := r41; obtain ⟨qa42, qqa42⟩ : ∃ q, q = (ad37.add (i18.toNat * 1)) := ⟨_, rfl⟩; have h40 : AT false j5 c19 w20 qa42 [.int .i64 (rd a1 i18)] := by rw [qqa42]; exact h40
   have zh40 := h40; refine dq F (fun wq hS => r_indexAddr' F Try.underlying36 sz_3 rfl rfl g36.1 g36.2 e39 qqa42) ER.sb fun a F => ?_; refine dq F (fun wq hS => r_load F rfl ag_3 (AT.cell0 (AT.sb zh40 hS nq) rfl)) ER.sb fun a F => ?_; refine dm F ER.sb fun a F => ?_; refine dm F ER.sb fun a F => ?_; replace H := ifN H; obtain ⟨g44, H⟩ := H; obtain ⟨ad45, cs46, e47, h48, r49⟩ := SL.at zh9 i18 g44.1 g44.2; obtain rfl : cs46 = [.int .i64 (rd a6 i18)] := r49; obtain ⟨qa50, qqa50⟩ : ∃ q, q = (ad45.add (i18.toNat * 1)) := ⟨_, rfl⟩; have h48 : AT false j10 c19 w20 qa50 [.int .i64 (rd a6 i18)] := by rw [qqa50]; exact h48
   have zh48 := h48; refine dq F (fun wq hS => r_indexAddr' F Try.underlying36 sz_3 rfl rfl g44.1 g44.2 e47 qqa50) ER.sb fun a F => ?_; refine dq F (fun wq hS => r_load F rfl ag_3 (AT.cell0 (AT.sb zh48 hS nq) rfl)) ER.sb fun a F => ?_; refine dq F (fun wq hS => r_neq F rfl rfl) ER.sb fun a F => ?_; refine d_nil ?_; refine hK33 _ _ ?_; replace F : Fr a 26 [(0, .slice A2 a1.length C3), (1, .slice A7 a6.length C8), (5, .int .i64 i18), (25, .bool (!decide ((rd a1 i18) = (rd a6 i18))))] := F.sub ⟨rfl, rfl, rfl, rfl, trivial⟩
   by_cases hb52 : (rd a1 i18) = (rd a6 i18)
   ·replace H := ip hb52 H; refine wcf (fb F (congrArg not (dt hb52))) (wp_skip (hK32 _ _ ?_)); refine reg ?_; refine qm F fun a F => ?_; refine qv F (r_add F rfl rfl) fun a F => ?_; refine qa F fun a F => nil ?_; replace H := HN22 _ (si H).symm; exact hX21 _ _ _ (Nat.lt_succ_self _) ⟨(IntKind.i64.wrap (i18 + 1)), c19, F.sub ⟨rfl, rfl, rfl, trivial⟩, E, B, h4, h9, H⟩
   replace H := im hb52 H; refine wct (fb F (congrArg not (dz hb52))) ?_; refine sr fun K53 hK53 => qa F fun a F => nil (hK53 _ _ ?_); refine wp_ret ?_; refine inbR ?_; refine thenR ?_; refine thenR ?_; refine inbR ?_; refine thenR ?_; have hx_ := HD23 _ (si H).symm; have H := HR27; rw [← hx_] at H; replace H : some false = some r := H; obtain rfl := si H; refine out1 F rfl rfl ?_; exact ⟨cf (ct m) c19, rfl, E.lv B0, cfb⟩
  replace H := im hb31 H; refine wcf (fb F (dz hb31)) ?_; refine wp_exit ?_; refine thenE ?_; refine thenE ?_; refine inbE ?_; have hx_ := HD23 _ (si H).symm; have H := HR27; rw [← hx_] at H; exact J55 c19 w20 a  (F.sub trivial) E B  H
 replace H := im hb14 H; refine wct (fb F (congrArg not (dz hb14))) ?_; refine sr fun K15 hK15 => qa F fun a F => nil (hK15 _ _ ?_); refine wp_ret ?_; refine thenR ?_; obtain rfl := si H; refine out1 F rfl rfl ?_; exact ⟨cf (ct m) c0, rfl, E.lv B0, cfb⟩
theorem haulagelaw20_num.calls {m : Nat} {c0 : Nat → Nat} {w0 : World} {a1 : Int} (hm0 : 0 < m) (B0 : CB m c0 w0) (r : Int) (H : haulagelaw20_num.f a1 = some r) : Calls Try.prog 13 #[.int .i64 a1] w0 (fun e w_ => ∃ (c_ : Nat → Nat), e = .returned (.int .i64 r) ∧ Ev (fun x => False) c0 w0 c_ w_ ∧ CB m c_ w_) := by
 unfold haulagelaw20_num.f at H; have B := B0.mono (show m ≤ m + 1 by omega); have E : Ev (fun x => False ∨ m ≤ x) c0 w0 c0 w0 := Ev.refl; refine enter (N := 4) (l := [.int .i64 a1]) Try.func13 rfl rfl (nb rfl) fun a F => ?_; refine sr fun K2 hK2 => qa F fun a F => nil (hK2 _ _ ?_); refine sr fun K3 hK3 => qm F fun a F => qa F fun a F => nil (hK3 _ _ ?_); refine wp_ret ?_; obtain rfl := si H; refine out1 F rfl rfl ?_; exact ⟨cf (ct m) c0, rfl, E.lv B0, cfb⟩
theorem haulagelaw20_known.calls {m : Nat} {c0 : Nat → Nat} {w0 : World} (hm0 : 0 < m) (B0 : CB m c0 w0) (r : Bool) (H : haulagelaw20_known.f = some r) : Calls Try.prog 8 #[] w0 (fun e w_ => ∃ (c_ : Nat → Nat), e = .returned (.bool r) ∧ Ev (fun x => False) c0 w0 c_ w_ ∧ CB m c_ w_) := by
 unfold haulagelaw20_known.f at H; have B := B0.mono (show m ≤ m + 5 by omega); have E : Ev (fun x => False ∨ m ≤ x) c0 w0 c0 w0 := Ev.refl; refine enter (N := 76) (l := []) Try.func8 rfl rfl (nb rfl) fun a F => ?_; refine sr fun K1 hK1 => qa F fun a F => nil (hK1 _ _ ?_); refine sr fun K2 hK2 => ?_; obtain ⟨t3, q4, H⟩ := bind_some H; refine qc F Try.func9 (bag_New.calls (m := m + 5) (pl hm0) B (m + 1) ⟨(pl hm0), lm⟩ (m + 2) ⟨(pl hm0), lm⟩ _ q4) ?_; rintro e w6 ⟨c5, p9, rfl, E7, B, h10⟩; refine rt fun a F => ?_; replace E := E.n E7; refine qa F fun a F => nil (hK2 _ _ ?_); refine sq fun K12 hK12 => ?_; refine sr fun K13 hK13 => qm F fun a F => ?_; refine qv F (r_peqlA F Try.underlying24 rfl rfl (BG.isNone h10)) fun a F => ?_; refine nil (hK13 _ _ ?_)
 by_cases hb14 : (Option.isNone t3) = true
 ·replace H := ip hb14 H; refine wct (fb F hb14) ?_; refine sr fun K15 hK15 => qa F fun a F => nil (hK15 _ _ ?_); refine wp_ret ?_; refine thenR ?_; obtain rfl := si H; refine out1 F rfl rfl ?_; exact ⟨cf (ct m) c5, rfl, E.lv B0, cfb⟩
 replace H := im hb14 H; refine wcf (fb F (bfalse hb14)) (wp_skip (hK12 _ _ ?_)); refine sr fun K16 hK16 => qm F fun a F => ?_; refine q_eff F rfl rfl (by decide) (e_buildSliceF (n := 1) (e := 5) (c := c5) (k := (Kint .u8)) (i := 0) F [(0, .int .u8 97)] [.int .u8 97] ([97] : List Int) (by exact ⟨rfl, rfl, trivial⟩) (fun w => by kernel_rfl) rfl (by decide) rfl ⟨rfl, trivial⟩ (fun q => q) (m + 3)) ?_; rintro v w19 a ⟨c18, A20, C21, rfl, E22, h23, B24, hf17⟩ F; replace B := B24 _ B lm; replace E := E.n E22; refine q_eff F rfl rfl (by decide) (e_convb F Try.underlying27 Try.underlying5 rfl h23 hf17) ?_; rintro v w25 a ⟨rfl, E26, h23, Z27⟩ F; replace B := B.size Z27; replace h10 := (h10.ev E22).ev E26; replace E := E.trans E26 lc1; obtain ⟨c28, hc28⟩ : ∃ c', c' = fun k => if c18 k = m + 3 then 0 else c18 k := ⟨_, rfl⟩; replace h10 := BG.rc (c' := c28) (j' := m + 1) (i' := m + 2) h10 (fun k_ hk_ => by rw [hc28]; show (if c18 k_ = m + 3 then 0 else c18 k_) = _; rw [hk_]; ((repeat' split) <;> omega)) (fun k_ hk_ => by rw [hc28]; show (if c18 k_ = m + 3 then 0 else c18 k_) = _; rw [hk_]; ((repeat' split) <;> omega)) (fun k_ hk_ => by rw [hc28]; show (if c18 k_ = m + 3 then 0 else c18 k_) = _; rw [hk_]; ((repeat' split) <;> omega)) (pl hm0); replace h23 := SL.rc (c' := c28) (j' := 0) (i' := 0) h23.r (fun k_ hk_ => by rw [hc28]; show (if c18 k_ = m + 3 then 0 else c18 k_) = _; rw [hk_]; ((repeat' split) <;> omega)) (fun k_ hk_ => by rw [hc28]; show (if c18 k_ = m + 3 then 0 else c18 k_) = _; rw [hk_]; ((repeat' split) <;> omega)); have E : Ev (fun x => False ∨ m ≤ x) c0 w0 c28 w25 := by rw [hc28]; exact E.freeze B0 (by omega)
 have B : CB (m + 5) c28 w25 := by rw [hc28]; exact B.freeze (by omega)
 obtain ⟨t29, q30, H⟩ := bind_some H; refine qc F Try.func12 (bag_Bag_Send.calls (m := m + 5) (pl hm0) B h10 h23 ⟨(pl hm0), lm⟩ ⟨(pl hm0), lm, mm⟩ ⟨(pl hm0), ne_zm, ne_zm⟩ _ q30) ?_; rintro e w32 ⟨c31, rfl, E33, B, h35⟩; refine rt fun a F => ?_; replace E := E.trans E33 lc2; refine qm F fun a F => ?_; refine qx F fun a F => ?_; refine qx F fun a F => ?_; refine qa F fun a F => qa F fun a F => nil (hK16 _ _ ?_); replace F : Fr a 76 [(1, .pointer p9), (2, .int .i64 t29.1), (3, .int .i64 t29.2.1)] := F.sub ⟨rfl, rfl, rfl, trivial⟩; refine sr fun K37 hK37 => qm F fun a F => ?_; refine q_eff F rfl rfl (by decide) (e_buildSliceF (n := 1) (e := 5) (c := c31) (k := (Kint .u8)) (i := 0) F [(0, .int .u8 98)] [.int .u8 98] ([98] : List Int) (by exact ⟨rfl, rfl, trivial⟩) (fun w => by kernel_rfl) rfl (by decide) rfl ⟨rfl, trivial⟩ (fun q => q) (m + 4)) ?_; rintro v w40 a ⟨c39, A41, C42, rfl, E43, h44, B45, hf38⟩ F; replace B := B45 _ B lm; replace E := E.n E43; refine q_eff F rfl rfl (by decide) (e_convb F Try.underlying27 Try.underlying5 rfl h44 hf38) ?_; rintro v w46 a ⟨rfl, E47, h44, Z48⟩ F; replace B := B.size Z48; replace h35 := (h35.ev E43).ev E47; replace E := E.trans E47 lc1; obtain ⟨c49, hc49⟩ : ∃ c', c' = fun k => if c39 k = m + 4 then 0 else c39 k := ⟨_, rfl⟩; replace h35 := BG.rc (c' := c49) (j' := m + 1) (i' := m + 2) h35 (fun k_ hk_ => by rw [hc49]; show (if c39 k_ = m + 4 then 0 else c39 k_) = _; rw [hk_]; ((repeat' split) <;> omega)) (fun k_ hk_ => by rw [hc49]; show (if c39 k_ = m + 4 then 0 else c39 k_) = _; rw [hk_]; ((repeat' split) <;> omega)) (fun k_ hk_ => by rw [hc49]; show (if c39 k_ = m + 4 then 0 else c39 k_) = _; rw [hk_]; ((repeat' split) <;> omega)) (pl hm0); replace h44 := SL.rc (c' := c49) (j' := 0) (i' := 0) h44.r (fun k_ hk_ => by rw [hc49]; show (if c39 k_ = m + 4 then 0 else c39 k_) = _; rw [hk_]; ((repeat' split) <;> omega)) (fun k_ hk_ => by rw [hc49]; show (if c39 k_ = m + 4 then 0 else c39 k_) = _; rw [hk_]; ((repeat' split) <;> omega)); have E : Ev (fun x => False ∨ m ≤ x) c0 w0 c49 w46 := by rw [hc49]; exact E.freeze B0 (by omega)
 have B : CB (m + 5) c49 w46 := by rw [hc49]; exact B.freeze (by omega)
 obtain ⟨t50, q51, H⟩ := bind_some H; refine qc F Try.func12 (bag_Bag_Send.calls (m := m + 5) (pl hm0) B h35 h44 ⟨(pl hm0), lm⟩ ⟨(pl hm0), lm, mm⟩ ⟨(pl hm0), ne_zm, ne_zm⟩ _ q51) ?_; rintro e w53 ⟨c52, rfl, E54, B, h56⟩; refine rt fun a F => ?_; replace E := E.trans E54 lc2; refine qm F fun a F => ?_; refine qx F fun a F => ?_; refine qx F fun a F => ?_; refine qa F fun a F => qa F fun a F => nil (hK37 _ _ ?_); refine sr fun K58 hK58 => qm F fun a F => ?_; obtain ⟨t59, q60, H⟩ := bind_some H; refine qc F Try.func12 (bag_Bag_Send.calls (m := m + 5) (pl hm0) B h56 (SL.nil (j := 0) (i := 0)) ⟨(pl hm0), lm⟩ ⟨(pl hm0), lm, mm⟩ ⟨(pl hm0), ne_zm, ne_zm⟩ _ q60) ?_; rintro e w62 ⟨c61, rfl, E63, B, h65⟩; refine rt fun a F => ?_; replace E := E.trans E63 lc2; refine qm F fun a F => ?_; refine qx F fun a F => ?_; refine qx F fun a F => ?_; refine qa F fun a F => qa F fun a F => nil (hK58 _ _ ?_); replace F : Fr a 76 [(1, .pointer p9), (2, .int .i64 t29.1), (3, .int .i64 t29.2.1), (4, .int .i64 t50.1), (5, .int .i64 t50.2.1), (6, .int .i64 t59.1), (7, .int .i64 t59.2.1)] := F.sub ⟨rfl, rfl, rfl, rfl, rfl, rfl, rfl, trivial⟩; refine sr fun K67 hK67 => qm F fun a F => ?_; obtain ⟨t68, q69, H⟩ := bind_some H; refine qc F Try.func17 (bag_Bag_Twice.calls (m := m + 5) (pl hm0) B h65 ⟨(pl hm0), lm⟩ ⟨(pl hm0), lm, mm⟩ _ q69) ?_; rintro e w71 ⟨c70, rfl, E72, B, h74⟩; refine rt fun a F => ?_; replace E := E.trans E72 lc2; refine qm F fun a F => ?_; refine qx F fun a F => ?_; refine qx F fun a F => ?_; refine qa F fun a F => qa F fun a F => nil (hK67 _ _ ?_); refine sr fun K76 hK76 => qm F fun a F => ?_; refine qv F (r_eql F rfl rfl) fun a F => ?_; refine qm F fun a F => ?_
 by_cases hb77 : t29.1 = 0
 ·replace H := ip hb77 H; refine qy F (dt hb77) ?_; refine qm F fun a F => ?_; refine qy F (dt hb77) ?_; refine qv F (r_eql F rfl rfl) fun a F => ?_; refine qv F (r_pick_t F rfl (dt hb77) rfl) fun a F => ?_; refine qm F fun a F => ?_
  by_cases hb78 : t50.1 = 1
  ·replace H := ip hb78 H; refine qy F (dt hb78) ?_; refine qm F fun a F => ?_; refine qy F (dt hb78) ?_; refine qv F (r_eql F rfl rfl) fun a F => ?_; refine qv F (r_pick_t F rfl (dt hb78) rfl) fun a F => ?_; refine qm F fun a F => ?_
   by_cases hb79 : t59.1 = 2
   ·replace H := ip hb79 H; refine qy F (dt hb79) ?_; refine qm F fun a F => ?_; refine qy F (dt hb79) ?_; refine qv F (r_eql F rfl rfl) fun a F => ?_; refine qv F (r_pick_t F rfl (dt hb79) rfl) fun a F => ?_; refine qm F fun a F => ?_
    by_cases hb80 : t68.1 = 3
    ·replace H := ip hb80 H; refine qy F (dt hb80) ?_; refine qm F fun a F => ?_; obtain ⟨t81, q82, H⟩ := bind_some H; refine qy F (dt hb80) ?_; refine qc F Try.func13 (haulagelaw20_num.calls (m := m + 5) (pl hm0) B _ q82) ?_; rintro e w84 ⟨c83, rfl, E85, B⟩; refine rt fun a F => ?_; replace h74 := h74.ev E85; replace E := E.n E85; refine qy F (dt hb80) ?_; refine qv F (r_eql F rfl rfl) fun a F => ?_; refine qv F (r_pick_t F rfl (dt hb80) rfl) fun a F => ?_; refine qm F fun a F => ?_
     by_cases hb88 : t81 = 0
     ·replace H := ip hb88 H; refine qy F (dt hb88) ?_; refine qm F fun a F => ?_; obtain ⟨t89, q90, H⟩ := bind_some H; refine qy F (dt hb88) ?_; refine qc F Try.func13 (haulagelaw20_num.calls (m := m + 5) (pl hm0) B _ q90) ?_; rintro e w92 ⟨c91, rfl, E93, B⟩; refine rt fun a F => ?_; replace h74 := h74.ev E93; replace E := E.n E93; refine qy F (dt hb88) ?_; refine qv F (r_eql F rfl rfl) fun a F => ?_; refine qv F (r_pick_t F rfl (dt hb88) rfl) fun a F => ?_; refine qm F fun a F => ?_
      by_cases hb96 : t89 = 0
      ·replace H := ip hb96 H; refine qy F (dt hb96) ?_; refine qm F fun a F => ?_; obtain ⟨t97, q98, H⟩ := bind_some H; refine qy F (dt hb96) ?_; refine qc F Try.func13 (haulagelaw20_num.calls (m := m + 5) (pl hm0) B _ q98) ?_; rintro e w100 ⟨c99, rfl, E101, B⟩; refine rt fun a F => ?_; replace h74 := h74.ev E101; replace E := E.n E101; refine qy F (dt hb96) ?_; refine qv F (r_eql F rfl rfl) fun a F => ?_; refine qv F (r_pick_t F rfl (dt hb96) rfl) fun a F => ?_; refine qm F fun a F => ?_
       by_cases hb104 : t97 = 0
       ·replace H := ip hb104 H; refine qy F (dt hb104) ?_; refine qm F fun a F => ?_; obtain ⟨t105, q106, H⟩ := bind_some H; refine qy F (dt hb104) ?_; refine qc F Try.func13 (haulagelaw20_num.calls (m := m + 5) (pl hm0) B _ q106) ?_; rintro e w108 ⟨c107, rfl, E109, B⟩; refine rt fun a F => ?_; replace h74 := h74.ev E109; replace E := E.n E109; refine qy F (dt hb104) ?_; refine qv F (r_eql F rfl rfl) fun a F => ?_; refine qv F (r_pick_t F rfl (dt hb104) rfl) fun a F => ?_; refine qm F fun a F => ?_
        by_cases hb112 : t105 = 0
        ·replace H := ip hb112 H; refine qy F (dt hb112) ?_; refine qm F fun a F => ?_; obtain ⟨t113, q114, H⟩ := bind_some H; refine qy F (dt hb112) ?_; refine qc F Try.func10 (bag_Bag_Len.calls (m := m + 5) (pl hm0) B h74 lm ⟨(pl hm0), lm, mm⟩ _ q114) ?_; rintro e w116 ⟨c115, rfl, E117, B⟩; refine rt fun a F => ?_; replace E := E.n E117; refine qy F (dt hb112) ?_; refine qv F (r_eql F rfl rfl) fun a F => ?_; refine qv F (r_pick_t F rfl (dt hb112) rfl) fun a F => ?_; refine qa F fun a F => nil (hK76 _ _ ?_); replace F : Fr a 76 [(0, .bool (decide (t113 = 4)))] := F.sub ⟨rfl, trivial⟩; refine wp_ret ?_; obtain rfl := si H; refine out1 F rfl rfl ?_; exact ⟨cf (ct m) c115, rfl, E.lv B0, cfb⟩
        replace H := im hb112 H; refine qn F (dz hb112) fun a F => qn F (dz hb112) fun a F => qn F (dz hb112) fun a F => ?_; refine qv F (r_pick_f F rfl (dz hb112) rfl) fun a F => ?_; refine qa F fun a F => nil (hK76 _ _ ?_); replace F : Fr a 76 [(0, .bool false)] := F.sub ⟨rfl, trivial⟩; refine wp_ret ?_; obtain rfl := si H; refine out1 F rfl rfl ?_; exact ⟨cf (ct m) c107, rfl, E.lv B0, cfb⟩
       replace H := im hb104 H; refine qn F (dz hb104) fun a F => qn F (dz hb104) fun a F => qn F (dz hb104) fun a F => ?_; refine qv F (r_pick_f F rfl (dz hb104) rfl) fun a F => ?_; refine qm F fun a F => qn F rfl fun a F => qn F rfl fun a F => qn F rfl fun a F => ?_; refine qp F fun a F => ?_; refine qa F fun a F => nil (hK76 _ _ ?_); replace F : Fr a 76 [(0, .bool false)] := F.sub ⟨rfl, trivial⟩; refine wp_ret ?_; obtain rfl := si H; refine out1 F rfl rfl ?_; exact ⟨cf (ct m) c99, rfl, E.lv B0, cfb⟩
      replace H := im hb96 H; refine qn F (dz hb96) fun a F => qn F (dz hb96) fun a F => qn F (dz hb96) fun a F => ?_; refine qv F (r_pick_f F rfl (dz hb96) rfl) fun a F => ?_; refine qm F fun a F => qn F rfl fun a F => qn F rfl fun a F => qn F rfl fun a F => ?_; refine qp F fun a F => ?_; refine qm F fun a F => qn F rfl fun a F => qn F rfl fun a F => qn F rfl fun a F => ?_; refine qp F fun a F => ?_; refine qa F fun a F => nil (hK76 _ _ ?_); replace F : Fr a 76 [(0, .bool false)] := F.sub ⟨rfl, trivial⟩; refine wp_ret ?_; obtain rfl := si H; refine out1 F rfl rfl ?_; exact ⟨cf (ct m) c91, rfl, E.lv B0, cfb⟩
     replace H := im hb88 H; refine qn F (dz hb88) fun a F => qn F (dz hb88) fun a F => qn F (dz hb88) fun a F => ?_; refine qv F (r_pick_f F rfl (dz hb88) rfl) fun a F => ?_; refine qm F fun a F => qn F rfl fun a F => qn F rfl fun a F => qn F rfl fun a F => ?_; refine qp F fun a F => ?_; refine qm F fun a F => qn F rfl fun a F => qn F rfl fun a F => qn F rfl fun a F => ?_; refine qp F fun a F => ?_; refine qm F fun a F => qn F rfl fun a F => qn F rfl fun a F => qn F rfl fun a F => ?_; refine qp F fun a F => ?_; refine qa F fun a F => nil (hK76 _ _ ?_); replace F : Fr a 76 [(0, .bool false)] := F.sub ⟨rfl, trivial⟩; refine wp_ret ?_; obtain rfl := si H; refine out1 F rfl rfl ?_; exact ⟨cf (ct m) c83, rfl, E.lv B0, cfb⟩
    replace H := im hb80 H; refine qn F (dz hb80) fun a F => qn F (dz hb80) fun a F => qn F (dz hb80) fun a F => ?_; refine qv F (r_pick_f F rfl (dz hb80) rfl) fun a F => ?_; refine qm F fun a F => qn F rfl fun a F => qn F rfl fun a F => qn F rfl fun a F => ?_; refine qp F fun a F => ?_; refine qm F fun a F => qn F rfl fun a F => qn F rfl fun a F => qn F rfl fun a F => ?_; refine qp F fun a F => ?_; refine qm F fun a F => qn F rfl fun a F => qn F rfl fun a F => qn F rfl fun a F => ?_; refine qp F fun a F => ?_; refine qm F fun a F => qn F rfl fun a F => qn F rfl fun a F => qn F rfl fun a F => ?_; refine qp F fun a F => ?_; refine qa F fun a F => nil (hK76 _ _ ?_); replace F : Fr a 76 [(0, .bool false)] := F.sub ⟨rfl, trivial⟩; refine wp_ret ?_; obtain rfl := si H; refine out1 F rfl rfl ?_; exact ⟨cf (ct m) c70, rfl, E.lv B0, cfb⟩
   replace H := im hb79 H; refine qn F (dz hb79) fun a F => qn F (dz hb79) fun a F => ?_; refine qv F (r_pick_f F rfl (dz hb79) rfl) fun a F => ?_; refine qm F fun a F => qn F rfl fun a F => qn F rfl fun a F => qn F rfl fun a F => ?_; refine qp F fun a F => ?_; refine qm F fun a F => qn F rfl fun a F => qn F rfl fun a F => qn F rfl fun a F => ?_; refine qp F fun a F => ?_; refine qm F fun a F => qn F rfl fun a F => qn F rfl fun a F => qn F rfl fun a F => ?_; refine qp F fun a F => ?_; refine qm F fun a F => qn F rfl fun a F => qn F rfl fun a F => qn F rfl fun a F => ?_; refine qp F fun a F => ?_; refine qm F fun a F => qn F rfl fun a F => qn F rfl fun a F => qn F rfl fun a F => ?_; refine qp F fun a F => ?_; refine qa F fun a F => nil (hK76 _ _ ?_); replace F : Fr a 76 [(0, .bool false)] := F.sub ⟨rfl, trivial⟩; refine wp_ret ?_; obtain rfl := si H; refine out1 F rfl rfl ?_; exact ⟨cf (ct m) c70, rfl, E.lv B0, cfb⟩
  replace H := im hb78 H; refine qn F (dz hb78) fun a F => qn F (dz hb78) fun a F => ?_; refine qv F (r_pick_f F rfl (dz hb78) rfl) fun a F => ?_; refine qm F fun a F => qn F rfl fun a F => qn F rfl fun a F => ?_; refine qp F fun a F => ?_; refine qm F fun a F => qn F rfl fun a F => qn F rfl fun a F => qn F rfl fun a F => ?_; refine qp F fun a F => ?_; refine qm F fun a F => qn F rfl fun a F => qn F rfl fun a F => qn F rfl fun a F => ?_; refine qp F fun a F => ?_; refine qm F fun a F => qn F rfl fun a F => qn F rfl fun a F => qn F rfl fun a F => ?_; refine qp F fun a F => ?_; refine qm F fun a F => qn F rfl fun a F => qn F rfl fun a F => qn F rfl fun a F => ?_; refine qp F fun a F => ?_; refine qm F fun a F => qn F rfl fun a F => qn F rfl fun a F => qn F rfl fun a F => ?_; refine qp F fun a F => ?_; refine qa F fun a F => nil (hK76 _ _ ?_); replace F : Fr a 76 [(0, .bool false)] := F.sub ⟨rfl, trivial⟩; refine wp_ret ?_; obtain rfl := si H; refine out1 F rfl rfl ?_; exact ⟨cf (ct m) c70, rfl, E.lv B0, cfb⟩
 replace H := im hb77 H; refine qn F (dz hb77) fun a F => qn F (dz hb77) fun a F => ?_; refine qv F (r_pick_f F rfl (dz hb77) rfl) fun a F => ?_; refine qm F fun a F => qn F rfl fun a F => qn F rfl fun a F => ?_; refine qp F fun a F => ?_; refine qm F fun a F => qn F rfl fun a F => qn F rfl fun a F => ?_; refine qp F fun a F => ?_; refine qm F fun a F => qn F rfl fun a F => qn F rfl fun a F => qn F rfl fun a F => ?_; refine qp F fun a F => ?_; refine qm F fun a F => qn F rfl fun a F => qn F rfl fun a F => qn F rfl fun a F => ?_; refine qp F fun a F => ?_; refine qm F fun a F => qn F rfl fun a F => qn F rfl fun a F => qn F rfl fun a F => ?_; refine qp F fun a F => ?_; refine qm F fun a F => qn F rfl fun a F => qn F rfl fun a F => qn F rfl fun a F => ?_; refine qp F fun a F => ?_; refine qm F fun a F => qn F rfl fun a F => qn F rfl fun a F => qn F rfl fun a F => ?_; refine qp F fun a F => ?_; refine qa F fun a F => nil (hK76 _ _ ?_); replace F : Fr a 76 [(0, .bool false)] := F.sub ⟨rfl, trivial⟩; refine wp_ret ?_; obtain rfl := si H; refine out1 F rfl rfl ?_; exact ⟨cf (ct m) c70, rfl, E.lv B0, cfb⟩
theorem haulagelaw20_lent.calls {m : Nat} {c0 : Nat → Nat} {w0 : World} {j5 : Nat} {A2 : Option Addr} {C3 : Nat} {a1 : List Int} (hm0 : 0 < m) (B0 : CB m c0 w0) (h4 : SL false (Kint .u8) j5 0 c0 w0 A2 C3 a1) (bj5 : j5 < m) (jr47 : Nat) (bjr47 : jr47 < m) (r : (List Int)) (H : haulagelaw20_lent.f a1 = some r) : Calls Try.prog 11 #[.slice A2 a1.length C3] w0 (fun e w_ => ∃ (c_ : Nat → Nat) (A0_ : Option Addr) (C0_ : Nat), e = .returned (.slice A0_ r.length C0_) ∧ Ev (fun x => False) c0 w0 c_ w_ ∧ CB m c_ w_ ∧ SL true (Kint .u8) jr47 0 c_ w_ A0_ C0_ (r ++ [201, 202, 203])) := by
 unfold haulagelaw20_lent.f at H; have B := B0.mono (show m ≤ m + 2 by omega); have E : Ev (fun x => False ∨ m ≤ x) c0 w0 c0 w0 := Ev.refl; refine enter (N := 18) (l := [.slice A2 a1.length C3]) Try.func11 rfl rfl (nb rfl) fun a F => ?_; refine sr fun K6 hK6 => qa F fun a F => nil (hK6 _ _ ?_); refine sr fun K7 hK7 => qm F fun a F => ?_; refine qv F (r_lensl F Try.underlying27 rfl) fun a F => ?_; refine qv F (r_add F rfl rfl) fun a F => ?_; replace H := ifN H; obtain ⟨g8, H⟩ := H; refine q_eff F rfl rfl (by decide) (e_make (k := (Kint .u8)) (x0 := 0) F et_27 rfl rfl (fun _ _ _ => rfl) (by decide) g8 c0 (m + 1) 0) ?_; rintro v w10 a ⟨c9, A11, C12, rfl, E13, h14, B15⟩ F; replace B := B15 _ B lm; replace h4 := h4.ev E13; replace E := E.n E13; refine qa F fun a F => nil (hK7 _ _ ?_); refine sr fun K16 hK16 => qm F fun a F => qm F fun a F => ?_; replace H := ifN H; obtain ⟨g17, H⟩ := H; refine q_eff F rfl rfl (by decide) (e_append (k := (Kint .u8)) (xs := (List.replicate (0 : Int).toNat (0 : Int))) (ys := a1) (c := c9) (j := (m + 1)) (i := 0) F et_27 rfl rfl h14 h4 g17 (len_ok g17) ne_zm) ?_; rintro v w19 a ⟨c18, A20, C21, rfl, E22, h23, B24⟩ F; replace B := B24 _ B lm; replace E := E.trans E22 lc1; refine qa F fun a F => nil (hK16 _ _ ?_); replace F : Fr a 18 [(0, .slice A2 a1.length C3), (3, .slice A20 ((List.replicate (0 : Int).toNat (0 : Int)) ++ a1).length C21)] := F.sub ⟨rfl, rfl, trivial⟩; refine sr fun K25 hK25 => qm F fun a F => ?_; refine q_eff F rfl rfl (by decide) (e_buildSlice (n := 3) (e := 5) (c := c18) (k := (Kint .u8)) (i := 0) F [(0, .int .u8 201), (1, .int .u8 202), (2, .int .u8 203)] [.int .u8 201, .int .u8 202, .int .u8 203] ([201, 202, 203] : List Int) (by exact ⟨rfl, rfl, rfl, rfl, rfl, rfl, trivial⟩) (fun w => by kernel_rfl) rfl (by decide) rfl ⟨rfl, rfl, rfl, trivial⟩ (fun q => q) 0) ?_; rintro v w27 a ⟨c26, A28, C29, rfl, E30, h31, B32⟩ F; replace B := B32 _ B (pl hm0); replace h23 := h23.ev E30; replace E := E.n E30; replace H := ifN H; obtain ⟨g33, H⟩ := H; refine q_eff F rfl rfl (by decide) (e_append (k := (Kint .u8)) (xs := ((List.replicate (0 : Int).toNat (0 : Int)) ++ a1)) (ys := [201, 202, 203]) (c := c26) (j := (m + 1)) (i := 0) F et_27 rfl rfl h23 h31 g33 (len_ok g33) ne_zm) ?_; rintro v w35 a ⟨c34, A36, C37, rfl, E38, h39, B40⟩ F; replace B := B40 _ B lm; replace E := E.trans E38 lc1; refine qa F fun a F => nil (hK25 _ _ ?_); refine sr fun K41 hK41 => qm F fun a F => qm F fun a F => ?_; refine qv F (r_lensl F Try.underlying27 rfl) fun a F => ?_; replace H := ifN H; obtain ⟨g42, H⟩ := H; obtain ⟨A43, C44, r45, h46⟩ := cut_hM (kh := .i64) Try.underlying27 sz_5 h39 g42; refine qv F (r_slice (vl := none) (vh := some (.int .i64 (a1.length : Int))) (vm := none) F rfl rfl rfl rfl r45) fun a F => ?_; refine qa F fun a F => nil (hK41 _ _ ?_); replace F : Fr a 18 [(2, .slice A43 ((List.replicate (0 : Int).toNat (0 : Int)) ++ a1).length C44)] := F.sub ⟨rfl, trivial⟩; refine wp_ret ?_; obtain rfl := si H; refine out1 F rfl rfl ?_
 exact ⟨cf (fun x_ => if x_ = m + 1 then jr47 else if x_ < m then x_ else 0) c34, A43, C44, rfl, E.lv B0, cfb, SL.rc h46 cfk cfk⟩
theorem haulagelaw20_numbers.calls (k : Nat) {m : Nat} {c0 : Nat → Nat} {w0 : World} {j5 : Nat} {j10 : Nat} {A2 : Option Addr} {C3 : Nat} {A7 : Option Addr} {C8 : Nat} {a1 : List Int} {a6 : List Int} (hm0 : 0 < m) (B0 : CB m c0 w0) (h4 : SL true (Kint .i64) j5 0 c0 w0 A2 C3 a1) (h9 : SL true (Kint .i64) j10 0 c0 w0 A7 C8 a6) (bj5 : 0 < j5 ∧ j5 < m) (bj10 : 0 < j10 ∧ j10 < m ∧ j10 ≠ j5) (r : Bool) (H : haulagelaw20_numbers.f k a1 a6 = some r) : Calls Try.prog 22 #[.slice A2 a1.length C3, .slice A7 a6.length C8] w0 (fun e w_ => ∃ (c_ : Nat → Nat), e = .returned (.bool r) ∧ Ev (fun x => (x = j5 ∨ x = j10)) c0 w0 c_ w_ ∧ CB m c_ w_) := by
 unfold haulagelaw20_numbers.f at H; have B := B0.mono (show m ≤ m + 1 by omega); have E : Ev (fun x => (x = j5 ∨ x = j10) ∨ m ≤ x) c0 w0 c0 w0 := Ev.refl; refine enter (N := 118) (l := [.slice A2 a1.length C3, .slice A7 a6.length C8]) Try.func22 rfl rfl (nb rfl) fun a F => ?_; refine sr fun K11 hK11 => qa F fun a F => nil (hK11 _ _ ?_); refine sq fun K12 hK12 => ?_; refine sr fun K13 hK13 => qa F fun a F => nil (hK13 _ _ ?_); refine wp_block ?_; obtain ⟨x72, HL, HR71⟩ := bind_some H; have J119 : ∀ (c120 : Nat → Nat) (w121 : World) (a : Act) (l112 : List Int) (A113 : Option Addr) (C114 : Nat) (l116 : List Int) (A117 : Option Addr) (C118 : Nat), Fr a 118 [(0, .slice A113 l112.length C114), (1, .slice A117 l116.length C118)] → Ev (fun x => (x = j5 ∨ x = j10) ∨ m ≤ x) c0 w0 c120 w121 → CB (m + 1) c120 w121 → SL true (Kint .i64) j5 0 c120 w121 A113 C114 l112 → SL true (Kint .i64) j10 0 c120 w121 A117 C118 l116 → haulagelaw20_numbers.j2 k l112 l116 = some r → K12 a w121 := by
  intro c120 w121 a l112 A113 C114 l116 A117 C118 F E B h111 h115 H; unfold haulagelaw20_numbers.j2 at H; refine hK12 _ _ ?_; refine sr fun K122 hK122 => qm F fun a F => qa F fun a F => ?_; replace h111 := TW.start h111; refine nil (hK122 _ _ ?_); refine sr fun K123 hK123 => qm F fun a F => qa F fun a F => ?_; replace h115 := TW.start h115; refine nil (hK123 _ _ ?_); refine sq fun K124 hK124 => ?_; refine sr fun K125 hK125 => qa F fun a F => nil (hK125 _ _ ?_)
  as_aux_lemma =>
  refine wp_block ?_; obtain ⟨x140, HL, HR139⟩ := bind_some H; have J172 : ∀ (c173 : Nat → Nat) (w174 : World) (a : Act) (l169 : List Int) (A170 : Option Addr) (C171 : Nat), Fr a 118 [(0, .slice A113 l112.length C114), (1, .slice A117 l116.length C118), (6, .slice A170 l169.length C171), (7, .slice A117 l116.length C118)] → Ev (fun x => (x = j5 ∨ x = j10) ∨ m ≤ x) c0 w0 c173 w174 → CB (m + 1) c173 w174 → TW (Kint .i64) j10 c173 w174 A117 C118 l116 A117 C118 l116 → TW (Kint .i64) j5 c173 w174 A113 C114 l112 A170 C171 l169 → haulagelaw20_numbers.j4 k l112 l116 l169 = some r → K124 a w174 := by
   intro c173 w174 a l169 A170 C171 F E B h115 h168 H; unfold haulagelaw20_numbers.j4 at H; refine hK124 _ _ ?_; refine sq fun K175 hK175 => ?_; refine sq fun K176 hK176 => ?_; obtain ⟨c177, hc177⟩ : ∃ c', c' = fun k => if c173 k = j5 then 0 else c173 k := ⟨_, rfl⟩; have e178 : ∀ b, c173 b ≠ j5 → c177 b = c173 b := fun b hb => by rw [hc177]; exact if_neg hb
   replace h115 := TW.rc h115 (rk e178 bj10.2.2) (rk e178 (ne_z bj5.1)); obtain ⟨h179, h168⟩ := TW.fr (c' := c177) h168 (fun k_ hk_ => by rw [hc177]; exact if_pos hk_) (rk e178 (ne_z bj5.1)); replace E : Ev (fun x => (x = j5 ∨ x = j10) ∨ m ≤ x) c0 w0 c177 w174 := E.rkM e178 (by simp); have B : CB (m + 1) c177 w174 := by rw [hc177]; exact B.freeze (by omega)
   refine reg ?_; refine qa F fun a F => nil (hK176 _ _ ?_); refine wp_block ?_; obtain ⟨x194, HL, HR193⟩ := bind_some H; have J226 : ∀ (c227 : Nat → Nat) (w228 : World) (a : Act) (l223 : List Int) (A224 : Option Addr) (C225 : Nat), Fr a 118 [(0, .slice A113 l112.length C114), (1, .slice A117 l116.length C118), (6, .slice A170 l169.length C171), (7, .slice A224 l223.length C225)] → Ev (fun x => (x = j5 ∨ x = j10) ∨ m ≤ x) c0 w0 c227 w228 → CB (m + 1) c227 w228 → SL false (Kint .i64) 0 0 c227 w228 A113 C114 l112 → SL false (Kint .i64) 0 0 c227 w228 A170 C171 l169 → TW (Kint .i64) j10 c227 w228 A117 C118 l116 A224 C225 l223 → haulagelaw20_numbers.j6 k l112 l116 l169 l223 = some r → K175 a w228 := by
    intro c227 w228 a l223 A224 C225 F E B h179 h168 h222 H; unfold haulagelaw20_numbers.j6 at H; refine hK175 _ _ ?_
    as_aux_lemma =>
    refine sq fun K229 hK229 => ?_; refine sq fun K230 hK230 => ?_; obtain ⟨c231, hc231⟩ : ∃ c', c' = fun k => if c227 k = j10 then 0 else c227 k := ⟨_, rfl⟩; have e232 : ∀ b, c227 b ≠ j10 → c231 b = c227 b := fun b hb => by rw [hc231]; exact if_neg hb
    replace h179 := SL.rc h179 (rk e232 (ne_z bj10.1)) (rk e232 (ne_z bj10.1)); replace h168 := SL.rc h168 (rk e232 (ne_z bj10.1)) (rk e232 (ne_z bj10.1)); obtain ⟨h233, h222⟩ := TW.fr (c' := c231) h222 (fun k_ hk_ => by rw [hc231]; exact if_pos hk_) (rk e232 (ne_z bj10.1)); replace E : Ev (fun x => (x = j5 ∨ x = j10) ∨ m ≤ x) c0 w0 c231 w228 := E.rkM e232 (by simp); have B : CB (m + 1) c231 w228 := by rw [hc231]; exact B.freeze (by omega)
    refine reg ?_; refine qa F fun a F => nil (hK230 _ _ ?_); refine wp_block ?_; obtain ⟨x244, HL, HR243⟩ := bind_some H; have J310 : ∀ (c311 : Nat → Nat) (w312 : World) (a : Act), Fr a 118 [(0, .slice A113 l112.length C114), (1, .slice A117 l116.length C118), (6, .slice A170 l169.length C171), (7, .slice A224 l223.length C225)] → Ev (fun x => (x = j5 ∨ x = j10) ∨ m ≤ x) c0 w0 c311 w312 → CB (m + 1) c311 w312 → SL false (Kint .i64) 0 0 c311 w312 A113 C114 l112 → SL false (Kint .i64) 0 0 c311 w312 A117 C118 l116 → SL false (Kint .i64) 0 0 c311 w312 A170 C171 l169 → SL false (Kint .i64) 0 0 c311 w312 A224 C225 l223 → haulagelaw20_numbers.j9 k l112 l116 l169 l223 = some r → K229 a w312 := by
     intro c311 w312 a  F E B h179 h233 h168 h222 H; unfold haulagelaw20_numbers.j9 at H; refine hK229 _ _ ?_; refine sq fun K313 hK313 => ?_; refine sr fun K314 hK314 => qa F fun a F => nil (hK314 _ _ ?_); refine wp_block ?_; obtain ⟨x325, HL, HR324⟩ := bind_some H; have J355 : ∀ (c356 : Nat → Nat) (w357 : World) (a : Act), Fr a 118 [] → Ev (fun x => (x = j5 ∨ x = j10) ∨ m ≤ x) c0 w0 c356 w357 → CB (m + 1) c356 w357 → haulagelaw20_numbers.j12 = some r → K313 a w357 := by
      intro c356 w357 a  F E B  H; unfold haulagelaw20_numbers.j12 at H
      as_aux_lemma =>
      refine hK313 _ _ ?_; refine sr fun K358 hK358 => qa F fun a F => nil (hK358 _ _ ?_); refine wp_ret ?_; obtain rfl := si H; refine out1 F rfl rfl ?_; exact ⟨cf (ct m) c356, rfl, E.lv B0, cfb⟩
     refine loop_fuel (I := fun n a w => ∃ (i315 : Int) (c : Nat → Nat), Fr a 118 [(0, .slice A113 l112.length C114), (1, .slice A117 l116.length C118), (6, .slice A170 l169.length C171), (7, .slice A224 l223.length C225), (11, .int .i64 i315)] ∧ Ev (fun x => (x = j5 ∨ x = j10) ∨ m ≤ x) c0 w0 c w ∧ CB (m + 1) c w ∧ SL false (Kint .i64) 0 0 c w A113 C114 l112 ∧ SL false (Kint .i64) 0 0 c w A117 C118 l116 ∧ SL false (Kint .i64) 0 0 c w A170 C171 l169 ∧ SL false (Kint .i64) 0 0 c w A224 C225 l223 ∧ loop (fun (s_ : Int) => haulagelaw20_numbers.b11 l112 l116 l169 l223 s_) n i315 = some x325) (k := k) ⟨0, c311, F.sub ⟨rfl, rfl, rfl, rfl, rfl, trivial⟩, E, B, h179, h233, h168, h222, HL⟩ ?_; clear HL H E F B; intro n322 X318 hX318 a w317 ⟨i315, c316, F, E, B, h179, h233, h168, h222, HL⟩; obtain ⟨n323, ctl321, rfl, HB, HN319, HD320⟩ := loop_some HL; have H : haulagelaw20_numbers.b11 l112 l116 l169 l223 i315 = some ctl321 := HB; clear HB HL; unfold haulagelaw20_numbers.b11 at H; refine sq fun K326 hK326 => ?_; refine sr fun K327 hK327 => qm F fun a F => ?_; refine qv F (r_lss F rfl rfl) fun a F => ?_; refine nil (hK327 _ _ ?_)
     by_cases hb328 : i315 < 70
     ·replace H := ip hb328 H; refine wct (fb F (dt hb328)) (wp_skip (hK326 _ _ ?_)); refine sq fun K329 hK329 => ?_; refine wp_block ?_; refine sq fun K330 hK330 => ?_; have J349 : ∀ (c350 : Nat → Nat) (w351 : World) (a : Act) (b348 : Bool), Fr a 118 [(0, .slice A113 l112.length C114), (1, .slice A117 l116.length C118), (6, .slice A170 l169.length C171), (7, .slice A224 l223.length C225), (11, .int .i64 i315), (117, .bool b348)] → Ev (fun x => (x = j5 ∨ x = j10) ∨ m ≤ x) c0 w0 c350 w351 → CB (m + 1) c350 w351 → SL false (Kint .i64) 0 0 c350 w351 A113 C114 l112 → SL false (Kint .i64) 0 0 c350 w351 A117 C118 l116 → SL false (Kint .i64) 0 0 c350 w351 A170 C171 l169 → SL false (Kint .i64) 0 0 c350 w351 A224 C225 l223 → haulagelaw20_numbers.j10 i315 b348 = some ctl321 → K330 a w351 := by
       intro c350 w351 a b348 F E B h179 h233 h168 h222 H; unfold haulagelaw20_numbers.j10 at H
       as_aux_lemma =>
       refine hK330 _ _ ?_
       by_cases hb352 : b348 = true
       ·replace H := ip hb352 H; refine wct (fb F hb352) ?_; refine sr fun K353 hK353 => qa F fun a F => nil (hK353 _ _ ?_); refine wp_ret ?_; refine inbR ?_; refine thenR ?_; refine thenR ?_; refine inbR ?_; refine thenR ?_; have hx_ := HD320 _ (si H).symm; have H := HR324; rw [← hx_] at H; replace H : some false = some r := H; obtain rfl := si H; refine out1 F rfl rfl ?_; exact ⟨cf (ct m) c350, rfl, E.lv B0, cfb⟩
       replace H := im hb352 H; refine wcf (fb F (bfalse hb352)) (wp_skip (hK329 _ _ ?_)); refine reg ?_; refine qm F fun a F => ?_; refine qv F (r_add F rfl rfl) fun a F => ?_
       as_aux_lemma =>
       refine qa F fun a F => nil ?_; replace H := HN319 _ (si H).symm; exact hX318 _ _ _ (Nat.lt_succ_self _) ⟨(IntKind.i64.wrap (i315 + 1)), c350, F.sub ⟨rfl, rfl, rfl, rfl, rfl, trivial⟩, E, B, h179, h233, h168, h222, H⟩
      refine reg ?_; refine qm F fun a F => qm F fun a F => ?_; refine qv F (r_lensl F Try.underlying36 rfl) fun a F => ?_; refine qm F fun a F => ?_; refine qv F (r_add F rfl rfl) fun a F => ?_; replace H := ifN H; obtain ⟨g331, H⟩ := H; obtain ⟨ad332, cs333, e334, h335, r336⟩ := SL.at h168 (IntKind.i64.wrap ((l112.length : Int) + i315)) g331.1 g331.2; obtain rfl : cs333 = [.int .i64 (rd l169 (IntKind.i64.wrap ((l112.length : Int) + i315)))] := r336; obtain ⟨qa337, qqa337⟩ : ∃ q, q = (ad332.add ((IntKind.i64.wrap ((l112.length : Int) + i315)).toNat * 1)) := ⟨_, rfl⟩; have h335 : AT false 0 c316 w317 qa337 [.int .i64 (rd l169 (IntKind.i64.wrap ((l112.length : Int) + i315)))] := by rw [qqa337]; exact h335
      refine qv F (r_indexAddr' F Try.underlying36 sz_3 rfl rfl g331.1 g331.2 e334 qqa337) fun a F => ?_; refine qv F (r_load F rfl ag_3 (AT.cell0 h335 rfl)) fun a F => ?_; refine qm F fun a F => ?_; refine qv F (r_add F rfl rfl) fun a F => ?_; refine qv F (r_neq F rfl rfl) fun a F => ?_; refine qm F fun a F => ?_
      by_cases hb339 : (rd l169 (IntKind.i64.wrap ((l112.length : Int) + i315))) = (IntKind.i64.wrap (5000 + i315))
      ·replace H := ip hb339 H; refine qy F (congrArg not (dt hb339)) ?_
       as_aux_lemma =>
       refine qm F fun a F => ?_; refine qy F (congrArg not (dt hb339)) ?_; refine qm F fun a F => ?_; refine qy F (congrArg not (dt hb339)) ?_; refine qv F (r_lensl F Try.underlying36 rfl) fun a F => ?_; refine qy F (congrArg not (dt hb339)) ?_; refine qm F fun a F => ?_; refine qy F (congrArg not (dt hb339)) ?_; refine qv F (r_add F rfl rfl) fun a F => ?_; replace H := ifN H; obtain ⟨g340, H⟩ := H; obtain ⟨ad341, cs342, e343, h344, r345⟩ := SL.at h222 (IntKind.i64.wrap ((l116.length : Int) + i315)) g340.1 g340.2; obtain rfl : cs342 = [.int .i64 (rd l223 (IntKind.i64.wrap ((l116.length : Int) + i315)))] := r345; obtain ⟨qa346, qqa346⟩ : ∃ q, q = (ad341.add ((IntKind.i64.wrap ((l116.length : Int) + i315)).toNat * 1)) := ⟨_, rfl⟩; have h344 : AT false 0 c316 w317 qa346 [.int .i64 (rd l223 (IntKind.i64.wrap ((l116.length : Int) + i315)))] := by rw [qqa346]; exact h344
       refine qy F (congrArg not (dt hb339)) ?_; refine qv F (r_indexAddr' F Try.underlying36 sz_3 rfl rfl g340.1 g340.2 e343 qqa346) fun a F => ?_; refine qy F (congrArg not (dt hb339)) ?_; refine qv F (r_load F rfl ag_3 (AT.cell0 h344 rfl)) fun a F => ?_; refine qy F (congrArg not (dt hb339)) ?_; refine qm F fun a F => ?_; refine qy F (congrArg not (dt hb339)) ?_
       as_aux_lemma =>
       refine qv F (r_sub F rfl rfl) fun a F => ?_; refine qy F (congrArg not (dt hb339)) ?_; refine qv F (r_neq F rfl rfl) fun a F => ?_; refine qv F (r_pick_f F rfl (congrArg not (dt hb339)) rfl) fun a F => ?_; refine nil ?_; exact J349 c316 w317 a (!decide ((rd l223 (IntKind.i64.wrap ((l116.length : Int) + i315))) = (IntKind.i64.wrap ((-5000) - i315)))) (F.sub ⟨rfl, rfl, rfl, rfl, rfl, rfl, trivial⟩) E B h179 h233 h168 h222 H
      replace H := im hb339 H; refine qn F (congrArg not (dz hb339)) fun a F => qn F (congrArg not (dz hb339)) fun a F => qn F (congrArg not (dz hb339)) fun a F => qn F (congrArg not (dz hb339)) fun a F => qn F (congrArg not (dz hb339)) fun a F => qn F (congrArg not (dz hb339)) fun a F => qn F (congrArg not (dz hb339)) fun a F => qn F (congrArg not (dz hb339)) fun a F => ?_; refine qn F (congrArg not (dz hb339)) fun a F => qn F (congrArg not (dz hb339)) fun a F => ?_; refine qv F (r_pick_t F rfl (congrArg not (dz hb339)) rfl) fun a F => ?_; refine nil ?_; exact J349 c316 w317 a true (F.sub ⟨rfl, rfl, rfl, rfl, rfl, rfl, trivial⟩) E B h179 h233 h168 h222 H
     replace H := im hb328 H; refine wcf (fb F (dz hb328)) ?_; refine wp_exit ?_; refine thenE ?_; refine thenE ?_; refine inbE ?_; have hx_ := HD320 _ (si H).symm; have H := HR324; rw [← hx_] at H; exact J355 c316 w317 a  (F.sub trivial) E B  H
    refine loop_fuel (I := fun n a w => ∃ (i234 : Int) (c : Nat → Nat), Fr a 118 [(0, .slice A113 l112.length C114), (1, .slice A117 l116.length C118), (6, .slice A170 l169.length C171), (7, .slice A224 l223.length C225), (10, .int .i64 i234)] ∧ Ev (fun x => (x = j5 ∨ x = j10) ∨ m ≤ x) c0 w0 c w ∧ CB (m + 1) c w ∧ SL false (Kint .i64) 0 0 c w A113 C114 l112 ∧ SL false (Kint .i64) 0 0 c w A117 C118 l116 ∧ SL false (Kint .i64) 0 0 c w A170 C171 l169 ∧ SL false (Kint .i64) 0 0 c w A224 C225 l223 ∧ loop (fun (s_ : Int) => haulagelaw20_numbers.b8 l112 l116 l169 l223 s_) n i234 = some x244) (k := k) ⟨0, c231, F.sub ⟨rfl, rfl, rfl, rfl, rfl, trivial⟩, E, B, h179, h233, h168, h222, HL⟩ ?_; clear HL H E F B; intro n241 X237 hX237 a w236 ⟨i234, c235, F, E, B, h179, h233, h168, h222, HL⟩; obtain ⟨n242, ctl240, rfl, HB, HN238, HD239⟩ := loop_some HL; have H : haulagelaw20_numbers.b8 l112 l116 l169 l223 i234 = some ctl240 := HB; clear HB HL; unfold haulagelaw20_numbers.b8 at H
    as_aux_lemma =>
    refine sq fun K245 hK245 => ?_; refine sr fun K246 hK246 => qm F fun a F => qm F fun a F => ?_; refine qv F (r_lensl F Try.underlying36 rfl) fun a F => ?_; refine qv F (r_lss F rfl rfl) fun a F => ?_; refine nil (hK246 _ _ ?_)
    by_cases hb247 : i234 < (l112.length : Int)
    ·replace H := ip hb247 H; refine wct (fb F (dt hb247)) (wp_skip (hK245 _ _ ?_)); refine sq fun K248 hK248 => ?_; refine wp_block ?_; refine sq fun K249 hK249 => ?_; have J304 : ∀ (c305 : Nat → Nat) (w306 : World) (a : Act) (b303 : Bool), Fr a 118 [(0, .slice A113 l112.length C114), (1, .slice A117 l116.length C118), (6, .slice A170 l169.length C171), (7, .slice A224 l223.length C225), (10, .int .i64 i234), (91, .bool b303)] → Ev (fun x => (x = j5 ∨ x = j10) ∨ m ≤ x) c0 w0 c305 w306 → CB (m + 1) c305 w306 → SL false (Kint .i64) 0 0 c305 w306 A113 C114 l112 → SL false (Kint .i64) 0 0 c305 w306 A117 C118 l116 → SL false (Kint .i64) 0 0 c305 w306 A170 C171 l169 → SL false (Kint .i64) 0 0 c305 w306 A224 C225 l223 → haulagelaw20_numbers.j7 i234 b303 = some ctl240 → K249 a w306 := by
      intro c305 w306 a b303 F E B h179 h233 h168 h222 H; unfold haulagelaw20_numbers.j7 at H; refine hK249 _ _ ?_
      by_cases hb307 : b303 = true
      ·replace H := ip hb307 H; refine wct (fb F hb307) ?_; refine sr fun K308 hK308 => qa F fun a F => nil (hK308 _ _ ?_); refine wp_ret ?_; refine inbR ?_; refine thenR ?_; refine thenR ?_; refine inbR ?_
       as_aux_lemma =>
       refine thenR ?_; have hx_ := HD239 _ (si H).symm; have H := HR243; rw [← hx_] at H; replace H : some false = some r := H; obtain rfl := si H; refine out1 F rfl rfl ?_; exact ⟨cf (ct m) c305, rfl, E.lv B0, cfb⟩
      replace H := im hb307 H; refine wcf (fb F (bfalse hb307)) (wp_skip (hK248 _ _ ?_)); refine reg ?_; refine qm F fun a F => ?_; refine qv F (r_add F rfl rfl) fun a F => ?_; refine qa F fun a F => nil ?_; replace H := HN238 _ (si H).symm; exact hX237 _ _ _ (Nat.lt_succ_self _) ⟨(IntKind.i64.wrap (i234 + 1)), c305, F.sub ⟨rfl, rfl, rfl, rfl, rfl, trivial⟩, E, B, h179, h233, h168, h222, H⟩
     refine regD (SB No c235 w236) 38 (.q 0 (.q 1 (.q 2 (.q 3 (.q 4 (.q 5 (.q 6 (.q 7 (.q 8 (.q 9 (.q 10 (.q 11 (.q 12 (.q 13 (.q 14 (.q 15 (.q 16 (.q 17 (.q 18 (.q 19 (.q 20 (.q 21 (.q 22 (.q 23 (.q 24 (.q 25 (.q 26 (.q 27 (.q 28 (.q 29 (.q 30 (.q 31 (.q 32 (.q 33 (.q 34 (.q 35 (.q 36 (.q 37 .nil)))))))))))))))))))))))))))))))))))))) Try_hm (by decide +kernel) ?_; intro w250 w1_ w2_ w3_ w4_; have E251 : Ev No c235 w236 c235 w250 := Ev.same w1_ w2_ w3_ w4_; replace B := B.same w1_; have zh179 := h179; have zh233 := h233; have zh168 := h168; have zh222 := h222; have ER : Ev No c235 w236 c235 w250 := Ev.same w1_ w2_ w3_ w4_
     as_aux_lemma =>
     replace h179 := h179.ev E251; replace h233 := h233.ev E251; replace h168 := h168.ev E251; replace h222 := h222.ev E251; replace E := E.n E251; refine dm F ER.sb fun a F => ?_; refine dm F ER.sb fun a F => ?_; replace H := ifN H; obtain ⟨g252, H⟩ := H; obtain ⟨ad253, cs254, e255, h256, r257⟩ := SL.at zh179 i234 g252.1 g252.2; obtain rfl : cs254 = [.int .i64 (rd l112 i234)] := r257; obtain ⟨qa258, qqa258⟩ : ∃ q, q = (ad253.add (i234.toNat * 1)) := ⟨_, rfl⟩; have h256 : AT false 0 c235 w236 qa258 [.int .i64 (rd l112 i234)] := by rw [qqa258]; exact h256
     have zh256 := h256; refine dq F (fun wq hS => r_indexAddr' F Try.underlying36 sz_3 rfl rfl g252.1 g252.2 e255 qqa258) ER.sb fun a F => ?_; refine dq F (fun wq hS => r_load F rfl ag_3 (AT.cell0 (AT.sb zh256 hS nq) rfl)) ER.sb fun a F => ?_; refine dm F ER.sb fun a F => ?_; refine dq F (fun wq hS => r_add F rfl rfl) ER.sb fun a F => ?_; refine dq F (fun wq hS => r_neq F rfl rfl) ER.sb fun a F => ?_; refine dm F ER.sb fun a F => ?_
     by_cases hb260 : (rd l112 i234) = (IntKind.i64.wrap (10 + i234))
     ·replace H := ip hb260 H; refine dy F (congrArg not (dt hb260)) (fun wq hS => r_move F rfl) ER.sb fun a F => ?_
      as_aux_lemma =>
      refine dy F (congrArg not (dt hb260)) (fun wq hS => r_move F rfl) ER.sb fun a F => ?_; replace H := ifN H; obtain ⟨g261, H⟩ := H; obtain ⟨ad262, cs263, e264, h265, r266⟩ := SL.at zh233 i234 g261.1 g261.2; obtain rfl : cs263 = [.int .i64 (rd l116 i234)] := r266; obtain ⟨qa267, qqa267⟩ : ∃ q, q = (ad262.add (i234.toNat * 1)) := ⟨_, rfl⟩; have h265 : AT false 0 c235 w236 qa267 [.int .i64 (rd l116 i234)] := by rw [qqa267]; exact h265
      have zh265 := h265; refine dy F (congrArg not (dt hb260)) (fun wq hS => r_indexAddr' F Try.underlying36 sz_3 rfl rfl g261.1 g261.2 e264 qqa267) ER.sb fun a F => ?_; refine dy F (congrArg not (dt hb260)) (fun wq hS => r_load F rfl ag_3 (AT.cell0 (AT.sb zh265 hS nq) rfl)) ER.sb fun a F => ?_; refine dy F (congrArg not (dt hb260)) (fun wq hS => r_move F rfl) ER.sb fun a F => ?_; refine dy F (congrArg not (dt hb260)) (fun wq hS => r_sub F rfl rfl) ER.sb fun a F => ?_; refine dy F (congrArg not (dt hb260)) (fun wq hS => r_neq F rfl rfl) ER.sb fun a F => ?_; refine dq F (fun wq hS => r_pick_f F rfl (congrArg not (dt hb260)) rfl) ER.sb fun a F => ?_; refine dm F ER.sb fun a F => ?_
      by_cases hb269 : (rd l116 i234) = (IntKind.i64.wrap ((-10) - i234))
      ·replace H := ip hb269 H; refine dy F (congrArg not (dt hb269)) (fun wq hS => r_move F rfl) ER.sb fun a F => ?_; refine dy F (congrArg not (dt hb269)) (fun wq hS => r_move F rfl) ER.sb fun a F => ?_; replace H := ifN H; obtain ⟨g270, H⟩ := H; obtain ⟨ad271, cs272, e273, h274, r275⟩ := SL.at zh168 i234 g270.1 g270.2; obtain rfl : cs272 = [.int .i64 (rd l169 i234)] := r275; obtain ⟨qa276, qqa276⟩ : ∃ q, q = (ad271.add (i234.toNat * 1)) := ⟨_, rfl⟩; have h274 : AT false 0 c235 w236 qa276 [.int .i64 (rd l169 i234)] := by rw [qqa276]; exact h274
       have zh274 := h274
       as_aux_lemma =>
       refine dy F (congrArg not (dt hb269)) (fun wq hS => r_indexAddr' F Try.underlying36 sz_3 rfl rfl g270.1 g270.2 e273 qqa276) ER.sb fun a F => ?_; refine dy F (congrArg not (dt hb269)) (fun wq hS => r_load F rfl ag_3 (AT.cell0 (AT.sb zh274 hS nq) rfl)) ER.sb fun a F => ?_; refine dy F (congrArg not (dt hb269)) (fun wq hS => r_move F rfl) ER.sb fun a F => ?_; refine dy F (congrArg not (dt hb269)) (fun wq hS => r_move F rfl) ER.sb fun a F => ?_; replace H := ifN H; obtain ⟨g278, H⟩ := H; obtain ⟨ad279, cs280, e281, h282, r283⟩ := SL.at zh179 i234 g278.1 g278.2; obtain rfl : cs280 = [.int .i64 (rd l112 i234)] := r283; obtain ⟨qa284, qqa284⟩ : ∃ q, q = (ad279.add (i234.toNat * 1)) := ⟨_, rfl⟩; have h282 : AT false 0 c235 w236 qa284 [.int .i64 (rd l112 i234)] := by rw [qqa284]; exact h282
       have zh282 := h282; refine dy F (congrArg not (dt hb269)) (fun wq hS => r_indexAddr' F Try.underlying36 sz_3 rfl rfl g278.1 g278.2 e281 qqa284) ER.sb fun a F => ?_; refine dy F (congrArg not (dt hb269)) (fun wq hS => r_load F rfl ag_3 (AT.cell0 (AT.sb zh282 hS nq) rfl)) ER.sb fun a F => ?_; refine dy F (congrArg not (dt hb269)) (fun wq hS => r_neq F rfl rfl) ER.sb fun a F => ?_; refine dq F (fun wq hS => r_pick_f F rfl (congrArg not (dt hb269)) rfl) ER.sb fun a F => ?_; refine dm F ER.sb fun a F => ?_
       by_cases hb286 : (rd l169 i234) = (rd l112 i234)
       ·replace H := ip hb286 H; refine dy F (congrArg not (dt hb286)) (fun wq hS => r_move F rfl) ER.sb fun a F => ?_; refine dy F (congrArg not (dt hb286)) (fun wq hS => r_move F rfl) ER.sb fun a F => ?_; replace H := ifN H; obtain ⟨g287, H⟩ := H; obtain ⟨ad288, cs289, e290, h291, r292⟩ := SL.at zh222 i234 g287.1 g287.2; obtain rfl : cs289 = [.int .i64 (rd l223 i234)] := r292; obtain ⟨qa293, qqa293⟩ : ∃ q, q = (ad288.add (i234.toNat * 1)) := ⟨_, rfl⟩; have h291 : AT false 0 c235 w236 qa293 [.int .i64 (rd l223 i234)] := by rw [qqa293]; exact h291
        have zh291 := h291
        as_aux_lemma =>
        refine dy F (congrArg not (dt hb286)) (fun wq hS => r_indexAddr' F Try.underlying36 sz_3 rfl rfl g287.1 g287.2 e290 qqa293) ER.sb fun a F => ?_; refine dy F (congrArg not (dt hb286)) (fun wq hS => r_load F rfl ag_3 (AT.cell0 (AT.sb zh291 hS nq) rfl)) ER.sb fun a F => ?_; refine dy F (congrArg not (dt hb286)) (fun wq hS => r_move F rfl) ER.sb fun a F => ?_; refine dy F (congrArg not (dt hb286)) (fun wq hS => r_move F rfl) ER.sb fun a F => ?_; replace H := ifN H; obtain ⟨g295, H⟩ := H; obtain ⟨ad296, cs297, e298, h299, r300⟩ := SL.at zh233 i234 g295.1 g295.2; obtain rfl : cs297 = [.int .i64 (rd l116 i234)] := r300; obtain ⟨qa301, qqa301⟩ : ∃ q, q = (ad296.add (i234.toNat * 1)) := ⟨_, rfl⟩; have h299 : AT false 0 c235 w236 qa301 [.int .i64 (rd l116 i234)] := by rw [qqa301]; exact h299
        have zh299 := h299; refine dy F (congrArg not (dt hb286)) (fun wq hS => r_indexAddr' F Try.underlying36 sz_3 rfl rfl g295.1 g295.2 e298 qqa301) ER.sb fun a F => ?_; refine dy F (congrArg not (dt hb286)) (fun wq hS => r_load F rfl ag_3 (AT.cell0 (AT.sb zh299 hS nq) rfl)) ER.sb fun a F => ?_; refine dy F (congrArg not (dt hb286)) (fun wq hS => r_neq F rfl rfl) ER.sb fun a F => ?_; refine dq F (fun wq hS => r_pick_f F rfl (congrArg not (dt hb286)) rfl) ER.sb fun a F => ?_; refine d_nil ?_; exact J304 c235 w250 a (!decide ((rd l223 i234) = (rd l116 i234))) (F.sub ⟨rfl, rfl, rfl, rfl, rfl, rfl, trivial⟩) E B h179 h233 h168 h222 H
       replace H := im hb286 H; refine dn F (congrArg not (dz hb286)) ER.sb fun a F => ?_; refine dn F (congrArg not (dz hb286)) ER.sb fun a F => ?_; refine dn F (congrArg not (dz hb286)) ER.sb fun a F => ?_; refine dn F (congrArg not (dz hb286)) ER.sb fun a F => ?_
       as_aux_lemma =>
       refine dn F (congrArg not (dz hb286)) ER.sb fun a F => ?_; refine dn F (congrArg not (dz hb286)) ER.sb fun a F => ?_; refine dn F (congrArg not (dz hb286)) ER.sb fun a F => ?_; refine dn F (congrArg not (dz hb286)) ER.sb fun a F => ?_; refine dn F (congrArg not (dz hb286)) ER.sb fun a F => ?_; refine dq F (fun wq hS => r_pick_t F rfl (congrArg not (dz hb286)) rfl) ER.sb fun a F => ?_; refine d_nil ?_; exact J304 c235 w250 a true (F.sub ⟨rfl, rfl, rfl, rfl, rfl, rfl, trivial⟩) E B h179 h233 h168 h222 H
      replace H := im hb269 H; refine dn F (congrArg not (dz hb269)) ER.sb fun a F => ?_; refine dn F (congrArg not (dz hb269)) ER.sb fun a F => ?_; refine dn F (congrArg not (dz hb269)) ER.sb fun a F => ?_; refine dn F (congrArg not (dz hb269)) ER.sb fun a F => ?_; refine dn F (congrArg not (dz hb269)) ER.sb fun a F => ?_; refine dn F (congrArg not (dz hb269)) ER.sb fun a F => ?_; refine dn F (congrArg not (dz hb269)) ER.sb fun a F => ?_; refine dn F (congrArg not (dz hb269)) ER.sb fun a F => ?_; refine dn F (congrArg not (dz hb269)) ER.sb fun a F => ?_; refine dq F (fun wq hS => r_pick_t F rfl (congrArg not (dz hb269)) rfl) ER.sb fun a F => ?_; refine dm F ER.sb fun a F => ?_; refine dn F rfl ER.sb fun a F => ?_; refine dn F rfl ER.sb fun a F => ?_
      as_aux_lemma =>
      refine dn F rfl ER.sb fun a F => ?_; refine dn F rfl ER.sb fun a F => ?_; refine dn F rfl ER.sb fun a F => ?_; refine dn F rfl ER.sb fun a F => ?_; refine dn F rfl ER.sb fun a F => ?_; refine dn F rfl ER.sb fun a F => ?_; refine dn F rfl ER.sb fun a F => ?_; refine dq F (fun wq hS => r_pick_t F rfl rfl rfl) ER.sb fun a F => ?_; refine d_nil ?_; exact J304 c235 w250 a true (F.sub ⟨rfl, rfl, rfl, rfl, rfl, rfl, trivial⟩) E B h179 h233 h168 h222 H
     replace H := im hb260 H; refine dn F (congrArg not (dz hb260)) ER.sb fun a F => ?_; refine dn F (congrArg not (dz hb260)) ER.sb fun a F => ?_; refine dn F (congrArg not (dz hb260)) ER.sb fun a F => ?_; refine dn F (congrArg not (dz hb260)) ER.sb fun a F => ?_; refine dn F (congrArg not (dz hb260)) ER.sb fun a F => ?_; refine dn F (congrArg not (dz hb260)) ER.sb fun a F => ?_; refine dn F (congrArg not (dz hb260)) ER.sb fun a F => ?_; refine dq F (fun wq hS => r_pick_t F rfl (congrArg not (dz hb260)) rfl) ER.sb fun a F => ?_; refine dm F ER.sb fun a F => ?_; refine dn F rfl ER.sb fun a F => ?_; refine dn F rfl ER.sb fun a F => ?_
     as_aux_lemma =>
     refine dn F rfl ER.sb fun a F => ?_; refine dn F rfl ER.sb fun a F => ?_; refine dn F rfl ER.sb fun a F => ?_; refine dn F rfl ER.sb fun a F => ?_; refine dn F rfl ER.sb fun a F => ?_; refine dn F rfl ER.sb fun a F => ?_; refine dn F rfl ER.sb fun a F => ?_; refine dq F (fun wq hS => r_pick_t F rfl rfl rfl) ER.sb fun a F => ?_; refine dm F ER.sb fun a F => ?_; refine dn F rfl ER.sb fun a F => ?_; refine dn F rfl ER.sb fun a F => ?_; refine dn F rfl ER.sb fun a F => ?_; refine dn F rfl ER.sb fun a F => ?_; refine dn F rfl ER.sb fun a F => ?_; refine dn F rfl ER.sb fun a F => ?_; refine dn F rfl ER.sb fun a F => ?_; refine dn F rfl ER.sb fun a F => ?_; refine dn F rfl ER.sb fun a F => ?_; refine dq F (fun wq hS => r_pick_t F rfl rfl rfl) ER.sb fun a F => ?_; refine d_nil ?_; exact J304 c235 w250 a true (F.sub ⟨rfl, rfl, rfl, rfl, rfl, rfl, trivial⟩) E B h179 h233 h168 h222 H
    replace H := im hb247 H
    as_aux_lemma =>
    refine wcf (fb F (dz hb247)) ?_; refine wp_exit ?_; refine thenE ?_; refine thenE ?_; refine inbE ?_; have hx_ := HD239 _ (si H).symm; have H := HR243; rw [← hx_] at H; exact J310 c235 w236 a  (F.sub ⟨rfl, rfl, rfl, rfl, trivial⟩) E B h179 h233 h168 h222 H
   refine loop_fuel (I := fun n a w => ∃ (l180 : List Int) (A181 : Option Addr) (C182 : Nat) (i184 : Int) (c : Nat → Nat), Fr a 118 [(0, .slice A113 l112.length C114), (1, .slice A117 l116.length C118), (6, .slice A170 l169.length C171), (7, .slice A181 l180.length C182), (9, .int .i64 i184)] ∧ Ev (fun x => (x = j5 ∨ x = j10) ∨ m ≤ x) c0 w0 c w ∧ CB (m + 1) c w ∧ SL false (Kint .i64) 0 0 c w A113 C114 l112 ∧ SL false (Kint .i64) 0 0 c w A170 C171 l169 ∧ TW (Kint .i64) j10 c w A117 C118 l116 A181 C182 l180 ∧ loop (fun (s_ : (List Int) × Int) => haulagelaw20_numbers.b5 s_.1 s_.2) n (l180, i184) = some x194) (k := k) ⟨l116, A117, C118, 0, c177, F.sub ⟨rfl, rfl, rfl, rfl, rfl, trivial⟩, E, B, h179, h168, h115, HL⟩ ?_; clear HL H E F B; intro n191 X187 hX187 a w186 ⟨l180, A181, C182, i184, c185, F, E, B, h179, h168, h183, HL⟩; obtain ⟨n192, ctl190, rfl, HB, HN188, HD189⟩ := loop_some HL; have H : haulagelaw20_numbers.b5 l180 i184 = some ctl190 := HB; clear HB HL; unfold haulagelaw20_numbers.b5 at H; refine sq fun K195 hK195 => ?_; refine sr fun K196 hK196 => qm F fun a F => ?_; refine qv F (r_lss F rfl rfl) fun a F => ?_; refine nil (hK196 _ _ ?_)
   by_cases hb197 : i184 < 70
   ·replace H := ip hb197 H; refine wct (fb F (dt hb197)) (wp_skip (hK195 _ _ ?_))
    as_aux_lemma =>
    refine sq fun K198 hK198 => ?_; refine wp_block ?_; refine reg ?_; refine qm F fun a F => qm F fun a F => ?_; refine qv F (r_sub F rfl rfl) fun a F => ?_; refine q_eff F rfl rfl (by decide) (e_buildSlice (n := 1) (e := 3) (c := c185) (k := (Kint .i64)) (i := 0) F [(0, .int .i64 (IntKind.i64.wrap ((-5000) - i184)))] [.int .i64 (IntKind.i64.wrap ((-5000) - i184))] ([IntKind.i64.wrap ((-5000) - i184)] : List Int) (by exact ⟨rfl, rfl, trivial⟩) (fun w => by kernel_rfl) rfl (by decide) rfl ⟨rfl, trivial⟩ (fun q => q) 0) ?_; rintro v w200 a ⟨c199, A201, C202, rfl, E203, h204, B205⟩ F; replace B := B205 _ B (pl hm0); replace h179 := h179.ev E203; replace h168 := h168.ev E203; replace h183 := h183.ev E203; replace E := E.n E203; replace H := ifN H; obtain ⟨g206, H⟩ := H; refine q_eff F rfl rfl (by decide) (e_appendT (e := (Kint .i64)) (ys := l180) (vs := [IntKind.i64.wrap ((-5000) - i184)]) (c := c199) F et_36 rfl rfl h183 h204 g206 (len_ok g206) bj10.1) ?_; rintro v w211 a ⟨c207, A212, C213, rfl, E214, B216, c208, e209, e210, h215⟩ F; replace B := B216 _ B (Nat.lt_add_right _ bj10.2.1); replace h179 := h179.ev E214 (ne_z bj10.1) (ne_z bj10.1); replace h168 := h168.ev E214 (ne_z bj10.1) (ne_z bj10.1); replace E := E.trans E214 (fun x (q : x = j10) => Or.inl (Or.inr (q))); replace h179 := SL.rc h179 (rk e209 (ne_z bj10.1)) (rk e209 (ne_z bj10.1)); replace h168 := SL.rc h168 (rk e209 (ne_z bj10.1)) (rk e209 (ne_z bj10.1))
    as_aux_lemma =>
    replace E : Ev (fun x => (x = j5 ∨ x = j10) ∨ m ≤ x) c0 w0 c208 w211 := E.rkM e209 (by simp); replace B := B.rk e210 (pl hm0); refine qa F fun a F => nil (hK198 _ _ ?_); refine reg ?_; refine qm F fun a F => ?_; refine qv F (r_add F rfl rfl) fun a F => ?_; refine qa F fun a F => nil ?_; replace H := HN188 _ (si H).symm; exact hX187 _ _ _ (Nat.lt_succ_self _) ⟨(l180 ++ [IntKind.i64.wrap ((-5000) - i184)]), A212, C213, (IntKind.i64.wrap (i184 + 1)), c208, F.sub ⟨rfl, rfl, rfl, rfl, rfl, trivial⟩, E, B, h179, h168, h215, H⟩
   replace H := im hb197 H; refine wcf (fb F (dz hb197)) ?_; refine wp_exit ?_; refine thenE ?_; refine thenE ?_; refine inbE ?_; have hx_ := HD189 _ (si H).symm; have H := HR193; rw [← hx_] at H; exact J226 c185 w186 a l180 A181 C182 (F.sub ⟨rfl, rfl, rfl, rfl, trivial⟩) E B h179 h168 h183 H
  refine loop_fuel (I := fun n a w => ∃ (l126 : List Int) (A127 : Option Addr) (C128 : Nat) (i130 : Int) (c : Nat → Nat), Fr a 118 [(0, .slice A113 l112.length C114), (1, .slice A117 l116.length C118), (6, .slice A127 l126.length C128), (7, .slice A117 l116.length C118), (8, .int .i64 i130)] ∧ Ev (fun x => (x = j5 ∨ x = j10) ∨ m ≤ x) c0 w0 c w ∧ CB (m + 1) c w ∧ TW (Kint .i64) j10 c w A117 C118 l116 A117 C118 l116 ∧ TW (Kint .i64) j5 c w A113 C114 l112 A127 C128 l126 ∧ loop (fun (s_ : (List Int) × Int) => haulagelaw20_numbers.b3 s_.1 s_.2) n (l126, i130) = some x140) (k := k) ⟨l112, A113, C114, 0, c120, F.sub ⟨rfl, rfl, rfl, rfl, rfl, trivial⟩, E, B, h115, h111, HL⟩ ?_; clear HL H E F B; intro n137 X133 hX133 a w132 ⟨l126, A127, C128, i130, c131, F, E, B, h115, h129, HL⟩; obtain ⟨n138, ctl136, rfl, HB, HN134, HD135⟩ := loop_some HL; have H : haulagelaw20_numbers.b3 l126 i130 = some ctl136 := HB; clear HB HL; unfold haulagelaw20_numbers.b3 at H
  as_aux_lemma =>
  refine sq fun K141 hK141 => ?_; refine sr fun K142 hK142 => qm F fun a F => ?_; refine qv F (r_lss F rfl rfl) fun a F => ?_; refine nil (hK142 _ _ ?_)
  by_cases hb143 : i130 < 70
  ·replace H := ip hb143 H; refine wct (fb F (dt hb143)) (wp_skip (hK141 _ _ ?_)); refine sq fun K144 hK144 => ?_; refine wp_block ?_; refine reg ?_; refine qm F fun a F => qm F fun a F => ?_; refine qv F (r_add F rfl rfl) fun a F => ?_; refine q_eff F rfl rfl (by decide) (e_buildSlice (n := 1) (e := 3) (c := c131) (k := (Kint .i64)) (i := 0) F [(0, .int .i64 (IntKind.i64.wrap (5000 + i130)))] [.int .i64 (IntKind.i64.wrap (5000 + i130))] ([IntKind.i64.wrap (5000 + i130)] : List Int) (by exact ⟨rfl, rfl, trivial⟩) (fun w => by kernel_rfl) rfl (by decide) rfl ⟨rfl, trivial⟩ (fun q => q) 0) ?_; rintro v w146 a ⟨c145, A147, C148, rfl, E149, h150, B151⟩ F; replace B := B151 _ B (pl hm0); replace h115 := h115.ev E149; replace h129 := h129.ev E149; replace E := E.n E149; replace H := ifN H; obtain ⟨g152, H⟩ := H; refine q_eff F rfl rfl (by decide) (e_appendT (e := (Kint .i64)) (ys := l126) (vs := [IntKind.i64.wrap (5000 + i130)]) (c := c145) F et_36 rfl rfl h129 h150 g152 (len_ok g152) bj5.1) ?_; rintro v w157 a ⟨c153, A158, C159, rfl, E160, B162, c154, e155, e156, h161⟩ F; replace B := B162 _ B (Nat.lt_add_right _ bj5.2)
   as_aux_lemma =>
   replace h115 := h115.ev E160 bj10.2.2 (ne_z bj5.1); replace E := E.trans E160 (fun x (q : x = j5) => Or.inl (Or.inl q)); replace h115 := TW.rc h115 (rk e155 bj10.2.2) (rk e155 (ne_z bj5.1)); replace E : Ev (fun x => (x = j5 ∨ x = j10) ∨ m ≤ x) c0 w0 c154 w157 := E.rkM e155 (by simp); replace B := B.rk e156 (pl hm0); refine qa F fun a F => nil (hK144 _ _ ?_); refine reg ?_; refine qm F fun a F => ?_; refine qv F (r_add F rfl rfl) fun a F => ?_; refine qa F fun a F => nil ?_; replace H := HN134 _ (si H).symm; exact hX133 _ _ _ (Nat.lt_succ_self _) ⟨(l126 ++ [IntKind.i64.wrap (5000 + i130)]), A158, C159, (IntKind.i64.wrap (i130 + 1)), c154, F.sub ⟨rfl, rfl, rfl, rfl, rfl, trivial⟩, E, B, h115, h161, H⟩
  replace H := im hb143 H; refine wcf (fb F (dz hb143)) ?_; refine wp_exit ?_; refine thenE ?_; refine thenE ?_; refine inbE ?_; have hx_ := HD135 _ (si H).symm; have H := HR139; rw [← hx_] at H; exact J172 c131 w132 a l126 A127 C128 (F.sub ⟨rfl, rfl, rfl, rfl, trivial⟩) E B h115 h129 H
 refine loop_fuel (I := fun n a w => ∃ (l57 : List Int) (A54 : Option Addr) (C55 : Nat) (l61 : List Int) (A58 : Option Addr) (C59 : Nat) (i62 : Int) (c : Nat → Nat), Fr a 118 [(0, .slice A54 l57.length C55), (1, .slice A58 l61.length C59), (5, .int .i64 i62)] ∧ Ev (fun x => (x = j5 ∨ x = j10) ∨ m ≤ x) c0 w0 c w ∧ CB (m + 1) c w ∧ SL true (Kint .i64) j5 0 c w A54 C55 l57 ∧ SL true (Kint .i64) j10 0 c w A58 C59 l61 ∧ loop (fun (s_ : (List Int) × (List Int) × Int) => haulagelaw20_numbers.b1 s_.1 s_.2.1 s_.2.2) n (l57, l61, i62) = some x72) (k := k) ⟨a1, A2, C3, a6, A7, C8, 0, c0, F.sub ⟨rfl, rfl, rfl, trivial⟩, E, B, h4, h9, HL⟩ ?_; clear HL H E F B; intro n69 X65 hX65 a w64 ⟨l57, A54, C55, l61, A58, C59, i62, c63, F, E, B, h56, h60, HL⟩; obtain ⟨n70, ctl68, rfl, HB, HN66, HD67⟩ := loop_some HL; have H : haulagelaw20_numbers.b1 l57 l61 i62 = some ctl68 := HB; clear HB HL; unfold haulagelaw20_numbers.b1 at H
 as_aux_lemma =>
 refine sq fun K73 hK73 => ?_; refine sr fun K74 hK74 => qm F fun a F => qm F fun a F => ?_; refine qv F (r_lensl F Try.underlying36 rfl) fun a F => ?_; refine qv F (r_lss F rfl rfl) fun a F => ?_; refine nil (hK74 _ _ ?_)
 by_cases hb75 : i62 < (l57.length : Int)
 ·replace H := ip hb75 H; refine wct (fb F (dt hb75)) (wp_skip (hK73 _ _ ?_)); refine sq fun K76 hK76 => ?_; refine wp_block ?_; refine sr fun K77 hK77 => qm F fun a F => qm F fun a F => qm F fun a F => ?_; refine qv F (r_add F rfl rfl) fun a F => ?_; replace H := ifN H; obtain ⟨g78, H⟩ := H; obtain ⟨ad79, cs80, e81, h82, r83⟩ := SL.at h56 i62 g78.1 g78.2; obtain rfl : cs80 = [.int .i64 (rd l57 i62)] := r83; obtain ⟨qa84, qqa84⟩ : ∃ q, q = (ad79.add (i62.toNat * 1)) := ⟨_, rfl⟩; have h82 : AT true j5 c63 w64 qa84 [.int .i64 (rd l57 i62)] := by rw [qqa84]; exact h82
  refine qv F (r_indexAddr' F Try.underlying36 sz_3 rfl rfl g78.1 g78.2 e81 qqa84) fun a F => ?_; refine q_eff0 F rfl rfl (e_storeel0 (k := (Kint .i64)) F rfl rfl sz_3 h56 g78.1 g78.2 e81 qqa84 h82 rfl (nb rfl) rfl (IntKind.i64.wrap (10 + i62)) rfl (ne_z bj5.1)) ?_; rintro w86 a ⟨E87, h56, Z88⟩ F; replace B := B.size Z88; replace h60 := h60.ev E87 bj10.2.2 (ne_z bj5.1)
  as_aux_lemma =>
  replace E := E.trans E87 (fun x (q : x = j5) => Or.inl (Or.inl q)); have hl89 : l57.length = (l57.set i62.toNat (IntKind.i64.wrap (10 + i62))).length := by simp
  replace F := F.sub (L' := [(0, .slice A54 (l57.set i62.toNat (IntKind.i64.wrap (10 + i62))).length C55), (1, .slice A58 l61.length C59), (5, .int .i64 i62), (21, .int .i64 (IntKind.i64.wrap (10 + i62)))]) ⟨(by rw [← hl89]; rfl), rfl, rfl, rfl, trivial⟩; refine nil (hK77 _ _ ?_); refine reg ?_; refine qm F fun a F => qm F fun a F => qm F fun a F => ?_; refine qv F (r_sub F rfl rfl) fun a F => ?_; replace H := ifN H; obtain ⟨g90, H⟩ := H; obtain ⟨ad91, cs92, e93, h94, r95⟩ := SL.at h60 i62 g90.1 g90.2; obtain rfl : cs92 = [.int .i64 (rd l61 i62)] := r95; obtain ⟨qa96, qqa96⟩ : ∃ q, q = (ad91.add (i62.toNat * 1)) := ⟨_, rfl⟩; have h94 : AT true j10 c63 w86 qa96 [.int .i64 (rd l61 i62)] := by rw [qqa96]; exact h94
  refine qv F (r_indexAddr' F Try.underlying36 sz_3 rfl rfl g90.1 g90.2 e93 qqa96) fun a F => ?_; refine q_eff0 F rfl rfl (e_storeel0 (k := (Kint .i64)) F rfl rfl sz_3 h60 g90.1 g90.2 e93 qqa96 h94 rfl (nb rfl) rfl (IntKind.i64.wrap ((-10) - i62)) rfl (ne_z bj10.1)) ?_; rintro w98 a ⟨E99, h60, Z100⟩ F; replace B := B.size Z100; replace h56 := h56.ev E99 (Ne.symm bj10.2.2) (ne_z bj10.1); replace E := E.trans E99 (fun x (q : x = j10) => Or.inl (Or.inr (q))); have hl101 : l61.length = (l61.set i62.toNat (IntKind.i64.wrap ((-10) - i62))).length := by simp
  replace F := F.sub (L' := [(0, .slice A54 (l57.set i62.toNat (IntKind.i64.wrap (10 + i62))).length C55), (1, .slice A58 (l61.set i62.toNat (IntKind.i64.wrap ((-10) - i62))).length C59), (5, .int .i64 i62), (26, .int .i64 (IntKind.i64.wrap ((-10) - i62)))]) ⟨rfl, (by rw [← hl101]; rfl), rfl, rfl, trivial⟩; refine nil (hK76 _ _ ?_)
  as_aux_lemma =>
  refine reg ?_; refine qm F fun a F => ?_; refine qv F (r_add F rfl rfl) fun a F => ?_; refine qa F fun a F => nil ?_; replace H := HN66 _ (si H).symm; exact hX65 _ _ _ (Nat.lt_succ_self _) ⟨(l57.set i62.toNat (IntKind.i64.wrap (10 + i62))), A54, C55, (l61.set i62.toNat (IntKind.i64.wrap ((-10) - i62))), A58, C59, (IntKind.i64.wrap (i62 + 1)), c63, F.sub ⟨rfl, rfl, rfl, trivial⟩, E, B, h56, h60, H⟩
 replace H := im hb75 H; refine wcf (fb F (dz hb75)) ?_; refine wp_exit ?_; refine thenE ?_; refine thenE ?_; refine inbE ?_; have hx_ := HD67 _ (si H).symm; have H := HR71; rw [← hx_] at H; exact J119 c63 w64 a l57 A54 C55 l61 A58 C59 (F.sub ⟨rfl, rfl, trivial⟩) E B h56 h60 H
theorem haulagelaw20_outer.calls (k : Nat) {m : Nat} {c0 : Nat → Nat} {w0 : World} {j5 : Nat} {j10 : Nat} {j15 : Nat} {A2 : Option Addr} {C3 : Nat} {A7 : Option Addr} {C8 : Nat} {A12 : Option Addr} {C13 : Nat} {a1 : List (Option (List Value))} {a6 : List (Option (List Value))} {a11 : List (Option (List Value))} (hm0 : 0 < m) (B0 : CB m c0 w0) (h4 : SL true (Krw 4 (by decide)) j5 0 c0 w0 A2 C3 a1) (h9 : SL true (Krw 4 (by decide)) j10 0 c0 w0 A7 C8 a6) (h14 : SL true (Krw 4 (by decide)) j15 0 c0 w0 A12 C13 a11) (bj5 : 0 < j5 ∧ j5 < m) (bj10 : 0 < j10 ∧ j10 < m ∧ j10 ≠ j5) (bj15 : 0 < j15 ∧ j15 < m ∧ j15 ≠ j5 ∧ j15 ≠ j10) (r : Bool) (H : haulagelaw20_outer.f k a1 a6 a11 = some r) : Calls Try.prog 21 #[.slice A2 a1.length C3, .slice A7 a6.length C8, .slice A12 a11.length C13] w0 (fun e w_ => ∃ (c_ : Nat → Nat), e = .returned (.bool r) ∧ Ev (fun x => (x = j5 ∨ x = j10 ∨ x = j15)) c0 w0 c_ w_ ∧ CB m c_ w_) := by
 unfold haulagelaw20_outer.f at H; have B := B0.mono (show m ≤ m + 6 by omega); have E : Ev (fun x => (x = j5 ∨ x = j10 ∨ x = j15) ∨ m ≤ x) c0 w0 c0 w0 := Ev.refl; refine enter (N := 133) (l := [.slice A2 a1.length C3, .slice A7 a6.length C8, .slice A12 a11.length C13]) Try.func21 rfl rfl (nb rfl) fun a F => ?_; refine sr fun K16 hK16 => qa F fun a F => nil (hK16 _ _ ?_); refine sr fun K17 hK17 => qm F fun a F => qm F fun a F => qm F fun a F => ?_; have h18 : GR (KOsl (Krw 4 (by decide))) (m + 1) c0 w0 (([] : List Value).map one1) ([] : List (List (Option (List Value)))) := GR.nil (pl hm0); obtain ⟨c19, e20, e21, h18⟩ := GP.push h18 h4 ⟨(ne_pm bj5.2), bj5.1⟩; replace h9 := SL.rc h9 (rk e20 bj10.2.2) (rk e20 (ne_z bj5.1)); replace h14 := SL.rc h14 (rk e20 bj15.2.2.1) (rk e20 (ne_z bj5.1)); replace E : Ev (fun x => (x = j5 ∨ x = j10 ∨ x = j15) ∨ m ≤ x) c0 w0 c19 w0 := E.rkM e20 (by simp); replace B := B.rk e21 lm; obtain ⟨c22, e23, e24, h18⟩ := GP.push h18 h9 ⟨(ne_pm bj10.2.1), bj10.1⟩; replace h14 := SL.rc h14 (rk e23 bj15.2.2.2) (rk e23 (ne_z bj10.1)); replace E : Ev (fun x => (x = j5 ∨ x = j10 ∨ x = j15) ∨ m ≤ x) c0 w0 c22 w0 := E.rkM e23 (by simp); replace B := B.rk e24 lm; obtain ⟨c25, e26, e27, h18⟩ := GP.push h18 h14 ⟨(ne_pm bj15.2.1), bj15.1⟩; replace E : Ev (fun x => (x = j5 ∨ x = j10 ∨ x = j15) ∨ m ≤ x) c0 w0 c25 w0 := E.rkM e26 (by simp); replace B := B.rk e27 lm; refine q_eff F rfl rfl (by decide) (e_buildSlice (n := 3) (e := 34) (c := c25) (k := Kval) (i := 0) F [(0, .slice A2 a1.length C3), (1, .slice A7 a6.length C8), (2, .slice A12 a11.length C13)] [.slice A2 a1.length C3, .slice A7 a6.length C8, .slice A12 a11.length C13] ([.slice A2 a1.length C3, .slice A7 a6.length C8, .slice A12 a11.length C13] : List Value) (by exact ⟨rfl, rfl, rfl, rfl, rfl, rfl, trivial⟩) (fun w => by kernel_rfl) rfl (by decide) rfl ⟨⟨rfl, rfl⟩, ⟨rfl, rfl⟩, ⟨rfl, rfl⟩, trivial⟩ (fun q => q) (m + 2)) ?_; rintro v w29 a ⟨c28, A30, C31, rfl, E32, h33, B34⟩ F
 as_aux_lemma =>
 replace B := B34 _ B lm; replace h18 := h18.ev E32; replace E := E.n E32; replace h33 : SP (Krw 4 (by decide)) (m + 2) (m + 1) c28 w29 A30 C31 [a1, a6, a11] 0 := SP.mk h33 h18; refine qa F fun a F => nil (hK17 _ _ ?_); refine sq fun K35 hK35 => ?_; refine sr fun K36 hK36 => qa F fun a F => nil (hK36 _ _ ?_); refine wp_block ?_; obtain ⟨x201, HL, HR200⟩ := bind_some H; have J350 : ∀ (c351 : Nat → Nat) (w352 : World) (a : Act) (l347 : List (List (Option (List Value)))) (A348 : Option Addr) (C349 : Nat), Fr a 133 [(7, .slice A348 l347.length C349)] → Ev (fun x => (x = j5 ∨ x = j10 ∨ x = j15) ∨ m ≤ x) c0 w0 c351 w352 → CB (m + 6) c351 w352 → SP (Krw 4 (by decide)) (m + 2) (m + 1) c351 w352 A348 C349 l347 0 → haulagelaw20_outer.j6 k l347 = some r → K35 a w352 := by
  intro c351 w352 a l347 A348 C349 F E B h346 H; unfold haulagelaw20_outer.j6 at H; refine hK35 _ _ ?_; refine sr fun K353 hK353 => qa F fun a F => nil (hK353 _ _ ?_); refine sq fun K354 hK354 => ?_; refine sr fun K355 hK355 => qa F fun a F => nil (hK355 _ _ ?_); refine wp_block ?_; obtain ⟨x468, HL, HR467⟩ := bind_some H; have J563 : ∀ (c564 : Nat → Nat) (w565 : World) (a : Act) (l560 : List (List (Option (List Value)))) (A561 : Option Addr) (C562 : Nat), Fr a 133 [(7, .slice A348 l347.length C349), (10, .slice A561 l560.length C562)] → Ev (fun x => (x = j5 ∨ x = j10 ∨ x = j15) ∨ m ≤ x) c0 w0 c564 w565 → CB (m + 6) c564 w565 → SL true (Kslice (Krw 4 (by decide))) (m + 2) 0 c564 w565 A348 C349 l347 → SL true (Kslice (Krw 4 (by decide))) (m + 5) 0 c564 w565 A561 C562 l560 → haulagelaw20_outer.j12 k l347 l560 = some r → K354 a w565 := by
   intro c564 w565 a l560 A561 C562 F E B h346 h559 H; unfold haulagelaw20_outer.j12 at H; refine hK354 _ _ ?_
   as_aux_lemma =>
   refine sq fun K566 hK566 => ?_; refine sr fun K567 hK567 => qa F fun a F => nil (hK567 _ _ ?_); refine wp_block ?_; obtain ⟨x578, HL, HR577⟩ := bind_some H; have J729 : ∀ (c730 : Nat → Nat) (w731 : World) (a : Act), Fr a 133 [] → Ev (fun x => (x = j5 ∨ x = j10 ∨ x = j15) ∨ m ≤ x) c0 w0 c730 w731 → CB (m + 6) c730 w731 → haulagelaw20_outer.j19 = some r → K566 a w731 := by
    intro c730 w731 a  F E B  H; unfold haulagelaw20_outer.j19 at H; refine hK566 _ _ ?_; refine sr fun K732 hK732 => qa F fun a F => nil (hK732 _ _ ?_); refine wp_ret ?_; obtain rfl := si H; refine out1 F rfl rfl ?_; exact ⟨cf (ct m) c730, rfl, E.lv B0, cfb⟩
   refine loop_fuel (I := fun n a w => ∃ (i568 : Int) (c : Nat → Nat), Fr a 133 [(7, .slice A348 l347.length C349), (10, .slice A561 l560.length C562), (14, .int .i64 i568)] ∧ Ev (fun x => (x = j5 ∨ x = j10 ∨ x = j15) ∨ m ≤ x) c0 w0 c w ∧ CB (m + 6) c w ∧ SL true (Kslice (Krw 4 (by decide))) (m + 2) 0 c w A348 C349 l347 ∧ SL true (Kslice (Krw 4 (by decide))) (m + 5) 0 c w A561 C562 l560 ∧ loop (fun (s_ : Int) => haulagelaw20_outer.b18 k l347 l560 s_) n i568 = some x578) (k := k) ⟨0, c564, F.sub ⟨rfl, rfl, rfl, trivial⟩, E, B, h346, h559, HL⟩ ?_; clear HL H E F B; intro n575 X571 hX571 a w570 ⟨i568, c569, F, E, B, h346, h559, HL⟩; obtain ⟨n576, ctl574, rfl, HB, HN572, HD573⟩ := loop_some HL; have H : haulagelaw20_outer.b18 k l347 l560 i568 = some ctl574 := HB; clear HB HL; unfold haulagelaw20_outer.b18 at H; refine sq fun K579 hK579 => ?_; refine sr fun K580 hK580 => qm F fun a F => ?_
   as_aux_lemma =>
   refine qv F (r_lss F rfl rfl) fun a F => ?_; refine nil (hK580 _ _ ?_)
   by_cases hb581 : i568 < 3
   ·replace H := ip hb581 H; refine wct (fb F (dt hb581)) (wp_skip (hK579 _ _ ?_)); refine sq fun K582 hK582 => ?_; refine wp_block ?_; refine sr fun K583 hK583 => qm F fun a F => qm F fun a F => ?_; replace H := ifN H; obtain ⟨g584, H⟩ := H; obtain ⟨ad585, cs586, e587, h588, r589⟩ := SL.at h346 i568 g584.1 g584.2; obtain ⟨A590, C591, rfl, h592⟩ := r589; obtain ⟨qa593, qqa593⟩ : ∃ q, q = (ad585.add (i568.toNat * 1)) := ⟨_, rfl⟩; have h588 : AT true (m + 2) c569 w570 qa593 [.slice A590 (rd l347 i568).length C591] := by rw [qqa593]; exact h588
    refine qv F (r_indexAddr' F Try.underlying74 sz_34 rfl rfl g584.1 g584.2 e587 qqa593) fun a F => ?_; refine qv F (r_load F rfl ag_34 (AT.cell0 h588 rfl)) fun a F => ?_; refine qv F (r_lensl F Try.underlying34 rfl) fun a F => ?_; refine qa F fun a F => nil (hK583 _ _ ?_); refine sq fun K595 hK595 => ?_; refine sr fun K596 hK596 => qa F fun a F => nil (hK596 _ _ ?_); refine wp_block ?_; obtain ⟨x607, HL, HR606⟩ := bind_some H; have J675 : ∀ (c676 : Nat → Nat) (w677 : World) (a : Act), Fr a 133 [(7, .slice A348 l347.length C349), (10, .slice A561 l560.length C562), (14, .int .i64 i568), (15, .int .i64 ((rd l347 i568).length : Int))] → Ev (fun x => (x = j5 ∨ x = j10 ∨ x = j15) ∨ m ≤ x) c0 w0 c676 w677 → CB (m + 6) c676 w677 → SL true (Kslice (Krw 4 (by decide))) (m + 2) 0 c676 w677 A348 C349 l347 → SL true (Kslice (Krw 4 (by decide))) (m + 5) 0 c676 w677 A561 C562 l560 → haulagelaw20_outer.j15 k l347 l560 i568 = some ctl574 → K595 a w677 := by
     intro c676 w677 a  F E B h346 h559 H; unfold haulagelaw20_outer.j15 at H
     as_aux_lemma =>
     refine hK595 _ _ ?_; refine sr fun K678 hK678 => qa F fun a F => nil (hK678 _ _ ?_); refine wp_block ?_; obtain ⟨x689, HL, HR688⟩ := bind_some H; have J725 : ∀ (c726 : Nat → Nat) (w727 : World) (a : Act), Fr a 133 [(7, .slice A348 l347.length C349), (10, .slice A561 l560.length C562), (14, .int .i64 i568)] → Ev (fun x => (x = j5 ∨ x = j10 ∨ x = j15) ∨ m ≤ x) c0 w0 c726 w727 → CB (m + 6) c726 w727 → SL true (Kslice (Krw 4 (by decide))) (m + 2) 0 c726 w727 A348 C349 l347 → SL true (Kslice (Krw 4 (by decide))) (m + 5) 0 c726 w727 A561 C562 l560 → haulagelaw20_outer.j17 i568 = some ctl574 → K582 a w727 := by
      intro c726 w727 a  F E B h346 h559 H; unfold haulagelaw20_outer.j17 at H; refine hK582 _ _ ?_; refine reg ?_; refine qm F fun a F => ?_; refine qv F (r_add F rfl rfl) fun a F => ?_; refine qa F fun a F => nil ?_; replace H := HN572 _ (si H).symm; exact hX571 _ _ _ (Nat.lt_succ_self _) ⟨(IntKind.i64.wrap (i568 + 1)), c726, F.sub ⟨rfl, rfl, rfl, trivial⟩, E, B, h346, h559, H⟩
     refine loop_fuel (I := fun n a w => ∃ (i679 : Int) (c : Nat → Nat), Fr a 133 [(7, .slice A348 l347.length C349), (10, .slice A561 l560.length C562), (14, .int .i64 i568), (15, .int .i64 ((rd l347 i568).length : Int)), (17, .int .i64 i679)] ∧ Ev (fun x => (x = j5 ∨ x = j10 ∨ x = j15) ∨ m ≤ x) c0 w0 c w ∧ CB (m + 6) c w ∧ SL true (Kslice (Krw 4 (by decide))) (m + 2) 0 c w A348 C349 l347 ∧ SL true (Kslice (Krw 4 (by decide))) (m + 5) 0 c w A561 C562 l560 ∧ loop (fun (s_ : Int) => haulagelaw20_outer.b16 l347 l560 i568 s_) n i679 = some x689) (k := k) ⟨0, c676, F.sub ⟨rfl, rfl, rfl, rfl, rfl, trivial⟩, E, B, h346, h559, HL⟩ ?_; clear HL H E F B; intro n686 X682 hX682 a w681 ⟨i679, c680, F, E, B, h346, h559, HL⟩; obtain ⟨n687, ctl685, rfl, HB, HN683, HD684⟩ := loop_some HL; have H : haulagelaw20_outer.b16 l347 l560 i568 i679 = some ctl685 := HB; clear HB HL; unfold haulagelaw20_outer.b16 at H; refine sq fun K690 hK690 => ?_
     as_aux_lemma =>
     refine sr fun K691 hK691 => qm F fun a F => ?_; refine qv F (r_lss F rfl rfl) fun a F => ?_; refine nil (hK691 _ _ ?_)
     by_cases hb692 : i679 < 70
     ·replace H := ip hb692 H; refine wct (fb F (dt hb692)) (wp_skip (hK690 _ _ ?_)); refine sq fun K693 hK693 => ?_; refine wp_block ?_; refine sr fun K694 hK694 => qm F fun a F => qm F fun a F => ?_; replace H := ifN H; obtain ⟨g695, H⟩ := H; obtain ⟨ad696, cs697, e698, h699, r700⟩ := SL.at h559 i568 g695.1 g695.2; obtain ⟨A701, C702, rfl, h703⟩ := r700; replace h703 := SL.fl (i' := 0) h703 (fun q => q); obtain ⟨qa704, qqa704⟩ : ∃ q, q = (ad696.add (i568.toNat * 1)) := ⟨_, rfl⟩; have h699 : AT true (m + 5) c680 w681 qa704 [.slice A701 (rd l560 i568).length C702] := by rw [qqa704]; exact h699
      refine qv F (r_indexAddr' F Try.underlying74 sz_34 rfl rfl g695.1 g695.2 e698 qqa704) fun a F => ?_; refine qv F (r_load F rfl ag_34 (AT.cell0 h699 rfl)) fun a F => ?_; refine qm F fun a F => qm F fun a F => ?_; refine qv F (r_add F rfl rfl) fun a F => ?_; replace H := ifN H; obtain ⟨g706, H⟩ := H; obtain ⟨ad707, cs708, e709, h710, r711⟩ := SL.at h703 (IntKind.i64.wrap (((rd l347 i568).length : Int) + i679)) g706.1 g706.2; obtain ⟨u712, u713, u714, u715, rfl⟩ := cells_n4 r711.1; obtain ⟨qa716, qqa716⟩ : ∃ q, q = (ad707.add ((IntKind.i64.wrap (((rd l347 i568).length : Int) + i679)).toNat * 4)) := ⟨_, rfl⟩; have h710 : AT false 0 c680 w681 qa716 [u712, u713, u714, u715] := by rw [qqa716]; exact h710
      as_aux_lemma =>
      refine qv F (r_indexAddr' F Try.underlying34 sz_40 rfl rfl g706.1 g706.2 e709 qqa716) fun a F => ?_; refine qf F ff_40_0 fun a F => ?_; obtain ⟨i718, x719, hx720, hq721, H⟩ := rawI_some H; obtain rfl := r711.2.2 _ hx720; obtain rfl : u712 = .int .i64 i718 := Option.some.inj hq721; refine ql F ag_3 h710 fun a F => ?_; refine qm F fun a F => ?_; refine qv F (r_mul F rfl rfl) fun a F => ?_; refine qm F fun a F => ?_; refine qv F (r_sub F rfl rfl) fun a F => ?_; refine qv F (r_sub F rfl rfl) fun a F => ?_; refine qv F (r_neq F rfl rfl) fun a F => ?_; refine nil (hK694 _ _ ?_); replace F : Fr a 133 [(7, .slice A348 l347.length C349), (10, .slice A561 l560.length C562), (14, .int .i64 i568), (15, .int .i64 ((rd l347 i568).length : Int)), (17, .int .i64 i679), (132, .bool (!decide (i718 = (IntKind.i64.wrap ((IntKind.i64.wrap ((IntKind.i64.wrap ((-1000) * i568)) - i679)) - 1)))))] := F.sub ⟨rfl, rfl, rfl, rfl, rfl, rfl, trivial⟩
      by_cases hb722 : i718 = (IntKind.i64.wrap ((IntKind.i64.wrap ((IntKind.i64.wrap ((-1000) * i568)) - i679)) - 1))
      ·replace H := ip hb722 H; refine wcf (fb F (congrArg not (dt hb722))) (wp_skip (hK693 _ _ ?_)); refine reg ?_; refine qm F fun a F => ?_; refine qv F (r_add F rfl rfl) fun a F => ?_; refine qa F fun a F => nil ?_; replace H := HN683 _ (si H).symm; exact hX682 _ _ _ (Nat.lt_succ_self _) ⟨(IntKind.i64.wrap (i679 + 1)), c680, F.sub ⟨rfl, rfl, rfl, rfl, rfl, trivial⟩, E, B, h346, h559, H⟩
      as_aux_lemma =>
      replace H := im hb722 H; refine wct (fb F (congrArg not (dz hb722))) ?_; refine sr fun K723 hK723 => qa F fun a F => nil (hK723 _ _ ?_); refine wp_ret ?_; refine inbR ?_; refine thenR ?_; refine thenR ?_; refine inbR ?_; refine inbR ?_; refine thenR ?_; refine thenR ?_; refine inbR ?_; refine thenR ?_; have hx_ := HD684 _ (si H).symm; have H := HR688; rw [← hx_] at H; replace H : some (.done (.inr false)) = some ctl574 := H; have hx_ := HD573 _ (si H).symm; have H := HR577; rw [← hx_] at H; replace H : some false = some r := H; obtain rfl := si H
      as_aux_lemma =>
      refine out1 F rfl rfl ?_; exact ⟨cf (ct m) c680, rfl, E.lv B0, cfb⟩
     replace H := im hb692 H; refine wcf (fb F (dz hb692)) ?_; refine wp_exit ?_; refine thenE ?_; refine thenE ?_; refine inbE ?_; have hx_ := HD684 _ (si H).symm; have H := HR688; rw [← hx_] at H; exact J725 c680 w681 a  (F.sub ⟨rfl, rfl, rfl, trivial⟩) E B h346 h559 H
    refine loop_fuel (I := fun n a w => ∃ (i597 : Int) (c : Nat → Nat), Fr a 133 [(7, .slice A348 l347.length C349), (10, .slice A561 l560.length C562), (14, .int .i64 i568), (15, .int .i64 ((rd l347 i568).length : Int)), (16, .int .i64 i597)] ∧ Ev (fun x => (x = j5 ∨ x = j10 ∨ x = j15) ∨ m ≤ x) c0 w0 c w ∧ CB (m + 6) c w ∧ SL true (Kslice (Krw 4 (by decide))) (m + 2) 0 c w A348 C349 l347 ∧ SL true (Kslice (Krw 4 (by decide))) (m + 5) 0 c w A561 C562 l560 ∧ loop (fun (s_ : Int) => haulagelaw20_outer.b14 l347 l560 i568 s_) n i597 = some x607) (k := k) ⟨0, c569, F.sub ⟨rfl, rfl, rfl, rfl, rfl, trivial⟩, E, B, h346, h559, HL⟩ ?_; clear HL H E F B; intro n604 X600 hX600 a w599 ⟨i597, c598, F, E, B, h346, h559, HL⟩; obtain ⟨n605, ctl603, rfl, HB, HN601, HD602⟩ := loop_some HL; have H : haulagelaw20_outer.b14 l347 l560 i568 i597 = some ctl603 := HB; clear HB HL; unfold haulagelaw20_outer.b14 at H; refine sq fun K608 hK608 => ?_; refine sr fun K609 hK609 => qm F fun a F => qm F fun a F => ?_; refine qv F (r_lss F rfl rfl) fun a F => ?_
    as_aux_lemma =>
    refine nil (hK609 _ _ ?_)
    by_cases hb610 : i597 < ((rd l347 i568).length : Int)
    ·replace H := ip hb610 H; refine wct (fb F (dt hb610)) (wp_skip (hK608 _ _ ?_)); refine sq fun K611 hK611 => ?_; refine wp_block ?_; refine sq fun K612 hK612 => ?_; have J669 : ∀ (c670 : Nat → Nat) (w671 : World) (a : Act) (b668 : Bool), Fr a 133 [(7, .slice A348 l347.length C349), (10, .slice A561 l560.length C562), (14, .int .i64 i568), (15, .int .i64 ((rd l347 i568).length : Int)), (16, .int .i64 i597), (112, .bool b668)] → Ev (fun x => (x = j5 ∨ x = j10 ∨ x = j15) ∨ m ≤ x) c0 w0 c670 w671 → CB (m + 6) c670 w671 → SL true (Kslice (Krw 4 (by decide))) (m + 2) 0 c670 w671 A348 C349 l347 → SL true (Kslice (Krw 4 (by decide))) (m + 5) 0 c670 w671 A561 C562 l560 → haulagelaw20_outer.j13 i597 b668 = some ctl603 → K612 a w671 := by
      intro c670 w671 a b668 F E B h346 h559 H; unfold haulagelaw20_outer.j13 at H; refine hK612 _ _ ?_
      by_cases hb672 : b668 = true
      ·replace H := ip hb672 H; refine wct (fb F hb672) ?_; refine sr fun K673 hK673 => qa F fun a F => nil (hK673 _ _ ?_); refine wp_ret ?_; refine inbR ?_; refine thenR ?_; refine thenR ?_; refine inbR ?_; refine thenR ?_; refine inbR ?_; refine thenR ?_; refine thenR ?_
       as_aux_lemma =>
       refine inbR ?_; refine thenR ?_; have hx_ := HD602 _ (si H).symm; have H := HR606; rw [← hx_] at H; replace H : some (.done (.inr false)) = some ctl574 := H; have hx_ := HD573 _ (si H).symm; have H := HR577; rw [← hx_] at H; replace H : some false = some r := H; obtain rfl := si H; refine out1 F rfl rfl ?_; exact ⟨cf (ct m) c670, rfl, E.lv B0, cfb⟩
      replace H := im hb672 H; refine wcf (fb F (bfalse hb672)) (wp_skip (hK611 _ _ ?_)); refine reg ?_; refine qm F fun a F => ?_; refine qv F (r_add F rfl rfl) fun a F => ?_; refine qa F fun a F => nil ?_; replace H := HN601 _ (si H).symm; exact hX600 _ _ _ (Nat.lt_succ_self _) ⟨(IntKind.i64.wrap (i597 + 1)), c670, F.sub ⟨rfl, rfl, rfl, rfl, rfl, trivial⟩, E, B, h346, h559, H⟩
     refine reg ?_
     as_aux_lemma =>
     refine qm F fun a F => qm F fun a F => ?_; replace H := ifN H; obtain ⟨g613, H⟩ := H; obtain ⟨ad614, cs615, e616, h617, r618⟩ := SL.at h346 i568 g613.1 g613.2; obtain ⟨A619, C620, rfl, h621⟩ := r618; replace h621 := SL.fl (i' := 0) h621 (fun q => q); obtain ⟨qa622, qqa622⟩ : ∃ q, q = (ad614.add (i568.toNat * 1)) := ⟨_, rfl⟩; have h617 : AT true (m + 2) c598 w599 qa622 [.slice A619 (rd l347 i568).length C620] := by rw [qqa622]; exact h617
     refine qv F (r_indexAddr' F Try.underlying74 sz_34 rfl rfl g613.1 g613.2 e616 qqa622) fun a F => ?_; refine qv F (r_load F rfl ag_34 (AT.cell0 h617 rfl)) fun a F => ?_; refine qm F fun a F => ?_; replace H := ifN H; obtain ⟨g624, H⟩ := H; obtain ⟨ad625, cs626, e627, h628, r629⟩ := SL.at h621 i597 g624.1 g624.2; obtain ⟨u630, u631, u632, u633, rfl⟩ := cells_n4 r629.1; obtain ⟨qa634, qqa634⟩ : ∃ q, q = (ad625.add (i597.toNat * 4)) := ⟨_, rfl⟩; have h628 : AT false 0 c598 w599 qa634 [u630, u631, u632, u633] := by rw [qqa634]; exact h628
     refine qv F (r_indexAddr' F Try.underlying34 sz_40 rfl rfl g624.1 g624.2 e627 qqa634) fun a F => ?_; refine qf F ff_40_0 fun a F => ?_; obtain ⟨i636, x637, hx638, hq639, H⟩ := rawI_some H; obtain rfl := r629.2.2 _ hx638; obtain rfl : u630 = .int .i64 i636 := Option.some.inj hq639
     as_aux_lemma =>
     refine ql F ag_3 h628 fun a F => ?_; refine qm F fun a F => ?_; refine qv F (r_mul F rfl rfl) fun a F => ?_; refine qm F fun a F => ?_; refine qv F (r_add F rfl rfl) fun a F => ?_; refine qv F (r_neq F rfl rfl) fun a F => ?_; refine qm F fun a F => ?_
     by_cases hb640 : i636 = (IntKind.i64.wrap ((IntKind.i64.wrap (1000 * i568)) + i597))
     ·replace H := ip hb640 H; refine qy F (congrArg not (dt hb640)) ?_; refine qm F fun a F => ?_; refine qy F (congrArg not (dt hb640)) ?_; refine qm F fun a F => ?_; replace H := ifN H; obtain ⟨g641, H⟩ := H; obtain ⟨ad642, cs643, e644, h645, r646⟩ := SL.at h559 i568 g641.1 g641.2; obtain ⟨A647, C648, rfl, h649⟩ := r646; replace h649 := SL.fl (i' := 0) h649 (fun q => q); obtain ⟨qa650, qqa650⟩ : ∃ q, q = (ad642.add (i568.toNat * 1)) := ⟨_, rfl⟩; have h645 : AT true (m + 5) c598 w599 qa650 [.slice A647 (rd l560 i568).length C648] := by rw [qqa650]; exact h645
      refine qy F (congrArg not (dt hb640)) ?_; refine qv F (r_indexAddr' F Try.underlying74 sz_34 rfl rfl g641.1 g641.2 e644 qqa650) fun a F => ?_; refine qy F (congrArg not (dt hb640)) ?_
      as_aux_lemma =>
      refine qv F (r_load F rfl ag_34 (AT.cell0 h645 rfl)) fun a F => ?_; refine qy F (congrArg not (dt hb640)) ?_; refine qm F fun a F => ?_; replace H := ifN H; obtain ⟨g652, H⟩ := H; obtain ⟨ad653, cs654, e655, h656, r657⟩ := SL.at h649 i597 g652.1 g652.2; obtain ⟨u658, u659, u660, u661, rfl⟩ := cells_n4 r657.1; obtain ⟨qa662, qqa662⟩ : ∃ q, q = (ad653.add (i597.toNat * 4)) := ⟨_, rfl⟩; have h656 : AT false 0 c598 w599 qa662 [u658, u659, u660, u661] := by rw [qqa662]; exact h656
      refine qy F (congrArg not (dt hb640)) ?_; refine qv F (r_indexAddr' F Try.underlying34 sz_40 rfl rfl g652.1 g652.2 e655 qqa662) fun a F => ?_; refine qy F (congrArg not (dt hb640)) ?_; refine qf F ff_40_0 fun a F => ?_; obtain ⟨i664, x665, hx666, hq667, H⟩ := rawI_some H; obtain rfl := r657.2.2 _ hx666; obtain rfl : u658 = .int .i64 i664 := Option.some.inj hq667; refine qy F (congrArg not (dt hb640)) ?_; refine ql F ag_3 h656 fun a F => ?_; refine qy F (congrArg not (dt hb640)) ?_; refine qm F fun a F => ?_; refine qy F (congrArg not (dt hb640)) ?_; refine qv F (r_mul F rfl rfl) fun a F => ?_
      as_aux_lemma =>
      refine qy F (congrArg not (dt hb640)) ?_; refine qm F fun a F => ?_; refine qy F (congrArg not (dt hb640)) ?_; refine qv F (r_add F rfl rfl) fun a F => ?_; refine qy F (congrArg not (dt hb640)) ?_; refine qv F (r_neq F rfl rfl) fun a F => ?_; refine qv F (r_pick_f F rfl (congrArg not (dt hb640)) rfl) fun a F => ?_; refine nil ?_; exact J669 c598 w599 a (!decide (i664 = (IntKind.i64.wrap ((IntKind.i64.wrap (1000 * i568)) + i597)))) (F.sub ⟨rfl, rfl, rfl, rfl, rfl, rfl, trivial⟩) E B h346 h559 H
     replace H := im hb640 H; refine qn F (congrArg not (dz hb640)) fun a F => qn F (congrArg not (dz hb640)) fun a F => qn F (congrArg not (dz hb640)) fun a F => qn F (congrArg not (dz hb640)) fun a F => qn F (congrArg not (dz hb640)) fun a F => qn F (congrArg not (dz hb640)) fun a F => qn F (congrArg not (dz hb640)) fun a F => qn F (congrArg not (dz hb640)) fun a F => ?_; refine qn F (congrArg not (dz hb640)) fun a F => qn F (congrArg not (dz hb640)) fun a F => qn F (congrArg not (dz hb640)) fun a F => qn F (congrArg not (dz hb640)) fun a F => qn F (congrArg not (dz hb640)) fun a F => ?_; refine qv F (r_pick_t F rfl (congrArg not (dz hb640)) rfl) fun a F => ?_; refine nil ?_; exact J669 c598 w599 a true (F.sub ⟨rfl, rfl, rfl, rfl, rfl, rfl, trivial⟩) E B h346 h559 H
    replace H := im hb610 H; refine wcf (fb F (dz hb610)) ?_; refine wp_exit ?_; refine thenE ?_; refine thenE ?_; refine inbE ?_; have hx_ := HD602 _ (si H).symm; have H := HR606; rw [← hx_] at H; exact J675 c598 w599 a  (F.sub ⟨rfl, rfl, rfl, rfl, trivial⟩) E B h346 h559 H
   as_aux_lemma =>
   replace H := im hb581 H; refine wcf (fb F (dz hb581)) ?_; refine wp_exit ?_; refine thenE ?_; refine thenE ?_; refine inbE ?_; have hx_ := HD573 _ (si H).symm; have H := HR577; rw [← hx_] at H; exact J729 c569 w570 a  (F.sub trivial) E B  H
  refine loop_fuel (I := fun n a w => ∃ (l454 : List (List (Option (List Value)))) (A455 : Option Addr) (C456 : Nat) (i458 : Int) (c : Nat → Nat), Fr a 133 [(7, .slice A348 l347.length C349), (10, .slice A455 l454.length C456), (11, .int .i64 i458)] ∧ Ev (fun x => (x = j5 ∨ x = j10 ∨ x = j15) ∨ m ≤ x) c0 w0 c w ∧ CB (m + 6) c w ∧ SP (Krw 4 (by decide)) (m + 2) (m + 1) c w A348 C349 l347 i458.toNat ∧ SL true (Kslice (Krw 4 (by decide))) (m + 5) 0 c w A455 C456 l454 ∧ loop (fun (s_ : (List (List (Option (List Value)))) × Int) => haulagelaw20_outer.b11 k l347 s_.1 s_.2) n (l454, i458) = some x468) (k := k) ⟨[], none, 0, 0, c351, F.sub ⟨rfl, rfl, rfl, trivial⟩, E, B, h346, SL.nil, HL⟩ ?_; clear HL H E F B; intro n465 X461 hX461 a w460 ⟨l454, A455, C456, i458, c459, F, E, B, h346, h457, HL⟩; obtain ⟨n466, ctl464, rfl, HB, HN462, HD463⟩ := loop_some HL; have H : haulagelaw20_outer.b11 k l347 l454 i458 = some ctl464 := HB; clear HB HL; unfold haulagelaw20_outer.b11 at H; refine sq fun K469 hK469 => ?_; refine sr fun K470 hK470 => qm F fun a F => ?_; refine qv F (r_lss F rfl rfl) fun a F => ?_; refine nil (hK470 _ _ ?_)
  by_cases hb471 : i458 < 3
  ·replace H := ip hb471 H
   as_aux_lemma =>
   refine wct (fb F (dt hb471)) (wp_skip (hK469 _ _ ?_)); refine sq fun K473 hK473 => ?_; refine wp_block ?_; refine sr fun K474 hK474 => qm F fun a F => qm F fun a F => ?_; replace H := ifN H; obtain ⟨g475, H⟩ := H; obtain ⟨c476, e477, e478, ad479, A480, C481, e482, h483, h484, h346⟩ := SP.take (z := m + 4) h346 i458 g475.1 g475.2 rfl ⟨mm, (pl hm0)⟩ mm; replace h457 := SL.rc h457 (rk e477 mm) (rk e477 ne_zm); obtain ⟨qa485, qqa485⟩ : ∃ q, q = (ad479.add (i458.toNat * 1)) := ⟨_, rfl⟩; have h483 : AT true (m + 2) c476 w460 qa485 [.slice A480 (rd l347 i458).length C481] := by rw [qqa485]; exact h483
   replace E : Ev (fun x => (x = j5 ∨ x = j10 ∨ x = j15) ∨ m ≤ x) c0 w0 c476 w460 := E.recol B0 (fun b_ hb_ => e477 b_ (by omega)); replace B := B.rk e478 lm; refine qv F (r_indexAddr' F Try.underlying74 sz_34 rfl rfl g475.1 g475.2 e482 qqa485) fun a F => ?_; refine qv F (r_load F rfl ag_34 (AT.cell0 h483 rfl)) fun a F => ?_; refine qa F fun a F => nil (hK474 _ _ ?_); refine sq fun K487 hK487 => ?_; refine sr fun K488 hK488 => qa F fun a F => nil (hK488 _ _ ?_); refine wp_block ?_; obtain ⟨x503, HL, HR502⟩ := bind_some H; have J534 : ∀ (c535 : Nat → Nat) (w536 : World) (a : Act) (l531 : List (Option (List Value))) (A532 : Option Addr) (C533 : Nat), Fr a 133 [(7, .slice A348 l347.length C349), (10, .slice A455 l454.length C456), (11, .int .i64 i458), (12, .slice A532 l531.length C533)] → Ev (fun x => (x = j5 ∨ x = j10 ∨ x = j15) ∨ m ≤ x) c0 w0 c535 w536 → CB (m + 6) c535 w536 → SPT (Krw 4 (by decide)) (m + 2) (m + 1) c535 w536 A348 C349 l347 i458.toNat A480 C481 (rd l347 i458) → SL true (Kslice (Krw 4 (by decide))) (m + 5) 0 c535 w536 A455 C456 l454 → TW (Krw 4 (by decide)) (m + 4) c535 w536 A480 C481 (rd l347 i458) A532 C533 l531 → haulagelaw20_outer.j10 l454 i458 l531 = some ctl464 → K487 a w536 := by
    intro c535 w536 a l531 A532 C533 F E B h346 h457 h530 H; unfold haulagelaw20_outer.j10 at H
    as_aux_lemma =>
    refine hK487 _ _ ?_; refine reg ?_; refine qm F fun a F => qm F fun a F => ?_; obtain ⟨c537, hc537⟩ : ∃ c', c' = fun k => if c535 k = m + 4 then 0 else c535 k := ⟨_, rfl⟩; have e538 : ∀ b, c535 b ≠ m + 4 → c537 b = c535 b := fun b hb => by rw [hc537]; exact if_neg hb
    replace h346 := SPT.rc h346 (rk e538 mm) (rk e538 mm) (rk e538 ne_zm) (pl hm0); replace h457 := SL.rc h457 (rk e538 mm) (rk e538 ne_zm); obtain ⟨h539, h530⟩ := TW.fr (c' := c537) h530 (fun k_ hk_ => by rw [hc537]; exact if_pos hk_) (rk e538 ne_zm); replace h346 := SP.next (k := i458) (SPT.put h346 h539) g475.1 rfl (by have g_ := g475.2; have g0_ := g475.1; omega); have E : Ev (fun x => (x = j5 ∨ x = j10 ∨ x = j15) ∨ m ≤ x) c0 w0 c537 w536 := by rw [hc537]; exact E.freeze B0 (by omega)
    have B : CB (m + 6) c537 w536 := by rw [hc537]; exact B.freeze (by omega)
    refine q_eff F rfl rfl (by decide) (e_buildSlice (n := 1) (e := 34) (c := c537) (k := (Kslice (Krw 4 (by decide)))) (i := 0) F [(0, .slice A532 l531.length C533)] [.slice A532 l531.length C533] ([l531] : List (List (Option (List Value)))) (by exact ⟨rfl, rfl, trivial⟩) (fun w => by kernel_rfl) rfl (by decide) rfl ⟨⟨A532, C533, rfl, (SL.fl h530 (fun q => q))⟩, trivial⟩ (fun q => q) 0) ?_; rintro v w541 a ⟨c540, A542, C543, rfl, E544, h545, B546⟩ F; replace B := B546 _ B (pl hm0); replace h457 := h457.ev E544; replace E := E.n E544; replace H := ifN H; obtain ⟨g446, H⟩ := H; refine q_eff F rfl rfl (by decide) (e_append (k := (Kslice (Krw 4 (by decide)))) (xs := l454) (ys := [l531]) (c := c540) (j := (m + 5)) (i := 0) F et_74 rfl rfl h457 h545 g446 (len_ok g446) ne_zm) ?_; rintro v w548 a ⟨c547, A549, C550, rfl, E551, h552, B553⟩ F; replace B := B553 _ B lm; replace h346 := (h346.ev E544).ev E551
    as_aux_lemma =>
    replace E := E.trans E551 lc1; refine qa F fun a F => nil (hK473 _ _ ?_); refine reg ?_; refine qm F fun a F => ?_; refine qv F (r_add F rfl rfl) fun a F => ?_; refine qa F fun a F => nil ?_; replace H := HN462 _ (si H).symm; exact hX461 _ _ _ (Nat.lt_succ_self _) ⟨(l454 ++ [l531]), A549, C550, (IntKind.i64.wrap (i458 + 1)), c547, F.sub ⟨rfl, rfl, rfl, trivial⟩, E, B, h346, h552, H⟩
   refine loop_fuel (I := fun n a w => ∃ (l489 : List (Option (List Value))) (A490 : Option Addr) (C491 : Nat) (i493 : Int) (c : Nat → Nat), Fr a 133 [(7, .slice A348 l347.length C349), (10, .slice A455 l454.length C456), (11, .int .i64 i458), (12, .slice A490 l489.length C491), (13, .int .i64 i493)] ∧ Ev (fun x => (x = j5 ∨ x = j10 ∨ x = j15) ∨ m ≤ x) c0 w0 c w ∧ CB (m + 6) c w ∧ SPT (Krw 4 (by decide)) (m + 2) (m + 1) c w A348 C349 l347 i458.toNat A480 C481 (rd l347 i458) ∧ SL true (Kslice (Krw 4 (by decide))) (m + 5) 0 c w A455 C456 l454 ∧ TW (Krw 4 (by decide)) (m + 4) c w A480 C481 (rd l347 i458) A490 C491 l489 ∧ loop (fun (s_ : (List (Option (List Value))) × Int) => haulagelaw20_outer.b9 i458 s_.1 s_.2) n (l489, i493) = some x503) (k := k) ⟨(rd l347 i458), A480, C481, 0, c476, F.sub ⟨rfl, rfl, rfl, rfl, rfl, trivial⟩, E, B, h346, h457, h484, HL⟩ ?_; clear HL H E F B; intro n500 X496 hX496 a w495 ⟨l489, A490, C491, i493, c494, F, E, B, h346, h457, h492, HL⟩; obtain ⟨n501, ctl499, rfl, HB, HN497, HD498⟩ := loop_some HL; have H : haulagelaw20_outer.b9 i458 l489 i493 = some ctl499 := HB; clear HB HL; unfold haulagelaw20_outer.b9 at H; refine sq fun K504 hK504 => ?_; refine sr fun K505 hK505 => qm F fun a F => ?_; refine qv F (r_lss F rfl rfl) fun a F => ?_; refine nil (hK505 _ _ ?_)
   by_cases hb506 : i493 < 70
   ·replace H := ip hb506 H; refine wct (fb F (dt hb506)) (wp_skip (hK504 _ _ ?_)); refine sq fun K507 hK507 => ?_
    as_aux_lemma =>
    refine wp_block ?_; refine reg ?_; refine qm F fun a F => qm F fun a F => ?_; refine qv F (r_mul F rfl rfl) fun a F => ?_; refine qm F fun a F => ?_; refine qv F (r_sub F rfl rfl) fun a F => ?_; refine qv F (r_sub F rfl rfl) fun a F => ?_; refine qv F (r_build (v := .agg #[.int .i64 (IntKind.i64.wrap ((IntKind.i64.wrap ((IntKind.i64.wrap ((-1000) * i458)) - i493)) - 1)), .int .i64 0, .int .i64 0, .slice none 0 0]) F [(0, .int .i64 (IntKind.i64.wrap ((IntKind.i64.wrap ((IntKind.i64.wrap ((-1000) * i458)) - i493)) - 1)))] (by exact ⟨rfl, rfl, trivial⟩) (fun w => by kernel_rfl)) fun a F => ?_; refine q_eff F rfl rfl (by decide) (e_buildSlice (n := 1) (e := 40) (c := c494) (k := (Krw 4 (by decide))) (i := 0) F [(0, .agg #[.int .i64 (IntKind.i64.wrap ((IntKind.i64.wrap ((IntKind.i64.wrap ((-1000) * i458)) - i493)) - 1)), .int .i64 0, .int .i64 0, .slice none 0 0])] [.int .i64 (IntKind.i64.wrap ((IntKind.i64.wrap ((IntKind.i64.wrap ((-1000) * i458)) - i493)) - 1)), .int .i64 0, .int .i64 0, .slice none 0 0] ([some ([.int .i64 (IntKind.i64.wrap ((IntKind.i64.wrap ((IntKind.i64.wrap ((-1000) * i458)) - i493)) - 1)), .int .i64 0, .int .i64 0, .slice none 0 0] : List Value)] : List (Option (List Value))) (by exact ⟨rfl, rfl, trivial⟩) (fun w => by kernel_rfl) rfl (by decide) rfl ⟨(Krw.mk rfl rfl), trivial⟩ (fun q => q) 0) ?_; rintro v w509 a ⟨c508, A510, C511, rfl, E512, h513, B514⟩ F; replace B := B514 _ B (pl hm0); replace h492 := h492.ev E512; replace E := E.n E512; replace H := ifN H; obtain ⟨g413, H⟩ := H; refine q_eff F rfl rfl (by decide) (e_appendT (e := (Krw 4 (by decide))) (ys := l489) (vs := [some ([.int .i64 (IntKind.i64.wrap ((IntKind.i64.wrap ((IntKind.i64.wrap ((-1000) * i458)) - i493)) - 1)), .int .i64 0, .int .i64 0, .slice none 0 0] : List Value)]) (c := c508) F et_34 rfl rfl h492 h513 g413 (len_ok g413) (pl hm0)) ?_; rintro v w519 a ⟨c515, A520, C521, rfl, E522, B524, c516, e517, e518, h523⟩ F; replace B := B524 _ B lm; replace h346 := (h346.ev E512).ev E522; replace h457 := (h457.ev E512).ev E522; replace E := E.trans E522 lc1; replace h346 := SPT.rc h346 (rk e517 mm) (rk e517 mm) (rk e517 ne_zm) (pl hm0)
    as_aux_lemma =>
    replace h457 := SL.rc h457 (rk e517 mm) (rk e517 ne_zm); replace E : Ev (fun x => (x = j5 ∨ x = j10 ∨ x = j15) ∨ m ≤ x) c0 w0 c516 w519 := E.recol B0 (fun b_ hb_ => e517 b_ (by omega)); replace B := B.rk e518 (pl hm0); refine qa F fun a F => nil (hK507 _ _ ?_); replace F : Fr a 133 [(7, .slice A348 l347.length C349), (10, .slice A455 l454.length C456), (11, .int .i64 i458), (12, .slice A520 (l489 ++ [some ([.int .i64 (IntKind.i64.wrap ((IntKind.i64.wrap ((IntKind.i64.wrap ((-1000) * i458)) - i493)) - 1)), .int .i64 0, .int .i64 0, .slice none 0 0] : List Value)]).length C521), (13, .int .i64 i493)] := F.sub ⟨rfl, rfl, rfl, rfl, rfl, trivial⟩; refine reg ?_; refine qm F fun a F => ?_; refine qv F (r_add F rfl rfl) fun a F => ?_; refine qa F fun a F => nil ?_; replace H := HN497 _ (si H).symm; exact hX496 _ _ _ (Nat.lt_succ_self _) ⟨(l489 ++ [some ([.int .i64 (IntKind.i64.wrap ((IntKind.i64.wrap ((IntKind.i64.wrap ((-1000) * i458)) - i493)) - 1)), .int .i64 0, .int .i64 0, .slice none 0 0] : List Value)]), A520, C521, (IntKind.i64.wrap (i493 + 1)), c516, F.sub ⟨rfl, rfl, rfl, rfl, rfl, trivial⟩, E, B, h346, h457, h523, H⟩
   replace H := im hb506 H; refine wcf (fb F (dz hb506)) ?_; refine wp_exit ?_; refine thenE ?_; refine thenE ?_; refine inbE ?_; have hx_ := HD498 _ (si H).symm; have H := HR502; rw [← hx_] at H; exact J534 c494 w495 a l489 A490 C491 (F.sub ⟨rfl, rfl, rfl, rfl, trivial⟩) E B h346 h457 h492 H
  replace H := im hb471 H
  as_aux_lemma =>
  refine wcf (fb F (dz hb471)) ?_; refine wp_exit ?_; refine thenE ?_; refine thenE ?_; refine inbE ?_; replace H := ifN H; obtain ⟨g472, H⟩ := H; replace h346 := SP.done h346 g472; have hx_ := HD463 _ (si H).symm; have H := HR467; rw [← hx_] at H; exact J563 c459 w460 a l454 A455 C456 (F.sub ⟨rfl, rfl, trivial⟩) E B h346 h457 H
 refine loop_fuel (I := fun n a w => ∃ (l190 : List (List (Option (List Value)))) (A187 : Option Addr) (C188 : Nat) (i191 : Int) (c : Nat → Nat), Fr a 133 [(7, .slice A187 l190.length C188), (8, .int .i64 i191)] ∧ Ev (fun x => (x = j5 ∨ x = j10 ∨ x = j15) ∨ m ≤ x) c0 w0 c w ∧ CB (m + 6) c w ∧ SP (Krw 4 (by decide)) (m + 2) (m + 1) c w A187 C188 l190 0 ∧ loop (fun (s_ : (List (List (Option (List Value)))) × Int) => haulagelaw20_outer.b5 k s_.1 s_.2) n (l190, i191) = some x201) (k := k) ⟨[a1, a6, a11], A30, C31, 0, c28, F.sub ⟨rfl, rfl, trivial⟩, E, B, h33, HL⟩ ?_; clear HL H E F B; intro n198 X194 hX194 a w193 ⟨l190, A187, C188, i191, c192, F, E, B, h189, HL⟩; obtain ⟨n199, ctl197, rfl, HB, HN195, HD196⟩ := loop_some HL; have H : haulagelaw20_outer.b5 k l190 i191 = some ctl197 := HB; clear HB HL; unfold haulagelaw20_outer.b5 at H; refine sq fun K202 hK202 => ?_; refine sr fun K203 hK203 => qm F fun a F => ?_; refine qv F (r_lss F rfl rfl) fun a F => ?_
 as_aux_lemma =>
 refine nil (hK203 _ _ ?_)
 by_cases hb204 : i191 < 3
 ·replace H := ip hb204 H; refine wct (fb F (dt hb204)) (wp_skip (hK202 _ _ ?_)); refine sq fun K205 hK205 => ?_; refine wp_block ?_; refine sr fun K206 hK206 => qa F fun a F => nil (hK206 _ _ ?_); refine wp_block ?_; obtain ⟨x280, HL, HR279⟩ := bind_some H; have J338 : ∀ (c339 : Nat → Nat) (w340 : World) (a : Act) (l335 : List (List (Option (List Value)))) (A336 : Option Addr) (C337 : Nat), Fr a 133 [(7, .slice A336 l335.length C337), (8, .int .i64 i191)] → Ev (fun x => (x = j5 ∨ x = j10 ∨ x = j15) ∨ m ≤ x) c0 w0 c339 w340 → CB (m + 6) c339 w340 → SP (Krw 4 (by decide)) (m + 2) (m + 1) c339 w340 A336 C337 l335 0 → haulagelaw20_outer.j4 i191 l335 = some ctl197 → K205 a w340 := by
   intro c339 w340 a l335 A336 C337 F E B h334 H; unfold haulagelaw20_outer.j4 at H; refine hK205 _ _ ?_; refine reg ?_; refine qm F fun a F => ?_; refine qv F (r_add F rfl rfl) fun a F => ?_; refine qa F fun a F => nil ?_; replace H := HN195 _ (si H).symm; exact hX194 _ _ _ (Nat.lt_succ_self _) ⟨l335, A336, C337, (IntKind.i64.wrap (i191 + 1)), c339, F.sub ⟨rfl, rfl, trivial⟩, E, B, h334, H⟩
  refine loop_fuel (I := fun n a w => ∃ (l269 : List (List (Option (List Value)))) (A266 : Option Addr) (C267 : Nat) (i270 : Int) (c : Nat → Nat), Fr a 133 [(7, .slice A266 l269.length C267), (8, .int .i64 i191), (9, .int .i64 i270)] ∧ Ev (fun x => (x = j5 ∨ x = j10 ∨ x = j15) ∨ m ≤ x) c0 w0 c w ∧ CB (m + 6) c w ∧ SP (Krw 4 (by decide)) (m + 2) (m + 1) c w A266 C267 l269 0 ∧ loop (fun (s_ : (List (List (Option (List Value)))) × Int) => haulagelaw20_outer.b3 i191 s_.1 s_.2) n (l269, i270) = some x280) (k := k) ⟨l190, A187, C188, 0, c192, F.sub ⟨rfl, rfl, rfl, trivial⟩, E, B, h189, HL⟩ ?_; clear HL H E F B; intro n277 X273 hX273 a w272 ⟨l269, A266, C267, i270, c271, F, E, B, h268, HL⟩; obtain ⟨n278, ctl276, rfl, HB, HN274, HD275⟩ := loop_some HL; have H : haulagelaw20_outer.b3 i191 l269 i270 = some ctl276 := HB; clear HB HL; unfold haulagelaw20_outer.b3 at H
  as_aux_lemma =>
  refine sq fun K281 hK281 => ?_; refine sr fun K282 hK282 => qm F fun a F => qm F fun a F => qm F fun a F => ?_; have h283 : SL false (Kslice (Krw 4 (by decide))) (m + 2) (m + 1) c271 w272 A266 C267 l269 := SP.view h268 (fun q_ => q_); replace H := ifN H; obtain ⟨g284, H⟩ := H; obtain ⟨ad285, cs286, e287, h288, r289⟩ := SL.at h283 i191 g284.1 g284.2; obtain ⟨A290, C291, rfl, h292⟩ := r289; obtain ⟨qa293, qqa293⟩ : ∃ q, q = (ad285.add (i191.toNat * 1)) := ⟨_, rfl⟩; have h288 : AT false (m + 2) c271 w272 qa293 [.slice A290 (rd l269 i191).length C291] := by rw [qqa293]; exact h288
  refine qv F (r_indexAddr' F Try.underlying74 sz_34 rfl rfl g284.1 g284.2 e287 qqa293) fun a F => ?_; refine qv F (r_load F rfl ag_34 (AT.cell0 h288 rfl)) fun a F => ?_; refine qv F (r_lensl F Try.underlying34 rfl) fun a F => ?_; refine qv F (r_lss F rfl rfl) fun a F => ?_; refine nil (hK282 _ _ ?_)
  by_cases hb295 : i270 < ((rd l269 i191).length : Int)
  ·replace H := ip hb295 H; refine wct (fb F (dt hb295)) (wp_skip (hK281 _ _ ?_)); refine sq fun K296 hK296 => ?_; refine wp_block ?_; refine reg ?_; refine qm F fun a F => qm F fun a F => ?_; replace H := ifN H; obtain ⟨g297, H⟩ := H; obtain ⟨c298, e299, e300, ad301, A302, C303, e304, h305, h306, h268⟩ := SP.lend (z := m + 3) h268 i191 g297.1 g297.2 (Nat.zero_le _) ⟨mm, (pl hm0)⟩ mm; obtain ⟨qa307, qqa307⟩ : ∃ q, q = (ad301.add (i191.toNat * 1)) := ⟨_, rfl⟩; have h305 : AT true (m + 2) c298 w272 qa307 [.slice A302 (rd l269 i191).length C303] := by rw [qqa307]; exact h305
   as_aux_lemma =>
   replace E : Ev (fun x => (x = j5 ∨ x = j10 ∨ x = j15) ∨ m ≤ x) c0 w0 c298 w272 := E.recol B0 (fun b_ hb_ => e299 b_ (by omega)); replace B := B.rk e300 lm; refine qv F (r_indexAddr' F Try.underlying74 sz_34 rfl rfl g297.1 g297.2 e304 qqa307) fun a F => ?_; refine qv F (r_load F rfl ag_34 (AT.cell0 h305 rfl)) fun a F => ?_; refine qm F fun a F => qm F fun a F => ?_; refine qv F (r_mul F rfl rfl) fun a F => ?_; refine qm F fun a F => ?_; refine qv F (r_add F rfl rfl) fun a F => ?_; refine qv F (r_build (v := .agg #[.int .i64 (IntKind.i64.wrap ((IntKind.i64.wrap (1000 * i191)) + i270)), .int .i64 0, .int .i64 0, .slice none 0 0]) F [(0, .int .i64 (IntKind.i64.wrap ((IntKind.i64.wrap (1000 * i191)) + i270)))] (by exact ⟨rfl, rfl, trivial⟩) (fun w => by kernel_rfl)) fun a F => ?_; replace H := ifN H; obtain ⟨g309, H⟩ := H; obtain ⟨ad310, cs311, e312, h313, r314⟩ := SL.at h306 i270 g309.1 g309.2; obtain ⟨u315, u316, u317, u318, rfl⟩ := cells_n4 r314.1; obtain ⟨qa319, qqa319⟩ : ∃ q, q = (ad310.add (i270.toNat * 4)) := ⟨_, rfl⟩; have h313 : AT true (m + 3) c298 w272 qa319 [u315, u316, u317, u318] := by rw [qqa319]; exact h313
   refine qv F (r_indexAddr' F Try.underlying34 sz_40 rfl rfl g309.1 g309.2 e312 qqa319) fun a F => ?_; refine q_eff0 F rfl rfl (e_storeelN (us := [.int .i64 (IntKind.i64.wrap ((IntKind.i64.wrap (1000 * i191)) + i270)), .int .i64 0, .int .i64 0, .slice none 0 0]) (k := (Krw 4 (by decide))) F rfl rfl sz_40 h306 g309.1 g309.2 e312 qqa319 h313 rfl (nb rfl) (one_all rfl) (some ([.int .i64 (IntKind.i64.wrap ((IntKind.i64.wrap (1000 * i191)) + i270)), .int .i64 0, .int .i64 0, .slice none 0 0] : List Value)) (Krw.mk rfl rfl) ne_zm) ?_; rintro w321 a ⟨E322, h306, Z323⟩ F; replace B := B.size Z323; replace h268 := h268.ev E322; replace h305 := h305.ev E322; replace E := E.trans E322 lc1; have hl324 : (rd l269 i191).length = ((rd l269 i191).set i270.toNat (some ([.int .i64 (IntKind.i64.wrap ((IntKind.i64.wrap (1000 * i191)) + i270)), .int .i64 0, .int .i64 0, .slice none 0 0] : List Value))).length := by simp
   have h305 : AT true (m + 2) c298 w321 qa307 [.slice A302 ((rd l269 i191).set i270.toNat (some ([.int .i64 (IntKind.i64.wrap ((IntKind.i64.wrap (1000 * i191)) + i270)), .int .i64 0, .int .i64 0, .slice none 0 0] : List Value))).length C303] := by rw [← hl324]; exact h305
   replace F := F.sub (L' := [(7, .slice A266 l269.length C267), (8, .int .i64 i191), (9, .int .i64 i270), (44, .agg #[.int .i64 (IntKind.i64.wrap ((IntKind.i64.wrap (1000 * i191)) + i270)), .int .i64 0, .int .i64 0, .slice none 0 0])]) ⟨rfl, rfl, rfl, rfl, trivial⟩; obtain ⟨c325, e326, e327, h268⟩ := SP.back (z := m + 3) (k := i191) (ad := ad301) h268 g297.1 g297.2 (Nat.zero_le _) e304 (by rw [← qqa307]; exact h305) h306 ⟨mm, (pl hm0)⟩ mm
   as_aux_lemma =>
   replace E : Ev (fun x => (x = j5 ∨ x = j10 ∨ x = j15) ∨ m ≤ x) c0 w0 c325 w321 := E.recol B0 (fun b_ hb_ => e326 b_ (by omega)); replace B := B.rk e327 lm; have hl328 : l269.length = (l269.set i191.toNat ((rd l269 i191).set i270.toNat (some ([.int .i64 (IntKind.i64.wrap ((IntKind.i64.wrap (1000 * i191)) + i270)), .int .i64 0, .int .i64 0, .slice none 0 0] : List Value)))).length := by simp
   replace F := F.sub (L' := [(7, .slice A266 (l269.set i191.toNat ((rd l269 i191).set i270.toNat (some ([.int .i64 (IntKind.i64.wrap ((IntKind.i64.wrap (1000 * i191)) + i270)), .int .i64 0, .int .i64 0, .slice none 0 0] : List Value)))).length C267), (8, .int .i64 i191), (9, .int .i64 i270), (44, .agg #[.int .i64 (IntKind.i64.wrap ((IntKind.i64.wrap (1000 * i191)) + i270)), .int .i64 0, .int .i64 0, .slice none 0 0])]) ⟨(by rw [← hl328]; rfl), rfl, rfl, rfl, trivial⟩; refine nil (hK296 _ _ ?_); refine reg ?_; refine qm F fun a F => ?_; refine qv F (r_add F rfl rfl) fun a F => ?_; refine qa F fun a F => nil ?_; replace H := HN274 _ (si H).symm; exact hX273 _ _ _ (Nat.lt_succ_self _) ⟨(l269.set i191.toNat ((rd l269 i191).set i270.toNat (some ([.int .i64 (IntKind.i64.wrap ((IntKind.i64.wrap (1000 * i191)) + i270)), .int .i64 0, .int .i64 0, .slice none 0 0] : List Value)))), A266, C267, (IntKind.i64.wrap (i270 + 1)), c325, F.sub ⟨rfl, rfl, rfl, trivial⟩, E, B, h268, H⟩
  replace H := im hb295 H; refine wcf (fb F (dz hb295)) ?_; refine wp_exit ?_; refine thenE ?_; refine thenE ?_; refine inbE ?_; have hx_ := HD275 _ (si H).symm; have H := HR279; rw [← hx_] at H; exact J338 c271 w272 a l269 A266 C267 (F.sub ⟨rfl, rfl, trivial⟩) E B h268 H
 replace H := im hb204 H
 as_aux_lemma =>
 refine wcf (fb F (dz hb204)) ?_; refine wp_exit ?_; refine thenE ?_; refine thenE ?_; refine inbE ?_; have hx_ := HD196 _ (si H).symm; have H := HR200; rw [← hx_] at H; exact J350 c192 w193 a l190 A187 C188 (F.sub ⟨rfl, trivial⟩) E B h189 H
end Go.Proofs.Ytdlokohmdnkdoaa.G