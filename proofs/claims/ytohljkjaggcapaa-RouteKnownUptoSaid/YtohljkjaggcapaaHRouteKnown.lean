/- The row of 'RouteKnown', its '..UptoSaid': whatever the input of bulk at most 1048576, the law returns true and the input reads as it did; its walk, its plain law, the row. -/
import Derived.Test.YtohljkjaggcapaaShs
import Derived.Test.YtohljkjaggcapaaHA
import Derived.Test.YtohljkjaggcapaaHB
import Derived.Maps.RangeWalk
import Derived.Test.YtohljkjaggcapaaRl
import Derived.Laws.OwnMore
import Derived.Test.YtohljkjaggcapaaRows
import Derived.WalkKit
import Derived.ProofKit
import Derived.OpenShut
import Derived.JoinedCond
import Derived.Below
import Derived.ChangeOld
/-! slices.Sort of whole numbers in the walks' own form. -/
namespace Go.Proofs.Ytohljkjaggcapaa.G
open Go Go.RowKit Go.Sort
set_option linter.unusedVariables false
set_option linter.unusedSimpArgs false
def sortI (l : List Int) : List Int := l.mergeSort fun x y => decide (x ≤ y)
theorem sortI_length (l : List Int) : (sortI l).length = l.length := List.length_mergeSort l
theorem slices_Sort.calls {m : Nat} {c0 : Nat → Nat} {w0 : World} {j1 : Nat} {A2 : Option Addr} {C3 : Nat} {a1 : List Int} (B0 : CB m c0 w0) (h4 : SL true (Kint .i64) j1 0 c0 w0 A2 C3 a1) (bj1 : j1 < m) (hs : a1.length < 4611686018427387904) :
    Calls Try.prog 27 #[.slice A2 a1.length C3] w0 (fun e w_ => ∃ (c_ : Nat → Nat), e = .returned (.tuple #[]) ∧ Ev (fun x => x = j1) c0 w0 c_ w_ ∧ CB m c_ w_ ∧ SL true (Kint .i64) j1 0 c_ w_ A2 C3 (sortI a1)) := by
  by_cases hn : a1 = []
  · subst hn
    refine (AnyM.slices_Sort_int_none Try.sortInts A2 C3 w0).mono ?_
    rintro e w' ⟨rfl, rfl⟩
    exact ⟨c0, rfl, Ev.refl, B0, by simpa [sortI] using h4⟩
  have hpos : 0 < a1.length := List.length_pos_iff.2 hn
  obtain ⟨cs, h2, h3, hl, hrow, hr⟩ := h4
  have hl : cs.length = C3 * 1 := hl
  rcases hrow with rfl | ⟨p, rfl, hat⟩
  · simp at hl; omega
  have cell : ∀ k, k < a1.length → cs[k]? = some (Value.int .i64 (a1.getD k 0)) := fun k hk => by
    have e : (cs.drop (k * 1)).take 1 = [Value.int .i64 a1[k]] := hr k hk
    have e2 := congrArg (fun l => l[0]?) e
    simp only [List.getElem?_take_of_lt (Nat.zero_lt_one), List.getElem?_drop, List.getElem?_cons_zero] at e2
    rw [Nat.mul_one, Nat.add_zero] at e2
    rw [e2, List.getD_eq_getElem?_getD, List.getElem?_eq_getElem hk]
    rfl
  have hat' := hat
  obtain ⟨b, off, cur, ty, fz, rfl, hb, hc, hcells, hfree⟩ := hat
  have hlt := lt_of_get hb
  have hH : Holds (Value.int .i64) w0 b off a1.toArray := fun k hk => by
    have hk : k < a1.length := by simpa using hk
    refine ⟨?_, ?_⟩
    · rw [← add_eq, hat'.cell (cell k hk)]
      congr 2
      rw [getElem!_pos _ k (by simpa using hk), List.getD_eq_getElem?_getD, List.getElem?_eq_getElem hk]
      rfl
    · rw [← add_eq]; exact hat'.free (by omega)
  refine (AnyM.slices_Sort_int Try.sortInts b off C3 a1 w0 hH hlt hs).mono ?_
  rintro e w' ⟨rfl, n, os, rfl⟩
  have old : ∀ k, k < w0.heap.size → b ≠ k → (grow (putRow (Value.int .i64) (Sort.ahead w0 n) b off (a1.mergeSort fun x y => decide (x ≤ y)).toArray) os).heap[k]? = w0.heap[k]? := fun k hk hne => by
    rw [heap_grow_old _ _ (by simpa [putRow, mapBlock, Sort.ahead] using hk)]
    simp [putRow, mapBlock, Sort.ahead, Array.getElem?_modify, hne]
  have new : (grow (putRow (Value.int .i64) (Sort.ahead w0 n) b off (a1.mergeSort fun x y => decide (x ≤ y)).toArray) os).heap[b]? = some (.cells (putCells (Value.int .i64) off (sortI a1).toArray cur) ty fz) := by
    rw [heap_grow_old _ _ (by simpa [putRow, mapBlock, Sort.ahead] using hlt)]
    simp [putRow, mapBlock, Sort.ahead, Array.getElem?_modify, hb, onCells, sortI]
  refine ⟨fun k => if k < w0.heap.size then c0 k else j1, rfl, ⟨rfl, rfl, rfl, by simp [grow, putRow, mapBlock, Sort.ahead], fun k hk => if_pos hk, fun k hk hm => old k hk (fun q => hm (by rw [← q]; exact hc))⟩, fun k _ => ?_, ?_⟩
  · show (if k < w0.heap.size then c0 k else j1) < m
    split
    · exact B0 k (by assumption)
    · exact bj1
  have hz : (sortI a1).length = a1.length := sortI_length a1
  have hin : off + a1.length ≤ cur.size := by
    have := hcells (a1.length - 1) (by omega)
    rw [List.getElem?_eq_getElem (by omega)] at this
    have := (Array.getElem?_eq_some_iff.1 this).1
    omega
  refine ⟨(sortI a1).map (Value.int .i64) ++ cs.drop a1.length, by rw [hz]; exact h2, h3, by simp [hz]; show a1.length + (cs.length - a1.length) = C3 * 1; omega, .inr ⟨_, rfl, b, off, _, ty, fz, rfl, new, by show (if b < w0.heap.size then c0 b else j1) = j1; rw [if_pos hlt]; exact hc, fun k hk => ?_, fun q k hk => hfree q k (by simp [hz] at hk; omega)⟩, fun k hk => ?_⟩
  · simp only [List.length_append, List.length_map, List.length_drop, hz] at hk
    simp only [putCells, Array.getElem?_mapIdx]
    by_cases c : k < a1.length
    · rw [List.getElem?_append_left (by simpa [hz] using c), List.getElem?_map, List.getElem?_eq_getElem (by omega)]
      rw [Array.getElem?_eq_getElem (by omega)]
      simp only [Option.map_some, List.size_toArray, hz]
      rw [if_pos (by omega)]
      congr 2
      have e : off + k - off = k := by omega
      rw [e, getElem!_pos _ k (by simp [hz]; exact c)]
      simp
    · rw [List.getElem?_append_right (by simpa [hz] using Nat.le_of_not_lt c), List.getElem?_drop]
      simp only [List.length_map, hz]
      have e : a1.length + (k - a1.length) = k := by omega
      rw [e, ← hcells k (by omega)]
      cases hq : cur[off + k]? with
      | none => rfl
      | some v =>
        simp only [Option.map_some, List.size_toArray, hz]
        rw [if_neg (by omega)]
  · show ((((sortI a1).map (Value.int .i64) ++ cs.drop a1.length).drop (k * 1)).take 1) = [Value.int .i64 (sortI a1)[k]]
    rw [Nat.mul_one, List.drop_append_of_le_length (by simp; omega), List.drop_eq_getElem_cons (by simpa using hk)]
    simp
end Go.Proofs.Ytohljkjaggcapaa.G
/-! At and Counts of a route, by hand: a loop over a map, whatever its order, and a sort. -/
namespace Go.Proofs.Ytohljkjaggcapaa.G
open Go Go.RowKit Go.Proofs.Ytohljkjaggcapaa.MV Go.Proofs.Ytohljkjaggcapaa.RT
set_option linter.unusedVariables false
set_option linter.unusedSimpArgs false
section
variable {P : Program} {a : Act} {N : Nat} {L : List (Nat × Value)} {D : List Deferred} {w w' : World} {v u : Value} {x y mm : Operand} {d : Option Tmp} {t e ty K : TypeId} {pos : String} {af : Array Edge} {gd : Option (Nat × Bool)} {c : Nat → Nat} {j b n : Nat} {f : Int → Option Value}
theorem r_lookup_ok (F : Fr a N L D) {k : Int} {z : Value} (hk : P.underlying K = some (.int .i64)) (ht : P.underlying t = some (.map K e)) (hz : (zeroValue e).run P w = .ok z w) (hm : ev L mm = some (.map (some b))) (hx : ev L x = some (.int .i64 k))
    (h : VMap w P K b n f) (hw : (Lit.int .i64 k).wf = true) : (execOp a.eval { dst := d, op := .lookup t mm x true, type := ty, pos := pos, after := af, guard := gd }).run P w = .ok (.value (.tuple #[(f k).getD z, .bool (f k).isSome])) w := by
  obtain ⟨D0, hD, r⟩ := h
  obtain ⟨v, ps, hrun, hv⟩ := hD.look_ok (Maps.int_keyed hk) ht hz (zd := .held z) (zp := []) rfl (Maps.keyOf_int_mk hk hw)
  rw [(r k).1 z] at hv
  simp only [MV.heldElem, Option.some.injEq, Prod.mk.injEq, DataW.held.injEq] at hv
  rw [(r k).2] at hrun
  simp [execOp, F.ev hm, F.ev hx, hrun, Result.andThen, hv.1]
theorem e_range (F : Fr a N L D) (c : Nat → Nat) (j : Nat) {D0 : DataW Value} (hk : P.underlying K = some (.int .i64)) (ht : P.underlying t = some (.map K e)) (hm : ev L x = some (.map (some b))) (h : w.ownsMap P K MV.heldElem b n D0) :
    ∃ v w', (execOp a.eval { dst := d, op := .range t x, type := ty, pos := pos, after := af, guard := gd }).run P w = .ok (.value v) w' ∧
      ∃ c' r, v = .pointer (some ⟨r, 0, none⟩) ∧ r = w.heap.size ∧ c' r = j ∧ Ev No c w c' w' ∧ w'.ranges P K MV.heldElem b r n D0 (Maps.has D0) (Maps.size D0) ∧ ∀ m, CB m c w → j < m → CB m c' w' := by
  obtain ⟨w', hrun, hr, hg, hs⟩ := h.range (Maps.int_keyed hk) ht
  refine ⟨_, w', by simp [execOp, F.ev hm, hrun, Result.andThen], cset c w.heap.size j, w.heap.size, rfl, rfl, by unfold cset; rw [if_pos rfl], ⟨hg.os, hg.tape, hg.output, hg.size, fun k hk => by unfold cset; rw [if_neg (by omega)], fun k hk _ => hg.block k hk (by simp)⟩, hr, fun m hm hj k hk => ?_⟩
  unfold cset
  split
  · exact hj
  · exact hm k (by omega)
theorem ranges_ev {M : Nat → Prop} {c' : Nat → Nat} {R : Value → Option (DataW Value × List MemPlace)} {r : Nat} {D0 : DataW Value} {left : Lit → Bool} {cnt : Nat} (h : w.ranges P K R b r n D0 left cnt) (E : Ev M c w c' w') (hb : ¬ M (c b)) (hr : ¬ M (c r)) : w'.ranges P K R b r n D0 left cnt := by
  have h1 := h.owns.lt
  have h2 := h.lt
  obtain ⟨es, clock, since, seen, c0, q1, q2, q3, q4, q5, rest⟩ := h
  exact ⟨es, clock, since, seen, c0, (E.blk b h1 hb).trans q1, q2, q3, q4, (E.blk r h2 hr).trans q5, rest⟩
theorem q_next {ops : Array Oper} {rest : List Oper} {K0 : Act → World → Prop} {dd : Nat} {it : Operand} {r cnt : Nat} {D0 : DataW Value} {left : Lit → Bool} (F : Fr a N L D) (hN : dd < N) (hk : P.underlying K = some (.int .i64)) (hx : ev L it = some (.pointer (some ⟨r, 0, none⟩))) (h : w.ranges P K MV.heldElem b r n D0 left cnt)
    (done : (∀ kl, left kl = false) → ∀ a', Fr a' N ((dd, .tuple #[.bool false]) :: L) D → wL P ops K0 rest a' w)
    (more : ∀ (x : Int) (v : Value) w' cnt' a', left (.int .i64 x) = true → (∀ zd, D0.atKey (.int .i64 x) zd = .held v) → w'.ranges P K MV.heldElem b r n D0 (fun z => left z && !z.sameKey (.int .i64 x)) cnt' → cnt' < cnt → w.grownBy w' (some r) → w'.heap.size = w.heap.size →
      (Instr.entry (.pointer (some ⟨r, 0, none⟩))).run P w' = .ok (.tuple #[.int .i64 x, v]) w' → Fr a' N ((dd, .tuple #[.bool true, .int .i64 x, v]) :: L) D → wL P ops K0 rest a' w') :
    wL P ops K0 ({ dst := some dd, op := .next it false, type := ty, pos := pos, after := af, guard := none } :: rest) a w := by
  rcases h.next (Maps.int_keyed hk) ty with ⟨h0, hl, hrun⟩ | ⟨key, v, kl, y, w', cnt', hkey, hlk, hv, hat, hrun, hrg, hlt, hgr, hsz, hen⟩
  · exact q_val F rfl rfl hN (by simp [execOp, F.ev hx, hrun, Result.andThen]) fun a' F' => done hl a' F'
  · obtain ⟨x, rfl, rfl, _⟩ := Maps.keyOf_int_inv hk hkey
    have hy : y = (.held v, []) := by simp only [MV.heldElem, Option.some.injEq] at hv; exact hv.symm
    subst hy
    exact q_val F rfl rfl hN (by simp [execOp, F.ev hx, hrun, Result.andThen]) fun a' F' => more x v w' cnt' a' hlk hat hrg hlt hgr hsz hen F'
theorem r_entry (F : Fr a N L D) (hx : ev L x = some u) (hrun : (Instr.entry u).run P w = .ok v w) : (execOp a.eval { dst := d, op := .entry x, type := ty, pos := pos, after := af, guard := gd }).run P w = .ok (.value v) w := by
  simp [execOp, F.ev hx, hrun, Result.andThen]
end
/-! ### the lists -/
theorem rising_len : ∀ {l : List Int} {lo hi : Int}, l.Pairwise (· < ·) → (∀ x ∈ l, lo ≤ x ∧ x < hi) → l.length ≤ (hi - lo).toNat
  | [], _, _, _, _ => Nat.zero_le _
  | x :: l, lo, hi, h, hb => by
    obtain ⟨h1, h2⟩ := List.pairwise_cons.1 h
    have := rising_len (lo := x + 1) (hi := hi) h2 fun y hy => ⟨by have := h1 y hy; omega, (hb y (by simp [hy])).2⟩
    have := hb x (by simp)
    simp only [List.length_cons]; omega
def homeL (S : RS) (v : Int) (i : Nat) : List Int := (List.map (fun n : Nat => (n : Int)) (List.range i)).filter fun s => decide (S.wh s = none ∧ S.where_ s = v)
theorem homeL_succ (S : RS) (v : Int) (i : Nat) : homeL S v (i + 1) = if S.wh i = none ∧ S.where_ i = v then homeL S v i ++ [(i : Int)] else homeL S v i := by
  unfold homeL
  rw [List.range_succ, List.map_append, List.filter_append]
  simp only [List.map_cons, List.map_nil, List.filter_cons, List.filter_nil]
  by_cases h : S.wh i = none ∧ S.where_ i = v
  · rw [if_pos h, if_pos (decide_eq_true h)]
  · rw [if_neg h, if_neg (by simpa using h)]; simp
theorem homeL_len (S : RS) (v : Int) (i : Nat) : (homeL S v i).length ≤ i := by
  unfold homeL; exact Nat.le_trans (List.length_filter_le _ _) (by simp)
theorem mem_homeL (S : RS) (v x : Int) (i : Nat) : x ∈ homeL S v i ↔ (0 ≤ x ∧ x < i) ∧ S.wh x = none ∧ S.where_ x = v := by
  unfold homeL
  rw [List.mem_filter, List.mem_map]
  constructor
  · rintro ⟨⟨n, hn, rfl⟩, h⟩
    exact ⟨by have := List.mem_range.1 hn; omega, of_decide_eq_true h⟩
  · rintro ⟨h, h2⟩
    exact ⟨⟨x.toNat, List.mem_range.2 (by omega), by omega⟩, decide_eq_true h2⟩
theorem homeL_nodup (S : RS) (v : Int) (i : Nat) : (homeL S v i).Nodup := by
  unfold homeL
  refine List.Pairwise.filter _ ?_
  rw [List.pairwise_map]
  exact List.pairwise_lt_range.imp (fun h => by omega)
theorem rising_eq : ∀ {l m : List Int}, l.Pairwise (· < ·) → m.Pairwise (· < ·) → (∀ x, x ∈ l ↔ x ∈ m) → l = m
  | [], [], _, _, _ => rfl
  | [], y :: m, _, _, h => by have := (h y).2 (by simp); cases this
  | x :: l, [], _, _, h => by have := (h x).1 (by simp); cases this
  | x :: l, y :: m, hl, hm, h => by
    obtain ⟨h1, h2⟩ := List.pairwise_cons.1 hl
    obtain ⟨h3, h4⟩ := List.pairwise_cons.1 hm
    have hxy : x = y := by
      rcases List.mem_cons.1 ((h x).1 (by simp)) with e | e
      · exact e
      · rcases List.mem_cons.1 ((h y).2 (by simp)) with e2 | e2
        · exact e2.symm
        · have := h3 x e; have := h1 y e2; omega
    subst hxy
    congr 1
    refine rising_eq h2 h4 fun z => ⟨fun hz => ?_, fun hz => ?_⟩
    · rcases List.mem_cons.1 ((h z).1 (by simp [hz])) with e | e
      · subst e; have := h1 z hz; omega
      · exact e
    · rcases List.mem_cons.1 ((h z).2 (by simp [hz])) with e | e
      · subst e; have := h3 z hz; omega
      · exact e
theorem sortI_rises {l : List Int} (h : l.Nodup) : (sortI l).Pairwise (· < ·) := by
  have hs : (sortI l).Pairwise (fun x y => decide (x ≤ y) = true) := List.pairwise_mergeSort (le := fun x y : Int => decide (x ≤ y)) (fun a b c h1 h2 => by simp at h1 h2 ⊢; omega) (fun a b => by simp; omega) l
  have hn : (sortI l).Nodup := (List.mergeSort_perm l _).nodup_iff.2 h
  exact (List.Pairwise.and hs hn).imp (fun {a b} hab => by have h1 := of_decide_eq_true hab.1; have h2 : a ≠ b := hab.2; omega)
theorem at_sorted {S : RS} {v : Int} {ks : List Int} (hN : 0 ≤ S.shards) (h0 : 1 ≤ S.servers) (hk : ∀ k u, S.wh k = some u → 0 ≤ k ∧ k < S.shards) (hd : ks.Nodup) (hm : ∀ x, x ∈ ks ↔ S.wh x = some v) : sortI (homeL S v S.shards.toNat ++ ks) = atV S v := by
  have hnd : (homeL S v S.shards.toNat ++ ks).Nodup := by
    refine List.nodup_append.2 ⟨homeL_nodup _ _ _, hd, fun x h1 y h2 e => ?_⟩
    subst e
    have q1 := ((mem_homeL _ _ _ _).1 h1).2.1
    rw [(hm x).1 h2] at q1
    cases q1
  refine rising_eq (sortI_rises hnd) ?_ fun x => ?_
  · unfold atV
    refine List.Pairwise.filter _ ?_
    rw [List.pairwise_map]
    exact List.pairwise_lt_range.imp (fun h => by omega)
  · have e1 : x ∈ sortI (homeL S v S.shards.toNat ++ ks) ↔ x ∈ homeL S v S.shards.toNat ++ ks := (List.mergeSort_perm _ _).mem_iff
    have e2 : x ∈ atV S v ↔ (0 ≤ x ∧ x < S.shards) ∧ S.where_ x = v := by
      unfold atV
      rw [List.mem_filter, List.mem_map]
      constructor
      · rintro ⟨⟨n, hn, rfl⟩, h⟩
        exact ⟨by have := List.mem_range.1 hn; omega, of_decide_eq_true h⟩
      · rintro ⟨h, h2⟩
        exact ⟨⟨x.toNat, List.mem_range.2 (by omega), by omega⟩, decide_eq_true h2⟩
    rw [e1, e2, List.mem_append, mem_homeL, hm]
    have hw : ∀ u, S.wh x = some u → 0 ≤ x → x < S.shards → S.where_ x = u := fun u hu i0 i1 => by
      unfold RS.where_
      rw [if_pos (by unfold RS.is; simp; omega), hu]
    constructor
    · rintro (⟨h1, h2, h3⟩ | h)
      · exact ⟨by omega, h3⟩
      · have := hk x v h
        exact ⟨this, hw v h this.1 this.2⟩
    · rintro ⟨h1, h2⟩
      cases hx : S.wh x with
      | none => exact .inl ⟨by omega, rfl, h2⟩
      | some u => right; rw [← h2, hw u hx h1.1 h1.2]
/-! ### the walk -/
theorem agm : ∀ w, (isAgg 56).run Try.prog w = .ok false w := fun _ => by kernel_rfl
theorem agi : ∀ w, (isAgg 3).run Try.prog w = .ok false w := fun _ => by kernel_rfl
theorem ffs : ∀ q w, (Instr.fieldAt 59 (.pointer (some q)) 1).run Try.prog w = .ok (.pointer (some (q.add 1))) w := fun _ _ => by kernel_rfl
theorem ffw : ∀ q w, (Instr.fieldAt 59 (.pointer (some q)) 2).run Try.prog w = .ok (.pointer (some (q.add 2))) w := fun _ _ => by kernel_rfl
theorem ff4 : ∀ q w, (Instr.fieldAt 59 (.pointer (some q)) 4).run Try.prog w = .ok (.pointer (some (q.add 4))) w := fun _ _ => by kernel_rfl
theorem ff5 : ∀ q w, (Instr.fieldAt 59 (.pointer (some q)) 5).run Try.prog w = .ok (.pointer (some (q.add 5))) w := fun _ _ => by kernel_rfl
theorem ff6 : ∀ q w, (Instr.fieldAt 59 (.pointer (some q)) 6).run Try.prog w = .ok (.pointer (some (q.add 6))) w := fun _ _ => by kernel_rfl
theorem etl : ET Try.prog 22 3 1 8 (.int .i64 0) := ⟨Try.underlying22, info_parts' (by kernel_rfl), rfl⟩
theorem rep_at {w : World} {F : Nat → Prop} {b n : Nat} {S : RS} {m1 m2 : Nat} {T : Int → Option Value} {c : Nat → Nat} {j : Nat} (h : Rep w F b n S m1 m2 T) (hc : c b = j) : AT true j c w ⟨b, 0, none⟩ [.int .i64 S.servers, .int .i64 S.shards, .map (some m1), .map (some m2), .int .i64 S.good, .int .i64 S.hints, .int .i64 S.moved] :=
  ⟨b, 0, _, _, (0, 0), rfl, h.blk, hc, fun k hk => by rw [Nat.zero_add]; unfold RS.cells; exact (Array.getElem?_toList (xs := #[Value.int .i64 S.servers, .int .i64 S.shards, .map (some m1), .map (some m2), .int .i64 S.good, .int .i64 S.hints, .int .i64 S.moved])).symm, fun _ k hk => by omega⟩
set_option maxRecDepth 100000 in
set_option maxHeartbeats 4000000 in
theorem route_Route_At.calls {m : Nat} {c0 : Nat → Nat} {w0 : World} {j4 : Nat} {p2 : Option Addr} {a1 : Option Rou} {a5 : Int} (hm0 : 0 < m) (B0 : CB m c0 w0) (h3 : RU j4 c0 w0 p2 a1) (bj4 : j4 < m) (jr : Nat) (bjr : jr < m) (r_ : List Int) (H : route_Route_At.f a1 a5 = some r_) :
    Calls Try.prog 18 #[.pointer p2, .int .i64 a5] w0 (fun e w_ => ∃ (c_ : Nat → Nat) (A0_ : Option Addr) (C0_ : Nat), e = .returned (.slice A0_ r_.length C0_) ∧ Ev (fun x => False) c0 w0 c_ w_ ∧ CB m c_ w_ ∧ SL true (Kint .i64) jr 0 c_ w_ A0_ C0_ r_) := by
  rcases a1 with _ | q
  · have h3 : p2 = none := h3
    subst h3
    have H := Option.some.inj H
    subst H
    refine (at_nil a5 w0).mono ?_
    rintro e w' ⟨rfl, hd⟩
    exact ⟨newc w0 c0 jr, none, 0, rfl, ev_below hd.below jr, cb_newc B0 bjr, SL.nil⟩
  dsimp only [route_Route_At.f] at H
  have hr := (Option.some.inj H).symm
  clear H
  have h3' := h3
  obtain ⟨b, m1_, m2_, T_, rfl, R0, hkeys⟩ := h3'
  have hs0 := R0.s0; have hs1 := R0.s1; have hh0 := R0.h0; have hh1 := R0.h1
  clear R0
  have B := B0.mono (show m ≤ m + 3 by omega)
  have E : Ev (fun x => False ∨ m ≤ x) c0 w0 c0 w0 := Ev.refl
  refine enter (N := 64) (l := [.pointer (some ⟨b, 0, none⟩), .int .i64 a5]) Try.func18 rfl rfl (Nat.le_of_ble_eq_true rfl) fun a F => ?_
  refine wp_seq_k fun K1 hK1 => ?_
  refine reg ?_
  refine q_val F rfl rfl (by decide) (r_assign F rfl) fun a F => ?_
  refine nil ?_
  refine hK1 _ _ ?_
  refine wp_seq_k fun K2 hK2 => ?_
  refine reg ?_
  refine q_val F rfl rfl (by decide) (r_assign F rfl) fun a F => ?_
  refine nil ?_
  refine hK2 _ _ ?_
  refine wp_seq_k fun K3 hK3 => ?_
  refine wp_seq_k fun K4 hK4 => ?_
  refine reg ?_
  refine q_val F rfl rfl (by decide) (r_move F rfl) fun a F => ?_
  refine q_val F rfl rfl (by decide) (r_peql F Try.underlying24 rfl rfl) fun a F => ?_
  refine nil ?_
  refine hK4 _ _ ?_
  refine wp_cond_false (F.ev rfl) ?_
  refine wp_skip ?_
  refine hK3 _ _ ?_
  refine wp_seq_k fun K5 hK5 => ?_
  refine wp_seq_k fun K6 hK6 => ?_
  refine reg ?_
  obtain ⟨b_, m1, m2, T, eb, R, _⟩ := h3
  cases eb
  have hat := rep_at R R.fb
  refine q_val F rfl rfl (by decide) (r_move F rfl) fun a F => ?_
  refine q_val F rfl rfl (by decide) (r_nil F rfl) fun a F => ?_
  refine q_val F rfl rfl (by decide) (r_fieldAddr F rfl ffs) fun a F => ?_
  refine q_val F rfl rfl (by decide) (r_load F rfl agi (AT.cell hat (n := 1) rfl)) fun a F => ?_
  refine q_val F rfl rfl (by decide) (r_move F rfl) fun a F => ?_
  refine nil ?_
  refine hK6 _ _ ?_
  refine wp_block ?_
  have h3 : RU j4 c0 w0 (some ⟨b, 0, none⟩) (some q) := ⟨b, m1, m2, T, rfl, R, hkeys⟩
  clear hat R
  -- behind the first loop
  have J1 : ∀ (A : Option Addr) (C : Nat) (c : Nat → Nat) (w : World) (a : Act), Fr a 64 [(0, .pointer (some ⟨b, 0, none⟩)), (1, .int .i64 a5), (5, .slice A (homeL q.s a5 q.s.shards.toNat).length C)] → Ev (fun x => False ∨ m ≤ x) c0 w0 c w → CB (m + 3) c w → RU j4 c w (some ⟨b, 0, none⟩) (some q) → SL true (Kint .i64) m 0 c w A C (homeL q.s a5 q.s.shards.toNat) → K5 a w := by
    clear F E B h3
    intro A C c w a F E B h3 hS
    refine hK5 _ _ ?_
    refine wp_seq_k fun K7 hK7 => ?_
    refine wp_seq_k fun K8 hK8 => ?_
    refine reg ?_
    obtain ⟨b_, m1, m2, T, eb, R, _⟩ := h3
    cases eb
    have hat := rep_at R R.fb
    refine q_val F rfl rfl (by decide) (r_move F rfl) fun a F => ?_
    refine q_val F rfl rfl (by decide) (r_nil F rfl) fun a F => ?_
    refine q_val F rfl rfl (by decide) (r_fieldAddr F rfl ffw) fun a F => ?_
    refine q_val F rfl rfl (by decide) (r_load F rfl agm (AT.cell hat (n := 2) rfl)) fun a F => ?_
    obtain ⟨D0, hD, hDk⟩ := R.vm1
    have hcm : c m1 = j4 := R.f1
    have hDs : ∀ x, Maps.has D0 (.int .i64 x) = (q.s.wh x).isSome := fun x => by
      have := (hDk x).2
      rw [this]
      show (Option.map (Value.int .i64) (q.s.wh x)).isSome = _
      cases q.s.wh x <;> rfl
    have hDv : ∀ x z, D0.atKey (.int .i64 x) (.held z) = .held ((Option.map (Value.int .i64) (q.s.wh x)).getD z) := fun x z => (hDk x).1 z
    clear hat R
    refine q_eff F rfl rfl (by decide) (e_range F c (m + 1) Try.underlying3 Try.underlying56 rfl hD) ?_
    rintro v w1 a ⟨c1, r, rfl, er, hcr, E1, hrg, B1⟩ F
    have B := B1 _ B (by omega)
    have hcm : c1 m1 = j4 := (E1.col _ hD.lt).trans hcm
    have hS := hS.ev E1 (fun q => q.elim) (fun q => q.elim)
    have E := E.trans E1 (fun x q => q.elim)
    refine nil ?_
    refine hK8 _ _ ?_
    refine wp_block ?_
    -- behind the second loop
    have J2 : ∀ (ks : List Int) (A : Option Addr) (C : Nat) (c : Nat → Nat) (w : World) (a : Act), Fr a 64 [(5, .slice A (homeL q.s a5 q.s.shards.toNat ++ ks).length C)] → Ev (fun x => False ∨ m ≤ x) c0 w0 c w → CB (m + 3) c w → SL true (Kint .i64) m 0 c w A C (homeL q.s a5 q.s.shards.toNat ++ ks) → ks.length ≤ 64 → ks.Nodup → (∀ x, x ∈ ks ↔ q.s.wh x = some a5) → K7 a w := by
      clear F E B hS
      intro ks A C c w a F E B hS hl hn hm
      refine hK7 _ _ ?_
      refine wp_seq_k fun K9 hK9 => ?_
      refine reg ?_
      refine q_val F rfl rfl (by decide) (r_move F rfl) fun a F => ?_
      have hlen : (homeL q.s a5 q.s.shards.toNat ++ ks).length < 4611686018427387904 := by have := homeL_len q.s a5 q.s.shards.toNat; rw [List.length_append]; omega
      refine q_call F rfl rfl (by decide) (r_call F Try.func27 rfl (by kernel_rfl) rfl) (slices_Sort.calls B hS (by omega) hlen) ?_
      rintro e w1 ⟨c1, rfl, E1, B1, hS1⟩
      refine ⟨_, rfl, fun a F => ?_⟩
      have E := E.trans E1 (fun x q => by replace q : x = m := q; show False ∨ m ≤ x; omega)
      refine nil ?_
      refine hK9 _ _ ?_
      refine wp_seq_k fun K10 hK10 => ?_
      refine reg ?_
      refine q_val F rfl rfl (by decide) (r_move F rfl) fun a F => ?_
      refine q_val F rfl rfl (by decide) (r_assign F rfl) fun a F => ?_
      refine nil ?_
      refine hK10 _ _ ?_
      refine wp_ret ?_
      have es : sortI (homeL q.s a5 q.s.shards.toNat ++ ks) = r_ := hr ▸ at_sorted (by omega) hs0 hkeys hn hm
      refine out1 F rfl rfl ?_
      refine ⟨fun b_ => (fun x_ => if x_ = m then jr else if x_ < m then x_ else 0) (c1 b_), A, C, ?_, E.leave B0 (fun x_ => if x_ = m then jr else if x_ < m then x_ else 0) (by intro x_ hx_; show (if x_ = m then jr else if x_ < m then x_ else 0) = x_; ((repeat' split) <;> omega)), (fun b_ hb_ => by show (if (c1 b_) = m then jr else if (c1 b_) < m then (c1 b_) else 0) < m; ((repeat' split) <;> omega)), ?_⟩
      · rw [← es, sortI_length]
      · rw [← es]
        exact SL.rc hS1 (fun k_ hk_ => by show (if (c1 k_) = m then jr else if (c1 k_) < m then (c1 k_) else 0) = _; rw [hk_]; ((repeat' split) <;> omega)) (fun k_ hk_ => by show (if (c1 k_) = m then jr else if (c1 k_) < m then (c1 k_) else 0) = _; rw [hk_]; ((repeat' split) <;> omega))
    refine loop_fuel (I := fun n a w => ∃ (left : Lit → Bool) (ks : List Int) (A : Option Addr) (C : Nat) (c : Nat → Nat), Fr a 64 [(1, .int .i64 a5), (5, .slice A (homeL q.s a5 q.s.shards.toNat ++ ks).length C), (48, .pointer (some ⟨r, 0, none⟩))] ∧ Ev (fun x => False ∨ m ≤ x) c0 w0 c w ∧ CB (m + 3) c w ∧ w.ranges Try.prog 3 MV.heldElem m1 r q.n D0 left n ∧ c m1 = j4 ∧ c r = m + 1 ∧ SL true (Kint .i64) m 0 c w A C (homeL q.s a5 q.s.shards.toNat ++ ks) ∧ ks.Nodup ∧ (∀ x, x ∈ ks ↔ (q.s.wh x = some a5 ∧ left (.int .i64 x) = false)) ∧ (∀ kl, left kl = true → Maps.has D0 kl = true)) (k := Maps.size D0)
      ⟨Maps.has D0, [], A, C, c1, F.sub ⟨rfl, by rw [List.append_nil]; rfl, rfl, trivial⟩, E, B, hrg, hcm, hcr, by rw [List.append_nil]; exact hS, List.nodup_nil, fun x => ⟨fun h => (by cases h), fun h => (by have := hDs x; rw [h.1, h.2] at this; cases this)⟩, fun kl h => h⟩ ?_
    clear F E B hS hrg hcm hcr E1 B1
    intro n X hX a w ⟨left, ks, A, C, c, F, E, B, hrg, hcm, hcr, hS, hn, hm, hh⟩
    have hlen : ks.length ≤ 64 := by
      have e := sortI_length ks
      have := rising_len (lo := 0) (hi := 64) (sortI_rises hn) fun x hx => by
        have := hkeys x a5 ((hm x).1 ((List.mergeSort_perm ks _).mem_iff.1 hx)).1
        omega
      omega
    refine wp_seq_k fun K11 hK11 => ?_
    refine reg ?_
    refine q_next F (by decide) Try.underlying3 rfl hrg ?_ ?_
    · intro hl a F
      refine q_val F rfl rfl (by decide) (r_extract F rfl rfl) fun a F => ?_
      refine nil ?_
      refine hK11 _ _ ?_
      refine wp_seq_k fun K12 hK12 => ?_
      refine wp_cond_false (F.ev rfl) ?_
      refine wp_exit ?_
      repeat (first | refine thenE ?_ | refine inbE ?_)
      exact J2 ks A C c w a (F.sub ⟨rfl, trivial⟩) E B hS hlen hn fun x => ⟨fun h => ((hm x).1 h).1, fun h => (hm x).2 ⟨h, hl _⟩⟩
    · intro x v w1 cnt1 a hlx hat hrg1 hlt hgr hsz hen F
      have E1 : Ev (fun x => x = m + 1) c w c w1 := ⟨hgr.os, hgr.tape, hgr.output, hgr.size, fun _ _ => rfl, fun k hk hm => hgr.block k hk (fun e => hm (by injection e with e; rw [e]; exact hcr))⟩
      obtain ⟨u, hu⟩ : ∃ u, q.s.wh x = some u := by
        have h1 := hh _ hlx
        rw [hDs x] at h1
        cases e : q.s.wh x with
        | none => rw [e] at h1; cases h1
        | some u => exact ⟨u, rfl⟩
      have hv : v = .int .i64 u := by
        have h1 := hat (.held undef)
        rw [hDv x undef, hu] at h1
        injection h1 with h1
        exact h1.symm
      subst hv
      have B := B.size hsz
      have hS := hS.ev E1 (by show ¬ (m = m + 1); omega) (by show ¬ (0 = m + 1); omega)
      have E := E.trans E1 (fun x q => by replace q : x = m + 1 := q; show False ∨ m ≤ x; omega)
      refine q_val F rfl rfl (by decide) (r_extract F rfl rfl) fun a F => ?_
      refine nil ?_
      refine hK11 _ _ ?_
      refine wp_seq_k fun K12 hK12 => ?_
      refine wp_cond_true (F.ev rfl) ?_
      refine wp_skip ?_
      refine hK12 _ _ ?_
      refine wp_block ?_
      refine wp_seq_k fun K13 hK13 => ?_
      refine reg ?_
      refine q_val F rfl rfl (by decide) (r_entry F rfl hen) fun a F => ?_
      refine q_val F rfl rfl (by decide) (r_extract F rfl rfl) fun a F => ?_
      refine q_val F rfl rfl (by decide) (r_extract F rfl rfl) fun a F => ?_
      refine q_val F rfl rfl (by decide) (r_assign F rfl) fun a F => ?_
      refine q_val F rfl rfl (by decide) (r_assign F rfl) fun a F => ?_
      refine nil ?_
      refine hK13 _ _ ?_
      refine wp_seq_k fun K14 hK14 => ?_
      refine reg ?_
      refine q_val F rfl rfl (by decide) (r_move F rfl) fun a F => ?_
      refine q_val F rfl rfl (by decide) (r_move F rfl) fun a F => ?_
      refine q_val F rfl rfl (by decide) (r_eql F rfl rfl) fun a F => ?_
      refine nil ?_
      refine hK14 _ _ ?_
      have hleft : ∀ y, (left (.int .i64 y) && !(Lit.int .i64 y).sameKey (.int .i64 x)) = false ↔ left (.int .i64 y) = false ∨ y = x := fun y => by
        by_cases e : y = x
        · subst e
          rw [WideAt.sameKey_self (show WideAt.IsKeyLit (.int .i64 y) from trivial)]
          simp
        · have : (Lit.int .i64 y).sameKey (.int .i64 x) = false := by
            cases hs : (Lit.int .i64 y).sameKey (.int .i64 x)
            · rfl
            · have := WideAt.sameKey_eq hs; injection this with _ h; exact absurd h e
          rw [this]; simp [e]
      have hh' : ∀ kl, (left kl && !kl.sameKey (.int .i64 x)) = true → Maps.has D0 kl = true := fun kl h => hh kl (by simp only [Bool.and_eq_true] at h; exact h.1)
      by_cases c1 : u = a5
      · refine wp_cond_true ((F.ev rfl).trans (congrArg Value.bool (decide_eq_true c1))) ?_
        subst c1
        refine reg ?_
        refine q_val F rfl rfl (by decide) (r_move F rfl) fun a F => ?_
        refine q_val F rfl rfl (by decide) (r_move F rfl) fun a F => ?_
        refine q_eff F rfl rfl (by decide) (e_buildSlice (n := 1) (e := 3) (c := c) (k := Kint .i64) (i := 0) F [(0, .int .i64 x)] [.int .i64 x] ([x] : List Int) (by exact ⟨rfl, rfl, trivial⟩) (fun w => by kernel_rfl) rfl (by decide) rfl ⟨rfl, trivial⟩ (fun q => q) (m + 2)) ?_
        rintro v w2 a ⟨c2, A2, C2, rfl, E2, h2, B2⟩ F
        have B := B2 _ B (by omega)
        have hS := hS.ev E2 (fun q => q.elim) (fun q => q.elim)
        have hrg2 := ranges_ev hrg1 E2 (fun q => q.elim) (fun q => q.elim)
        have hcm2 : c2 m1 = j4 := (E2.col _ hrg1.owns.lt).trans hcm
        have hcr2 : c2 r = m + 1 := (E2.col _ hrg1.lt).trans hcr
        have E := E.trans E2 (fun x q => q.elim)
        have hl1 : (homeL q.s u q.s.shards.toNat ++ ks).length + 1 ≤ 1000 := by have := homeL_len q.s u q.s.shards.toNat; rw [List.length_append]; omega
        refine q_eff F rfl rfl (by decide) (e_append (k := Kint .i64) (xs := homeL q.s u q.s.shards.toNat ++ ks) (ys := [x]) (c := c2) (j := m) (i := 0) F etl rfl rfl hS h2 (by simp only [List.length_cons, List.length_nil]; omega) (by unfold maxLen; simp only [List.length_cons, List.length_nil]; omega) (by omega)) ?_
        rintro v w3 a ⟨c3, A3, C3, rfl, E3, h3, B3⟩ F
        have B := B3 _ B (by omega)
        have hrg3 := ranges_ev hrg2 E3 (by show ¬ (c2 m1 = m); omega) (by show ¬ (c2 r = m); omega)
        have hcm3 : c3 m1 = j4 := (E3.col _ hrg2.owns.lt).trans hcm2
        have hcr3 : c3 r = m + 1 := (E3.col _ hrg2.lt).trans hcr2
        have E := E.trans E3 (fun x q => by replace q : x = m := q; show False ∨ m ≤ x; omega)
        refine q_val F rfl rfl (by decide) (r_assign F rfl) fun a F => ?_
        refine nil ?_
        rw [List.append_assoc] at h3
        refine hX _ _ _ hlt ⟨_, ks ++ [x], A3, C3, c3, F.sub ⟨rfl, by rw [← List.append_assoc]; rfl, rfl, trivial⟩, E, B, hrg3, hcm3, hcr3, h3, ?_, fun y => ?_, hh'⟩
        · refine List.nodup_append.2 ⟨hn, by simp, fun y h1 z h2 e => ?_⟩
          simp only [List.mem_singleton] at h2
          subst h2; subst e
          have := ((hm y).1 h1).2
          rw [hlx] at this; cases this
        · rw [List.mem_append, hm, List.mem_singleton, hleft]
          constructor
          · rintro (⟨h1, h2⟩ | rfl)
            · exact ⟨h1, .inl h2⟩
            · exact ⟨hu, .inr rfl⟩
          · rintro ⟨h1, h2 | h2⟩
            · exact .inl ⟨h1, h2⟩
            · exact .inr h2
      · refine wp_cond_false ((F.ev rfl).trans (congrArg Value.bool (decide_eq_false c1))) ?_
        refine wp_skip ?_
        refine hX _ _ _ hlt ⟨_, ks, A, C, c, F.sub ⟨rfl, rfl, rfl, trivial⟩, E, B, hrg1, hcm, hcr, hS, hn, fun y => ?_, hh'⟩
        rw [hm, hleft]
        constructor
        · rintro ⟨h1, h2⟩; exact ⟨h1, .inl h2⟩
        · rintro ⟨h1, h2 | h2⟩
          · exact ⟨h1, h2⟩
          · subst h2; rw [hu] at h1; exact absurd (Option.some.inj h1) c1
  refine loop_fuel (I := fun n a w => ∃ (i : Nat) (A : Option Addr) (C : Nat) (c : Nat → Nat), Fr a 64 [(0, .pointer (some ⟨b, 0, none⟩)), (1, .int .i64 a5), (5, .slice A (homeL q.s a5 i).length C), (17, .int .i64 q.s.shards), (18, .int .i64 i)] ∧ Ev (fun x => False ∨ m ≤ x) c0 w0 c w ∧ CB (m + 3) c w ∧ RU j4 c w (some ⟨b, 0, none⟩) (some q) ∧ SL true (Kint .i64) m 0 c w A C (homeL q.s a5 i) ∧ (i : Int) ≤ q.s.shards ∧ n = q.s.shards.toNat - i) (k := q.s.shards.toNat) ⟨0, none, 0, c0, F.sub ⟨rfl, rfl, rfl, rfl, rfl, trivial⟩, E, B, h3, SL.nil, by omega, by omega⟩ ?_
  clear F E B h3
  intro n X hX a w ⟨i, A, C, c, F, E, B, h3, hS, hi, en⟩
  refine wp_seq_k fun K7 hK7 => ?_
  refine reg ?_
  refine q_val F rfl rfl (by decide) (r_lss F rfl rfl) fun a F => ?_
  refine nil ?_
  refine hK7 _ _ ?_
  refine wp_seq_k fun K8 hK8 => ?_
  by_cases hb : (i : Int) < q.s.shards
  · refine wp_cond_true ((F.ev rfl).trans (congrArg Value.bool (decide_eq_true hb))) ?_
    refine wp_skip ?_
    refine hK8 _ _ ?_
    refine wp_seq_k fun K9 hK9 => ?_
    refine wp_block ?_
    refine wp_seq_k fun K10 hK10 => ?_
    refine reg ?_
    refine q_val F rfl rfl (by decide) (r_move F rfl) fun a F => ?_
    refine q_val F rfl rfl (by decide) (r_assign F rfl) fun a F => ?_
    refine nil ?_
    refine hK10 _ _ ?_
    refine wp_seq_k fun K11 hK11 => ?_
    refine reg ?_
    have h3' := h3
    obtain ⟨b_, m1, m2, T, eb, R, _⟩ := h3'
    cases eb
    have hat := rep_at R R.fb
    refine q_val F rfl rfl (by decide) (r_move F rfl) fun a F => ?_
    refine q_val F rfl rfl (by decide) (r_nil F rfl) fun a F => ?_
    refine q_val F rfl rfl (by decide) (r_fieldAddr F rfl ffw) fun a F => ?_
    refine q_val F rfl rfl (by decide) (r_load F rfl agm (AT.cell hat (n := 2) rfl)) fun a F => ?_
    refine q_val F rfl rfl (by decide) (r_move F rfl) fun a F => ?_
    refine q_val F rfl rfl (by decide) (r_lookup_ok F Try.underlying3 Try.underlying56 (zeroInt _) rfl rfl R.vm1 (fits_wf (by omega))) fun a F => ?_
    refine q_val F rfl rfl (by decide) (r_move F rfl) fun a F => ?_
    refine q_val F rfl rfl (by decide) (r_extract F rfl rfl) fun a F => ?_
    refine q_val F rfl rfl (by decide) (r_extract F rfl rfl) fun a F => ?_
    refine q_val F rfl rfl (by decide) (r_assign F rfl) fun a F => ?_
    refine q_val F rfl rfl (by decide) (r_assign F rfl) fun a F => ?_
    refine nil ?_
    refine hK11 _ _ ?_
    clear hat R
    -- behind the round
    have J3 : ∀ (A : Option Addr) (C : Nat) (c : Nat → Nat) (w : World) (a : Act), Fr a 64 [(0, .pointer (some ⟨b, 0, none⟩)), (1, .int .i64 a5), (5, .slice A (homeL q.s a5 (i + 1)).length C), (17, .int .i64 q.s.shards), (18, .int .i64 i)] → Ev (fun x => False ∨ m ≤ x) c0 w0 c w → CB (m + 3) c w → RU j4 c w (some ⟨b, 0, none⟩) (some q) → SL true (Kint .i64) m 0 c w A C (homeL q.s a5 (i + 1)) → K9 a w := by
      clear F E B h3 hS
      intro A C c w a F E B h3 hS
      refine hK9 _ _ ?_
      refine reg ?_
      refine q_val F rfl rfl (by decide) (r_add F rfl rfl) fun a F => ?_
      refine q_val F rfl rfl (by decide) (r_move F rfl) fun a F => ?_
      refine nil ?_
      have ew : IntKind.i64.wrap ((i : Int) + 1) = ((i + 1 : Nat) : Int) := by rw [IntKind.wrap_i64]; omega
      rw [ew] at F
      exact hX _ _ _ (show q.s.shards.toNat - (i + 1) < n by omega) ⟨i + 1, A, C, c, F.sub ⟨rfl, rfl, rfl, rfl, rfl, trivial⟩, E, B, h3, hS, by omega, rfl⟩
    refine wp_seq_k fun K12 hK12 => ?_
    refine reg ?_
    refine q_val F rfl rfl (by decide) (r_move F rfl) fun a F => ?_
    refine q_val F rfl rfl (by decide) (r_not F rfl) fun a F => ?_
    refine q_val F rfl rfl (by decide) (r_move F rfl) fun a F => ?_
    cases hw : q.s.wh i with
    | none =>
      rw [hw] at F
      have hb1 : (!(Option.map (Value.int .i64) (none : Option Int)).isSome) = true := rfl
      refine q_yes F rfl (by decide) rfl hb1 ?_
      refine q_val F rfl rfl (by decide) (r_move F rfl) fun a F => ?_
      refine q_yes F rfl (by decide) rfl hb1 ?_
      refine q_val F rfl rfl (by decide) (r_move F rfl) fun a F => ?_
      refine q_yes F rfl (by decide) rfl hb1 ?_
      refine q_call F rfl rfl (by decide) (r_call F Try.func14 rfl (by kernel_rfl) rfl) (route_Route_Where.calls (m := m + 3) (by omega) B h3 (by omega) _ rfl) ?_
      rintro e w1 ⟨c1, rfl, E1, B1⟩
      refine ⟨_, rfl, fun a F => ?_⟩
      have B := B1
      have h3 := h3.ev E1 (fun q => q) (fun q => q)
      have hS := hS.ev E1 (fun q => q) (fun q => q)
      have E := E.trans E1 (fun x q => q.elim)
      refine q_yes F rfl (by decide) rfl hb1 ?_
      refine q_val F rfl rfl (by decide) (r_move F rfl) fun a F => ?_
      refine q_yes F rfl (by decide) rfl hb1 ?_
      refine q_val F rfl rfl (by decide) (r_eql F rfl rfl) fun a F => ?_
      refine q_val F rfl rfl (by decide) (r_pick_t F rfl hb1 rfl) fun a F => ?_
      refine nil ?_
      refine hK12 _ _ ?_
      by_cases hb2 : q.s.where_ i = a5
      · refine wp_cond_true ((F.ev rfl).trans (congrArg Value.bool (decide_eq_true hb2))) ?_
        have eL := homeL_succ q.s a5 i
        rw [if_pos ⟨hw, hb2⟩] at eL
        refine reg ?_
        refine q_val F rfl rfl (by decide) (r_move F rfl) fun a F => ?_
        refine q_val F rfl rfl (by decide) (r_move F rfl) fun a F => ?_
        refine q_eff F rfl rfl (by decide) (e_buildSlice (n := 1) (e := 3) (c := c1) (k := Kint .i64) (i := 0) F [(0, .int .i64 i)] [.int .i64 i] ([(i : Int)] : List Int) (by exact ⟨rfl, rfl, trivial⟩) (fun w => by kernel_rfl) rfl (by decide) rfl ⟨rfl, trivial⟩ (fun q => q) (m + 2)) ?_
        rintro v w2 a ⟨c2, A2, C2, rfl, E2, h2, B2⟩ F
        have B := B2 _ B (by omega)
        have h3 := h3.ev E2 (fun q => q.elim) (fun q => q.elim)
        have hS := hS.ev E2 (fun q => q.elim) (fun q => q.elim)
        have E := E.trans E2 (fun x q => q.elim)
        have hl1 := homeL_len q.s a5 i
        refine q_eff F rfl rfl (by decide) (e_append (k := Kint .i64) (xs := homeL q.s a5 i) (ys := [(i : Int)]) (c := c2) (j := m) (i := 0) F etl rfl rfl hS h2 (by simp only [List.length_cons, List.length_nil]; omega) (by unfold maxLen; simp only [List.length_cons, List.length_nil]; omega) (by omega)) ?_
        rintro v w4 a ⟨c4, A4, C4, rfl, E4, h4, B4⟩ F
        have B := B4 _ B (by omega)
        have h3 := h3.ev E4 (by show ¬ (j4 = m); omega) (by show ¬ (0 = m); omega)
        have E := E.trans E4 (fun x q => by replace q : x = m := q; show False ∨ m ≤ x; omega)
        refine q_val F rfl rfl (by decide) (r_assign F rfl) fun a F => ?_
        refine nil ?_
        rw [← eL] at h4
        exact J3 A4 C4 c4 w4 a (F.sub ⟨rfl, rfl, by rw [eL]; rfl, rfl, rfl, trivial⟩) E B h3 h4
      · refine wp_cond_false ((F.ev rfl).trans (congrArg Value.bool (decide_eq_false hb2))) ?_
        refine wp_skip ?_
        have eL := homeL_succ q.s a5 i
        rw [if_neg (fun h => hb2 h.2)] at eL
        exact J3 A C c1 w1 a (F.sub ⟨rfl, rfl, by rw [eL]; rfl, rfl, rfl, trivial⟩) E B h3 (by rw [eL]; exact hS)
    | some u =>
      rw [hw] at F
      have hb1 : (!(Option.map (Value.int .i64) (some u : Option Int)).isSome) = !true := rfl
      refine q_no F rfl (by decide) rfl hb1 (by decide) fun a F => ?_
      refine q_no F rfl (by decide) rfl hb1 (by decide) fun a F => ?_
      refine q_no F rfl (by decide) rfl hb1 (by decide) fun a F => ?_
      refine q_no F rfl (by decide) rfl hb1 (by decide) fun a F => ?_
      refine q_no F rfl (by decide) rfl hb1 (by decide) fun a F => ?_
      refine q_val F rfl rfl (by decide) (r_pick_f F rfl rfl rfl) fun a F => ?_
      refine nil ?_
      refine hK12 _ _ ?_
      refine wp_cond_false (F.ev rfl) ?_
      refine wp_skip ?_
      have eL := homeL_succ q.s a5 i
      rw [if_neg (fun h => by rw [hw] at h; cases h.1)] at eL
      exact J3 A C c w a (F.sub ⟨rfl, rfl, by rw [eL]; rfl, rfl, rfl, trivial⟩) E B h3 (by rw [eL]; exact hS)
  · refine wp_cond_false ((F.ev rfl).trans (congrArg Value.bool (decide_eq_false hb))) ?_
    refine wp_exit ?_
    repeat (first | refine thenE ?_ | refine inbE ?_)
    have ei : i = q.s.shards.toNat := by omega
    subst ei
    exact J1 A C c w a (F.sub ⟨rfl, rfl, rfl, trivial⟩) E B h3 hS
set_option maxRecDepth 100000 in
set_option maxHeartbeats 2000000 in
theorem route_Route_Counts.calls {m : Nat} {c0 : Nat → Nat} {w0 : World} {j4 : Nat} {p2 : Option Addr} {a1 : Option Rou} (hm0 : 0 < m) (B0 : CB m c0 w0) (h3 : RU j4 c0 w0 p2 a1) (bj4 : j4 < m) (r : Int × Int × Int) (H : route_Route_Counts.f a1 = some r) :
    Calls Try.prog 22 #[.pointer p2] w0 (fun e w_ => ∃ (c_ : Nat → Nat), e = .returned (.tuple #[.int .i64 r.1, .int .i64 r.2.1, .int .i64 r.2.2]) ∧ Ev (fun x => False) c0 w0 c_ w_ ∧ CB m c_ w_) := by
  rcases a1 with _ | q
  · have h3 : p2 = none := h3
    subst h3
    have H := Option.some.inj H
    subst H
    refine enter (N := 19) (l := [.pointer none]) Try.func22 rfl rfl (Nat.le_of_ble_eq_true rfl) fun a F => ?_
    refine wp_seq_k fun K1 hK1 => ?_
    refine reg ?_
    refine q_val F rfl rfl (by decide) (r_assign F rfl) fun a F => ?_
    refine q_val F rfl rfl (by decide) (r_assign F rfl) fun a F => ?_
    refine q_val F rfl rfl (by decide) (r_assign F rfl) fun a F => ?_
    refine nil ?_
    refine hK1 _ _ ?_
    refine wp_seq_k fun K2 hK2 => ?_
    refine wp_seq_k fun K3 hK3 => ?_
    refine reg ?_
    refine q_val F rfl rfl (by decide) (r_move F rfl) fun a F => ?_
    refine q_val F rfl rfl (by decide) (r_peql F Try.underlying24 rfl rfl) fun a F => ?_
    refine nil ?_
    refine hK3 _ _ ?_
    refine wp_cond_true (F.ev rfl) ?_
    refine wp_seq_k fun K4 hK4 => ?_
    refine reg ?_
    refine q_val F rfl rfl (by decide) (r_assign F rfl) fun a F => ?_
    refine q_val F rfl rfl (by decide) (r_assign F rfl) fun a F => ?_
    refine q_val F rfl rfl (by decide) (r_assign F rfl) fun a F => ?_
    refine nil ?_
    refine hK4 _ _ ?_
    refine wp_ret ?_
    repeat (first | refine thenR ?_ | refine inbR ?_)
    refine out3 F rfl rfl rfl rfl ?_
    exact ⟨c0, rfl, Ev.refl, B0⟩
  dsimp only [route_Route_Counts.f] at H
  have hr := Option.some.inj H
  subst hr
  clear H
  obtain ⟨b, m1, m2, T, rfl, R, hkeys⟩ := h3
  have hat := rep_at R R.fb
  refine enter (N := 19) (l := [.pointer (some ⟨b, 0, none⟩)]) Try.func22 rfl rfl (Nat.le_of_ble_eq_true rfl) fun a F => ?_
  refine wp_seq_k fun K1 hK1 => ?_
  refine reg ?_
  refine q_val F rfl rfl (by decide) (r_assign F rfl) fun a F => ?_
  refine q_val F rfl rfl (by decide) (r_assign F rfl) fun a F => ?_
  refine q_val F rfl rfl (by decide) (r_assign F rfl) fun a F => ?_
  refine nil ?_
  refine hK1 _ _ ?_
  refine wp_seq_k fun K2 hK2 => ?_
  refine wp_seq_k fun K3 hK3 => ?_
  refine reg ?_
  refine q_val F rfl rfl (by decide) (r_move F rfl) fun a F => ?_
  refine q_val F rfl rfl (by decide) (r_peql F Try.underlying24 rfl rfl) fun a F => ?_
  refine nil ?_
  refine hK3 _ _ ?_
  refine wp_cond_false (F.ev rfl) ?_
  refine wp_skip ?_
  refine hK2 _ _ ?_
  refine wp_seq_k fun K4 hK4 => ?_
  refine regD (SB No c0 w0) 15 (.q 0 (.q 1 (.q 2 (.q 3 (.q 4 (.q 5 (.q 6 (.q 7 (.q 8 (.q 9 (.q 10 (.q 11 (.q 12 (.q 13 (.q 14 .nil))))))))))))))) Try_hm (by decide +kernel) ?_
  intro w1 w1_ w2_ w3_ w4_
  have ER : Ev No c0 w0 c0 w1 := Ev.same w1_ w2_ w3_ w4_
  have B := B0.same w1_
  refine d_q F rfl rfl rfl (by decide) (fun wq hS => r_move F rfl) ER.sb fun a F => ?_
  refine d_q F rfl rfl rfl (by decide) (fun wq hS => r_nil F rfl) ER.sb fun a F => ?_
  refine d_q F rfl rfl rfl (by decide) (fun wq hS => r_fieldAddr F rfl ff4) ER.sb fun a F => ?_
  refine d_q F rfl rfl rfl (by decide) (fun wq hS => r_load F rfl agi (AT.cell (AT.sb hat hS (fun q => q.elim)) (n := 4) rfl)) ER.sb fun a F => ?_
  refine d_q F rfl rfl rfl (by decide) (fun wq hS => r_move F rfl) ER.sb fun a F => ?_
  refine d_q F rfl rfl rfl (by decide) (fun wq hS => r_nil F rfl) ER.sb fun a F => ?_
  refine d_q F rfl rfl rfl (by decide) (fun wq hS => r_fieldAddr F rfl ff5) ER.sb fun a F => ?_
  refine d_q F rfl rfl rfl (by decide) (fun wq hS => r_load F rfl agi (AT.cell (AT.sb hat hS (fun q => q.elim)) (n := 5) rfl)) ER.sb fun a F => ?_
  refine d_q F rfl rfl rfl (by decide) (fun wq hS => r_move F rfl) ER.sb fun a F => ?_
  refine d_q F rfl rfl rfl (by decide) (fun wq hS => r_nil F rfl) ER.sb fun a F => ?_
  refine d_q F rfl rfl rfl (by decide) (fun wq hS => r_fieldAddr F rfl ff6) ER.sb fun a F => ?_
  refine d_q F rfl rfl rfl (by decide) (fun wq hS => r_load F rfl agi (AT.cell (AT.sb hat hS (fun q => q.elim)) (n := 6) rfl)) ER.sb fun a F => ?_
  refine d_q F rfl rfl rfl (by decide) (fun wq hS => r_assign F rfl) ER.sb fun a F => ?_
  refine d_q F rfl rfl rfl (by decide) (fun wq hS => r_assign F rfl) ER.sb fun a F => ?_
  refine d_q F rfl rfl rfl (by decide) (fun wq hS => r_assign F rfl) ER.sb fun a F => ?_
  refine d_nil ?_
  refine hK4 _ _ ?_
  refine wp_ret ?_
  refine out3 F rfl rfl rfl rfl ?_
  exact ⟨c0, rfl, ER.mono (fun _ q => q.elim), B⟩
end Go.Proofs.Ytohljkjaggcapaa.G
namespace Go.Proofs.Ytohljkjaggcapaa.G
open Go Go.RowKit
set_option linter.unusedVariables false
set_option linter.unusedSimpArgs false
set_option maxRecDepth 100000 in
set_option maxHeartbeats 4000000 in
theorem haulagelaw23_num.calls {m : Nat} {c0 : Nat → Nat} {w0 : World} {a1 : Int} (hm0 : 0 < m) (B0 : CB m c0 w0) (r : Int) (H : haulagelaw23_num.f a1 = some r) : Calls Try.prog 11 #[.int .i64 a1] w0 (fun e w_ => ∃ (c_ : Nat → Nat), e = .returned (.int .i64 r) ∧ Ev (fun x => False) c0 w0 c_ w_ ∧ CB m c_ w_) := by
  unfold haulagelaw23_num.f at H
  have B := B0.mono (show m ≤ m + 1 by omega)
  have E : Ev (fun x => False ∨ m ≤ x) c0 w0 c0 w0 := Ev.refl
  refine enter (N := 4) (l := [.int .i64 a1]) Try.func11 rfl rfl (Nat.le_of_ble_eq_true rfl) fun a F => ?_
  refine wp_seq_k fun K2 hK2 => ?_
  refine reg ?_
  refine q_val F rfl rfl (by decide) (r_assign F rfl) fun a F => ?_
  refine nil ?_
  refine hK2 _ _ ?_
  refine wp_seq_k fun K3 hK3 => ?_
  refine reg ?_
  refine q_val F rfl rfl (by decide) (r_move F rfl) fun a F => ?_
  refine q_val F rfl rfl (by decide) (r_assign F rfl) fun a F => ?_
  refine nil ?_
  refine hK3 _ _ ?_
  refine wp_ret ?_
  have H := Option.some.inj H
  subst H
  refine out1 F rfl rfl ?_
  exact ⟨fun b_ => (fun x_ => if x_ < m then x_ else 0) (c0 b_), rfl, E.leave B0 (fun x_ => if x_ < m then x_ else 0) (by intro x_ hx_; show (if x_ < m then x_ else 0) = x_; ((repeat' split) <;> omega)), (fun b_ hb_ => by show (if (c0 b_) < m then (c0 b_) else 0) < m; ((repeat' split) <;> omega))⟩
end Go.Proofs.Ytohljkjaggcapaa.G
namespace Go.Proofs.Ytohljkjaggcapaa.G
open Go Go.RowKit
set_option linter.unusedVariables false
set_option linter.unusedSimpArgs false
set_option maxRecDepth 100000 in
set_option maxHeartbeats 4000000 in
theorem haulagelaw23_ints.calls (k : Nat) {m : Nat} {c0 : Nat → Nat} {w0 : World} {A2 : Option Addr} {C3 : Nat} {A6 : Option Addr} {C7 : Nat} {a1 : List Int} {a5 : List Int} (hm0 : 0 < m) (B0 : CB m c0 w0) (h4 : SL false (Kint .i64) 0 0 c0 w0 A2 C3 a1) (h8 : SL false (Kint .i64) 0 0 c0 w0 A6 C7 a5) (r : Bool) (H : haulagelaw23_ints.f k a1 a5 = some r) : Calls Try.prog 15 #[.slice A2 a1.length C3, .slice A6 a5.length C7] w0 (fun e w_ => ∃ (c_ : Nat → Nat), e = .returned (.bool r) ∧ Ev (fun x => False) c0 w0 c_ w_ ∧ CB m c_ w_) := by
  unfold haulagelaw23_ints.f at H
  have B := B0.mono (show m ≤ m + 1 by omega)
  have E : Ev (fun x => False ∨ m ≤ x) c0 w0 c0 w0 := Ev.refl
  refine enter (N := 26) (l := [.slice A2 a1.length C3, .slice A6 a5.length C7]) Try.func15 rfl rfl (Nat.le_of_ble_eq_true rfl) fun a F => ?_
  refine wp_seq_k fun K9 hK9 => ?_
  refine reg ?_
  refine q_val F rfl rfl (by decide) (r_assign F rfl) fun a F => ?_
  refine nil ?_
  refine hK9 _ _ ?_
  refine wp_seq_k fun K10 hK10 => ?_
  refine wp_seq_k fun K11 hK11 => ?_
  refine reg ?_
  refine q_val F rfl rfl (by decide) (r_move F rfl) fun a F => ?_
  refine q_val F rfl rfl (by decide) (r_lensl F Try.underlying22 rfl) fun a F => ?_
  refine q_val F rfl rfl (by decide) (r_move F rfl) fun a F => ?_
  refine q_val F rfl rfl (by decide) (r_lensl F Try.underlying22 rfl) fun a F => ?_
  refine q_val F rfl rfl (by decide) (r_neq F rfl rfl) fun a F => ?_
  refine nil ?_
  refine hK11 _ _ ?_
  by_cases hb12 : (a1.length : Int) = (a5.length : Int)
  · have H := (if_pos hb12).symm.trans H
    refine wp_cond_false ((F.ev rfl).trans (congrArg Value.bool (congrArg not (decide_eq_true hb12)))) ?_
    refine wp_skip ?_
    refine hK10 _ _ ?_
    refine wp_seq_k fun K14 hK14 => ?_
    refine wp_seq_k fun K15 hK15 => ?_
    refine reg ?_
    refine q_val F rfl rfl (by decide) (r_assign F rfl) fun a F => ?_
    refine nil ?_
    refine hK15 _ _ ?_
    refine wp_block ?_
    obtain ⟨x26, HL, HR25⟩ := bind_some H
    have J53 : ∀ (c54 : Nat → Nat) (w55 : World) (a : Act), Fr a 26 [] → Ev (fun x => False ∨ m ≤ x) c0 w0 c54 w55 → CB (m + 1) c54 w55 → haulagelaw23_ints.j2 = some r → K14 a w55 := by
      intro c54 w55 a  F E B  H
      unfold haulagelaw23_ints.j2 at H
      refine hK14 _ _ ?_
      refine wp_seq_k fun K56 hK56 => ?_
      refine reg ?_
      refine q_val F rfl rfl (by decide) (r_assign F rfl) fun a F => ?_
      refine nil ?_
      refine hK56 _ _ ?_
      refine wp_ret ?_
      have H := Option.some.inj H
      subst H
      refine out1 F rfl rfl ?_
      exact ⟨fun b_ => (fun x_ => if x_ < m then x_ else 0) (c54 b_), rfl, E.leave B0 (fun x_ => if x_ < m then x_ else 0) (by intro x_ hx_; show (if x_ < m then x_ else 0) = x_; ((repeat' split) <;> omega)), (fun b_ hb_ => by show (if (c54 b_) < m then (c54 b_) else 0) < m; ((repeat' split) <;> omega))⟩
    refine loop_fuel (I := fun n a w => ∃ (i16 : Int) (c : Nat → Nat), Fr a 26 [(0, .slice A2 a1.length C3), (1, .slice A6 a5.length C7), (5, .int .i64 i16)] ∧ Ev (fun x => False ∨ m ≤ x) c0 w0 c w ∧ CB (m + 1) c w ∧ SL false (Kint .i64) 0 0 c w A2 C3 a1 ∧ SL false (Kint .i64) 0 0 c w A6 C7 a5 ∧ loop (fun (s_ : Int) => haulagelaw23_ints.b1 a1 a5 s_) n i16 = some x26) (k := k) ⟨0, c0, F.sub ⟨rfl, rfl, rfl, trivial⟩, E, B, h4, h8, HL⟩ ?_
    clear HL H E F B
    intro n23 X19 hX19 a w18 ⟨i16, c17, F, E, B, h4, h8, HL⟩
    obtain ⟨n24, ctl22, rfl, HB, HN20, HD21⟩ := loop_some HL
    have H : haulagelaw23_ints.b1 a1 a5 i16 = some ctl22 := HB
    clear HB HL
    unfold haulagelaw23_ints.b1 at H
    refine wp_seq_k fun K27 hK27 => ?_
    refine wp_seq_k fun K28 hK28 => ?_
    refine reg ?_
    refine q_val F rfl rfl (by decide) (r_move F rfl) fun a F => ?_
    refine q_val F rfl rfl (by decide) (r_move F rfl) fun a F => ?_
    refine q_val F rfl rfl (by decide) (r_lensl F Try.underlying22 rfl) fun a F => ?_
    refine q_val F rfl rfl (by decide) (r_lss F rfl rfl) fun a F => ?_
    refine nil ?_
    refine hK28 _ _ ?_
    by_cases hb29 : i16 < (a1.length : Int)
    · have H := (if_pos hb29).symm.trans H
      refine wp_cond_true ((F.ev rfl).trans (congrArg Value.bool (decide_eq_true hb29))) ?_
      refine wp_skip ?_
      refine hK27 _ _ ?_
      refine wp_seq_k fun K30 hK30 => ?_
      refine wp_block ?_
      refine wp_seq_k fun K31 hK31 => ?_
      refine regD (SB No c17 w18) 9 (.q 0 (.q 1 (.q 2 (.q 3 (.q 4 (.q 5 (.q 6 (.q 7 (.q 8 .nil))))))))) Try_hm (by decide +kernel) ?_
      intro w32 w1_ w2_ w3_ w4_
      have E33 : Ev No c17 w18 c17 w32 := Ev.same w1_ w2_ w3_ w4_
      have B := B.same w1_
      have zh4 := h4
      have zh8 := h8
      have ER : Ev No c17 w18 c17 w32 := Ev.same w1_ w2_ w3_ w4_
      have h4 := SL.ev h4 E33 (fun q => q.elim) (fun q => q.elim)
      have h8 := SL.ev h8 E33 (fun q => q.elim) (fun q => q.elim)
      have E := E.trans E33 (fun x q => q.elim)
      refine d_q F rfl rfl rfl (by decide) (fun wq hS => r_move F rfl) ER.sb fun a F => ?_
      refine d_q F rfl rfl rfl (by decide) (fun wq hS => r_move F rfl) ER.sb fun a F => ?_
      obtain ⟨g34, H⟩ := ifN H
      obtain ⟨ad35, cs36, e37, h38, r39⟩ := SL.at zh4 i16 g34.1 g34.2
      obtain rfl : cs36 = [.int .i64 (rd a1 i16)] := r39
      obtain ⟨qa40, qqa40⟩ : ∃ q, q = (ad35.add (i16.toNat * 1)) := ⟨_, rfl⟩
      have h38 : AT false 0 c17 w18 qa40 [.int .i64 (rd a1 i16)] := by rw [qqa40]; exact h38
      have zh38 := h38
      have h38 := AT.ev h38 ER (fun q => q.elim)
      refine d_q F rfl rfl rfl (by decide) (fun wq hS => r_indexAddr' F Try.underlying22 sz_3 rfl rfl g34.1 g34.2 e37 qqa40) ER.sb fun a F => ?_
      refine d_q F rfl rfl rfl (by decide) (fun wq hS => r_load F rfl ag_3 (AT.cell0 (AT.sb zh38 hS (fun q => q.elim)) rfl)) ER.sb fun a F => ?_
      refine d_q F rfl rfl rfl (by decide) (fun wq hS => r_move F rfl) ER.sb fun a F => ?_
      refine d_q F rfl rfl rfl (by decide) (fun wq hS => r_move F rfl) ER.sb fun a F => ?_
      obtain ⟨g42, H⟩ := ifN H
      obtain ⟨ad43, cs44, e45, h46, r47⟩ := SL.at zh8 i16 g42.1 g42.2
      obtain rfl : cs44 = [.int .i64 (rd a5 i16)] := r47
      obtain ⟨qa48, qqa48⟩ : ∃ q, q = (ad43.add (i16.toNat * 1)) := ⟨_, rfl⟩
      have h46 : AT false 0 c17 w18 qa48 [.int .i64 (rd a5 i16)] := by rw [qqa48]; exact h46
      have zh46 := h46
      have h46 := AT.ev h46 ER (fun q => q.elim)
      refine d_q F rfl rfl rfl (by decide) (fun wq hS => r_indexAddr' F Try.underlying22 sz_3 rfl rfl g42.1 g42.2 e45 qqa48) ER.sb fun a F => ?_
      refine d_q F rfl rfl rfl (by decide) (fun wq hS => r_load F rfl ag_3 (AT.cell0 (AT.sb zh46 hS (fun q => q.elim)) rfl)) ER.sb fun a F => ?_
      refine d_q F rfl rfl rfl (by decide) (fun wq hS => r_neq F rfl rfl) ER.sb fun a F => ?_
      refine d_nil ?_
      refine hK31 _ _ ?_
      by_cases hb50 : (rd a1 i16) = (rd a5 i16)
      · have H := (if_pos hb50).symm.trans H
        refine wp_cond_false ((F.ev rfl).trans (congrArg Value.bool (congrArg not (decide_eq_true hb50)))) ?_
        refine wp_skip ?_
        refine hK30 _ _ ?_
        refine reg ?_
        refine q_val F rfl rfl (by decide) (r_move F rfl) fun a F => ?_
        refine q_val F rfl rfl (by decide) (r_add F rfl rfl) fun a F => ?_
        refine q_val F rfl rfl (by decide) (r_assign F rfl) fun a F => ?_
        refine nil ?_
        have H := HN20 _ (Option.some.inj H).symm
        exact hX19 _ _ _ (Nat.lt_succ_self _) ⟨(IntKind.i64.wrap (i16 + 1)), c17, F.sub ⟨rfl, rfl, rfl, trivial⟩, E, B, h4, h8, H⟩
      · have H := (if_neg hb50).symm.trans H
        refine wp_cond_true ((F.ev rfl).trans (congrArg Value.bool (congrArg not (decide_eq_false hb50)))) ?_
        refine wp_seq_k fun K51 hK51 => ?_
        refine reg ?_
        refine q_val F rfl rfl (by decide) (r_assign F rfl) fun a F => ?_
        refine nil ?_
        refine hK51 _ _ ?_
        refine wp_ret ?_
        refine inbR ?_
        refine thenR ?_
        refine thenR ?_
        refine inbR ?_
        refine thenR ?_
        have hx_ := HD21 _ (Option.some.inj H).symm
        have H := HR25
        rw [← hx_] at H
        replace H : some false = some r := H
        have H := Option.some.inj H
        subst H
        refine out1 F rfl rfl ?_
        exact ⟨fun b_ => (fun x_ => if x_ < m then x_ else 0) (c17 b_), rfl, E.leave B0 (fun x_ => if x_ < m then x_ else 0) (by intro x_ hx_; show (if x_ < m then x_ else 0) = x_; ((repeat' split) <;> omega)), (fun b_ hb_ => by show (if (c17 b_) < m then (c17 b_) else 0) < m; ((repeat' split) <;> omega))⟩
    · have H := (if_neg hb29).symm.trans H
      refine wp_cond_false ((F.ev rfl).trans (congrArg Value.bool (decide_eq_false hb29))) ?_
      refine wp_exit ?_
      refine thenE ?_
      refine thenE ?_
      refine inbE ?_
      have hx_ := HD21 _ (Option.some.inj H).symm
      have H := HR25
      rw [← hx_] at H
      exact J53 c17 w18 a  (F.sub trivial) E B  H
  · have H := (if_neg hb12).symm.trans H
    refine wp_cond_true ((F.ev rfl).trans (congrArg Value.bool (congrArg not (decide_eq_false hb12)))) ?_
    refine wp_seq_k fun K13 hK13 => ?_
    refine reg ?_
    refine q_val F rfl rfl (by decide) (r_assign F rfl) fun a F => ?_
    refine nil ?_
    refine hK13 _ _ ?_
    refine wp_ret ?_
    refine thenR ?_
    have H := Option.some.inj H
    subst H
    refine out1 F rfl rfl ?_
    exact ⟨fun b_ => (fun x_ => if x_ < m then x_ else 0) (c0 b_), rfl, E.leave B0 (fun x_ => if x_ < m then x_ else 0) (by intro x_ hx_; show (if x_ < m then x_ else 0) = x_; ((repeat' split) <;> omega)), (fun b_ hb_ => by show (if (c0 b_) < m then (c0 b_) else 0) < m; ((repeat' split) <;> omega))⟩
end Go.Proofs.Ytohljkjaggcapaa.G
namespace Go.Proofs.Ytohljkjaggcapaa.G
open Go Go.RowKit
set_option linter.unusedVariables false
set_option linter.unusedSimpArgs false
set_option maxRecDepth 100000 in
set_option maxHeartbeats 4000000 in
theorem haulagelaw23_known.calls (k : Nat) {m : Nat} {c0 : Nat → Nat} {w0 : World} (hm0 : 0 < m) (B0 : CB m c0 w0) (r : Bool) (H : haulagelaw23_known.f k = some r) : Calls Try.prog 9 #[] w0 (fun e w_ => ∃ (c_ : Nat → Nat), e = .returned (.bool r) ∧ Ev (fun x => False) c0 w0 c_ w_ ∧ CB m c_ w_) := by
  unfold haulagelaw23_known.f at H
  have B := B0.mono (show m ≤ m + 2 by omega)
  have E : Ev (fun x => False ∨ m ≤ x) c0 w0 c0 w0 := Ev.refl
  refine enter (N := 42) (l := []) Try.func9 rfl rfl (Nat.le_of_ble_eq_true rfl) fun a F => ?_
  refine wp_seq_k fun K1 hK1 => ?_
  refine reg ?_
  refine q_val F rfl rfl (by decide) (r_assign F rfl) fun a F => ?_
  refine nil ?_
  refine hK1 _ _ ?_
  refine wp_seq_k fun K2 hK2 => ?_
  refine reg ?_
  obtain ⟨t3, q4, H⟩ := bind_some H
  refine q_call F rfl rfl (by decide) (r_call F Try.func10 rfl (by kernel_rfl) rfl) (route_New.calls (m := m + 2) (by omega) B (m + 1) (by omega) _ q4) ?_
  rintro e w6 ⟨c5, p9, rfl, E7, B8, h10⟩
  refine ⟨_, rfl, fun a F => ?_⟩
  have B := B8
  have E := E.trans E7 (fun x q => q.elim)
  refine q_val F rfl rfl (by decide) (r_move F rfl) fun a F => ?_
  refine q_val F rfl rfl (by decide) (r_extract F rfl rfl) fun a F => ?_
  refine q_val F rfl rfl (by decide) (r_extract F rfl rfl) fun a F => ?_
  refine q_val F rfl rfl (by decide) (r_assign F rfl) fun a F => ?_
  refine q_val F rfl rfl (by decide) (r_assign F rfl) fun a F => ?_
  refine nil ?_
  refine hK2 _ _ ?_
  refine wp_seq_k fun K12 hK12 => ?_
  refine wp_seq_k fun K13 hK13 => ?_
  have J23 : ∀ (c24 : Nat → Nat) (w25 : World) (a : Act) (b22 : Bool), Fr a 42 [(1, .pointer p9), (16, .bool b22)] → Ev (fun x => False ∨ m ≤ x) c0 w0 c24 w25 → CB (m + 2) c24 w25 → RU (m + 1) c24 w25 p9 t3.1 → haulagelaw23_known.j1 k t3 b22 = some r → K13 a w25 := by
    intro c24 w25 a b22 F E B h10 H
    unfold haulagelaw23_known.j1 at H
    refine hK13 _ _ ?_
    by_cases hb26 : b22 = true
    · have H := (if_pos hb26).symm.trans H
      refine wp_cond_true ((F.ev rfl).trans (congrArg Value.bool hb26)) ?_
      refine wp_seq_k fun K27 hK27 => ?_
      refine reg ?_
      refine q_val F rfl rfl (by decide) (r_assign F rfl) fun a F => ?_
      refine nil ?_
      refine hK27 _ _ ?_
      refine wp_ret ?_
      refine thenR ?_
      have H := Option.some.inj H
      subst H
      refine out1 F rfl rfl ?_
      exact ⟨fun b_ => (fun x_ => if x_ < m then x_ else 0) (c24 b_), rfl, E.leave B0 (fun x_ => if x_ < m then x_ else 0) (by intro x_ hx_; show (if x_ < m then x_ else 0) = x_; ((repeat' split) <;> omega)), (fun b_ hb_ => by show (if (c24 b_) < m then (c24 b_) else 0) < m; ((repeat' split) <;> omega))⟩
    · have H := (if_neg hb26).symm.trans H
      refine wp_cond_false ((F.ev rfl).trans (congrArg Value.bool (bfalse hb26))) ?_
      refine wp_skip ?_
      refine hK12 _ _ ?_
      refine wp_seq_k fun K28 hK28 => ?_
      refine reg ?_
      refine q_val F rfl rfl (by decide) (r_move F rfl) fun a F => ?_
      obtain ⟨t29, q30, H⟩ := bind_some H
      refine q_call F rfl rfl (by decide) (r_call F Try.func12 rfl (by kernel_rfl) rfl) (route_Route_Fine.calls (m := m + 2) (by omega) B h10 (by omega) _ q30) ?_
      rintro e w32 ⟨c31, rfl, E33, B34, h35⟩
      refine ⟨_, rfl, fun a F => ?_⟩
      have B := B34
      have E := E.trans E33 (fun x q => by replace q : x = m + 1 := q; show False ∨ m ≤ x; omega)
      refine q_val F rfl rfl (by decide) (r_assign F rfl) fun a F => ?_
      refine nil ?_
      refine hK28 _ _ ?_
      refine wp_seq_k fun K37 hK37 => ?_
      refine reg ?_
      refine q_val F rfl rfl (by decide) (r_move F rfl) fun a F => ?_
      obtain ⟨t38, q39, H⟩ := bind_some H
      refine q_call F rfl rfl (by decide) (r_call F Try.func13 rfl (by kernel_rfl) rfl) (route_Route_Hint.calls (m := m + 2) (by omega) B h35 (by omega) _ q39) ?_
      rintro e w41 ⟨c40, rfl, E42, B43, h44⟩
      refine ⟨_, rfl, fun a F => ?_⟩
      have B := B43
      have E := E.trans E42 (fun x q => by replace q : x = m + 1 := q; show False ∨ m ≤ x; omega)
      refine q_val F rfl rfl (by decide) (r_assign F rfl) fun a F => ?_
      refine nil ?_
      refine hK37 _ _ ?_
      refine wp_seq_k fun K46 hK46 => ?_
      refine reg ?_
      refine q_val F rfl rfl (by decide) (r_move F rfl) fun a F => ?_
      obtain ⟨t47, q48, H⟩ := bind_some H
      refine q_call F rfl rfl (by decide) (r_call F Try.func13 rfl (by kernel_rfl) rfl) (route_Route_Hint.calls (m := m + 2) (by omega) B h44 (by omega) _ q48) ?_
      rintro e w50 ⟨c49, rfl, E51, B52, h53⟩
      refine ⟨_, rfl, fun a F => ?_⟩
      have B := B52
      have E := E.trans E51 (fun x q => by replace q : x = m + 1 := q; show False ∨ m ≤ x; omega)
      refine q_val F rfl rfl (by decide) (r_assign F rfl) fun a F => ?_
      refine nil ?_
      refine hK46 _ _ ?_
      refine wp_seq_k fun K55 hK55 => ?_
      refine reg ?_
      refine q_val F rfl rfl (by decide) (r_move F rfl) fun a F => ?_
      refine q_val F rfl rfl (by decide) (r_move F rfl) fun a F => ?_
      by_cases hb56 : t29.1 = true
      · have H := (if_pos hb56).symm.trans H
        refine q_yes F rfl (by decide) rfl hb56 ?_
        refine q_val F rfl rfl (by decide) (r_move F rfl) fun a F => ?_
        refine q_yes F rfl (by decide) rfl hb56 ?_
        refine q_val F rfl rfl (by decide) (r_not F rfl) fun a F => ?_
        refine q_val F rfl rfl (by decide) (r_pick_t F rfl hb56 rfl) fun a F => ?_
        refine q_val F rfl rfl (by decide) (r_move F rfl) fun a F => ?_
        by_cases hb57 : t38.1 = true
        · have H := (if_pos hb57).symm.trans H
          refine q_no F rfl (by decide) rfl (congrArg not hb57) (by decide) fun a F => ?_
          refine q_val F rfl rfl (by decide) (r_pick_f F rfl (congrArg not hb57) rfl) fun a F => ?_
          refine q_val F rfl rfl (by decide) (r_move F rfl) fun a F => ?_
          refine q_no F rfl (by decide) rfl rfl (by decide) fun a F => ?_
          refine q_no F rfl (by decide) rfl rfl (by decide) fun a F => ?_
          refine q_no F rfl (by decide) rfl rfl (by decide) fun a F => ?_
          refine q_val F rfl rfl (by decide) (r_pick_f F rfl rfl rfl) fun a F => ?_
          refine q_val F rfl rfl (by decide) (r_move F rfl) fun a F => ?_
          refine q_no F rfl (by decide) rfl rfl (by decide) fun a F => ?_
          refine q_no F rfl (by decide) rfl rfl (by decide) fun a F => ?_
          refine q_no F rfl (by decide) rfl rfl (by decide) fun a F => ?_
          refine q_no F rfl (by decide) rfl rfl (by decide) fun a F => ?_
          refine q_val F rfl rfl (by decide) (r_pick_f F rfl rfl rfl) fun a F => ?_
          refine q_val F rfl rfl (by decide) (r_assign F rfl) fun a F => ?_
          refine nil ?_
          refine hK55 _ _ ?_
          refine wp_ret ?_
          have H := Option.some.inj H
          subst H
          refine out1 F rfl rfl ?_
          exact ⟨fun b_ => (fun x_ => if x_ < m then x_ else 0) (c49 b_), rfl, E.leave B0 (fun x_ => if x_ < m then x_ else 0) (by intro x_ hx_; show (if x_ < m then x_ else 0) = x_; ((repeat' split) <;> omega)), (fun b_ hb_ => by show (if (c49 b_) < m then (c49 b_) else 0) < m; ((repeat' split) <;> omega))⟩
        · have H := (if_neg hb57).symm.trans H
          refine q_yes F rfl (by decide) rfl (congrArg not (bfalse hb57)) ?_
          refine q_val F rfl rfl (by decide) (r_move F rfl) fun a F => ?_
          refine q_val F rfl rfl (by decide) (r_pick_t F rfl (congrArg not (bfalse hb57)) rfl) fun a F => ?_
          refine q_val F rfl rfl (by decide) (r_move F rfl) fun a F => ?_
          by_cases hb58 : t47.1 = true
          · have H := (if_pos hb58).symm.trans H
            refine q_yes F rfl (by decide) rfl hb58 ?_
            refine q_val F rfl rfl (by decide) (r_move F rfl) fun a F => ?_
            obtain ⟨t59, q60, H⟩ := bind_some H
            refine q_yes F rfl (by decide) rfl hb58 ?_
            refine q_call F rfl rfl (by decide) (r_call F Try.func14 rfl (by kernel_rfl) rfl) (route_Route_Where.calls (m := m + 2) (by omega) B h53 (by omega) _ q60) ?_
            rintro e w62 ⟨c61, rfl, E63, B64⟩
            refine ⟨_, rfl, fun a F => ?_⟩
            have B := B64
            have h53 := RU.ev h53 E63 (fun q => q.elim) (fun q => q.elim)
            have E := E.trans E63 (fun x q => q.elim)
            refine q_yes F rfl (by decide) rfl hb58 ?_
            refine q_val F rfl rfl (by decide) (r_eql F rfl rfl) fun a F => ?_
            refine q_val F rfl rfl (by decide) (r_pick_t F rfl hb58 rfl) fun a F => ?_
            refine q_val F rfl rfl (by decide) (r_move F rfl) fun a F => ?_
            by_cases hb66 : t59 = 1
            · have H := (if_pos hb66).symm.trans H
              refine q_yes F rfl (by decide) rfl (decide_eq_true hb66) ?_
              refine q_val F rfl rfl (by decide) (r_move F rfl) fun a F => ?_
              obtain ⟨t67, q68, H⟩ := bind_some H
              refine q_yes F rfl (by decide) rfl (decide_eq_true hb66) ?_
              refine q_call F rfl rfl (by decide) (r_call F Try.func16 rfl (by kernel_rfl) rfl) (route_Route_Trail.calls (m := m + 2) (by omega) B h53 (by omega) 0 (by omega) _ q68) ?_
              rintro e w70 ⟨c69, A73, C74, rfl, E71, B72, h75⟩
              refine ⟨_, rfl, fun a F => ?_⟩
              have B := B72
              have h53 := RU.ev h53 E71 (fun q => q.elim) (fun q => q.elim)
              have E := E.trans E71 (fun x q => q.elim)
              refine q_yes F rfl (by decide) rfl (decide_eq_true hb66) ?_
              refine q_eff F rfl rfl (by decide) (e_buildSlice (n := 1) (e := 3) (c := c69) (k := (Kint .i64)) (i := 0) F [(0, .int .i64 2)] [.int .i64 2] ([2] : List Int) (by exact ⟨rfl, rfl, trivial⟩) (fun w => by kernel_rfl) rfl (by decide) rfl ⟨rfl, trivial⟩ (fun q => q) 0) ?_
              rintro v w78 a ⟨c77, A79, C80, rfl, E81, h82, B83⟩ F
              have B := B83 _ B (by omega)
              have h53 := RU.ev h53 E81 (fun q => q.elim) (fun q => q.elim)
              have h75 := SL.ev h75 E81 (fun q => q.elim) (fun q => q.elim)
              have E := E.trans E81 (fun x q => q.elim)
              obtain ⟨t84, q85, H⟩ := bind_some H
              refine q_yes F rfl (by decide) rfl (decide_eq_true hb66) ?_
              refine q_call F rfl rfl (by decide) (r_call F Try.func15 rfl (by kernel_rfl) rfl) (haulagelaw23_ints.calls k (m := m + 2) (by omega) B h75.r h82.r _ q85) ?_
              rintro e w87 ⟨c86, rfl, E88, B89⟩
              refine ⟨_, rfl, fun a F => ?_⟩
              have B := B89
              have h53 := RU.ev h53 E88 (fun q => q.elim) (fun q => q.elim)
              have h75 := SL.ev h75 E88 (fun q => q.elim) (fun q => q.elim)
              have h82 := SL.ev h82 E88 (fun q => q.elim) (fun q => q.elim)
              have E := E.trans E88 (fun x q => q.elim)
              refine q_val F rfl rfl (by decide) (r_pick_t F rfl (decide_eq_true hb66) rfl) fun a F => ?_
              refine q_val F rfl rfl (by decide) (r_assign F rfl) fun a F => ?_
              refine nil ?_
              refine hK55 _ _ ?_
              refine wp_ret ?_
              have H := Option.some.inj H
              subst H
              refine out1 F rfl rfl ?_
              exact ⟨fun b_ => (fun x_ => if x_ < m then x_ else 0) (c86 b_), rfl, E.leave B0 (fun x_ => if x_ < m then x_ else 0) (by intro x_ hx_; show (if x_ < m then x_ else 0) = x_; ((repeat' split) <;> omega)), (fun b_ hb_ => by show (if (c86 b_) < m then (c86 b_) else 0) < m; ((repeat' split) <;> omega))⟩
            · have H := (if_neg hb66).symm.trans H
              refine q_no F rfl (by decide) rfl (decide_eq_false hb66) (by decide) fun a F => ?_
              refine q_no F rfl (by decide) rfl (decide_eq_false hb66) (by decide) fun a F => ?_
              refine q_no F rfl (by decide) rfl (decide_eq_false hb66) (by decide) fun a F => ?_
              refine q_no F rfl (by decide) rfl (decide_eq_false hb66) (by decide) fun a F => ?_
              refine q_val F rfl rfl (by decide) (r_pick_f F rfl (decide_eq_false hb66) rfl) fun a F => ?_
              refine q_val F rfl rfl (by decide) (r_assign F rfl) fun a F => ?_
              refine nil ?_
              refine hK55 _ _ ?_
              refine wp_ret ?_
              have H := Option.some.inj H
              subst H
              refine out1 F rfl rfl ?_
              exact ⟨fun b_ => (fun x_ => if x_ < m then x_ else 0) (c61 b_), rfl, E.leave B0 (fun x_ => if x_ < m then x_ else 0) (by intro x_ hx_; show (if x_ < m then x_ else 0) = x_; ((repeat' split) <;> omega)), (fun b_ hb_ => by show (if (c61 b_) < m then (c61 b_) else 0) < m; ((repeat' split) <;> omega))⟩
          · have H := (if_neg hb58).symm.trans H
            refine q_no F rfl (by decide) rfl (bfalse hb58) (by decide) fun a F => ?_
            refine q_no F rfl (by decide) rfl (bfalse hb58) (by decide) fun a F => ?_
            refine q_no F rfl (by decide) rfl (bfalse hb58) (by decide) fun a F => ?_
            refine q_val F rfl rfl (by decide) (r_pick_f F rfl (bfalse hb58) rfl) fun a F => ?_
            refine q_val F rfl rfl (by decide) (r_move F rfl) fun a F => ?_
            refine q_no F rfl (by decide) rfl rfl (by decide) fun a F => ?_
            refine q_no F rfl (by decide) rfl rfl (by decide) fun a F => ?_
            refine q_no F rfl (by decide) rfl rfl (by decide) fun a F => ?_
            refine q_no F rfl (by decide) rfl rfl (by decide) fun a F => ?_
            refine q_val F rfl rfl (by decide) (r_pick_f F rfl rfl rfl) fun a F => ?_
            refine q_val F rfl rfl (by decide) (r_assign F rfl) fun a F => ?_
            refine nil ?_
            refine hK55 _ _ ?_
            refine wp_ret ?_
            have H := Option.some.inj H
            subst H
            refine out1 F rfl rfl ?_
            exact ⟨fun b_ => (fun x_ => if x_ < m then x_ else 0) (c49 b_), rfl, E.leave B0 (fun x_ => if x_ < m then x_ else 0) (by intro x_ hx_; show (if x_ < m then x_ else 0) = x_; ((repeat' split) <;> omega)), (fun b_ hb_ => by show (if (c49 b_) < m then (c49 b_) else 0) < m; ((repeat' split) <;> omega))⟩
      · have H := (if_neg hb56).symm.trans H
        refine q_no F rfl (by decide) rfl (bfalse hb56) (by decide) fun a F => ?_
        refine q_no F rfl (by decide) rfl (bfalse hb56) (by decide) fun a F => ?_
        refine q_val F rfl rfl (by decide) (r_pick_f F rfl (bfalse hb56) rfl) fun a F => ?_
        refine q_val F rfl rfl (by decide) (r_move F rfl) fun a F => ?_
        refine q_no F rfl (by decide) rfl rfl (by decide) fun a F => ?_
        refine q_val F rfl rfl (by decide) (r_pick_f F rfl rfl rfl) fun a F => ?_
        refine q_val F rfl rfl (by decide) (r_move F rfl) fun a F => ?_
        refine q_no F rfl (by decide) rfl rfl (by decide) fun a F => ?_
        refine q_no F rfl (by decide) rfl rfl (by decide) fun a F => ?_
        refine q_no F rfl (by decide) rfl rfl (by decide) fun a F => ?_
        refine q_val F rfl rfl (by decide) (r_pick_f F rfl rfl rfl) fun a F => ?_
        refine q_val F rfl rfl (by decide) (r_move F rfl) fun a F => ?_
        refine q_no F rfl (by decide) rfl rfl (by decide) fun a F => ?_
        refine q_no F rfl (by decide) rfl rfl (by decide) fun a F => ?_
        refine q_no F rfl (by decide) rfl rfl (by decide) fun a F => ?_
        refine q_no F rfl (by decide) rfl rfl (by decide) fun a F => ?_
        refine q_val F rfl rfl (by decide) (r_pick_f F rfl rfl rfl) fun a F => ?_
        refine q_val F rfl rfl (by decide) (r_assign F rfl) fun a F => ?_
        refine nil ?_
        refine hK55 _ _ ?_
        refine wp_ret ?_
        have H := Option.some.inj H
        subst H
        refine out1 F rfl rfl ?_
        exact ⟨fun b_ => (fun x_ => if x_ < m then x_ else 0) (c49 b_), rfl, E.leave B0 (fun x_ => if x_ < m then x_ else 0) (by intro x_ hx_; show (if x_ < m then x_ else 0) = x_; ((repeat' split) <;> omega)), (fun b_ hb_ => by show (if (c49 b_) < m then (c49 b_) else 0) < m; ((repeat' split) <;> omega))⟩
  refine reg ?_
  refine q_val F rfl rfl (by decide) (r_move F rfl) fun a F => ?_
  obtain ⟨t14, q15, H⟩ := bind_some H
  refine q_call F rfl rfl (by decide) (r_call F Try.func11 rfl (by kernel_rfl) rfl) (haulagelaw23_num.calls (m := m + 2) (by omega) B _ q15) ?_
  rintro e w17 ⟨c16, rfl, E18, B19⟩
  refine ⟨_, rfl, fun a F => ?_⟩
  have B := B19
  have h10 := RU.ev h10 E18 (fun q => q.elim) (fun q => q.elim)
  have E := E.trans E18 (fun x q => q.elim)
  refine q_val F rfl rfl (by decide) (r_neq F rfl rfl) fun a F => ?_
  refine q_val F rfl rfl (by decide) (r_move F rfl) fun a F => ?_
  by_cases hb21 : t14 = 0
  · have H := (if_pos hb21).symm.trans H
    refine q_yes F rfl (by decide) rfl (congrArg not (decide_eq_true hb21)) ?_
    refine q_val F rfl rfl (by decide) (r_move F rfl) fun a F => ?_
    refine q_yes F rfl (by decide) rfl (congrArg not (decide_eq_true hb21)) ?_
    refine q_val F rfl rfl (by decide) (r_peqlA F Try.underlying24 rfl rfl (RU.isNone h10)) fun a F => ?_
    refine q_val F rfl rfl (by decide) (r_pick_f F rfl (congrArg not (decide_eq_true hb21)) rfl) fun a F => ?_
    refine nil ?_
    exact J23 c16 w17 a (Option.isNone t3.1) (F.sub ⟨rfl, rfl, trivial⟩) E B h10 H
  · have H := (if_neg hb21).symm.trans H
    refine q_no F rfl (by decide) rfl (congrArg not (decide_eq_false hb21)) (by decide) fun a F => ?_
    refine q_no F rfl (by decide) rfl (congrArg not (decide_eq_false hb21)) (by decide) fun a F => ?_
    refine q_val F rfl rfl (by decide) (r_pick_t F rfl (congrArg not (decide_eq_false hb21)) rfl) fun a F => ?_
    refine nil ?_
    exact J23 c16 w17 a true (F.sub ⟨rfl, rfl, trivial⟩) E B h10 H
end Go.Proofs.Ytohljkjaggcapaa.G
namespace Go.Proofs.Ytohljkjaggcapaa.G
open Go Go.RowKit
set_option linter.unusedVariables false
set_option linter.unusedSimpArgs false
set_option maxRecDepth 100000 in
set_option maxHeartbeats 4000000 in
theorem haulagelaw23_RouteKnown.calls (k : Nat) {m : Nat} {c0 : Nat → Nat} {w0 : World} (hm0 : 0 < m) (B0 : CB m c0 w0) (r : Bool) (H : haulagelaw23_RouteKnown.f k = some r) : Calls Try.prog 7 #[] w0 (fun e w_ => ∃ (c_ : Nat → Nat), e = .returned (.bool r) ∧ Ev (fun x => False) c0 w0 c_ w_ ∧ CB m c_ w_) := by
  unfold haulagelaw23_RouteKnown.f at H
  have B := B0.mono (show m ≤ m + 5 by omega)
  have E : Ev (fun x => False ∨ m ≤ x) c0 w0 c0 w0 := Ev.refl
  refine enter (N := 211) (l := []) Try.func7 rfl rfl (Nat.le_of_ble_eq_true rfl) fun a F => ?_
  refine wp_seq_k fun K1 hK1 => ?_
  refine reg ?_
  refine q_val F rfl rfl (by decide) (r_assign F rfl) fun a F => ?_
  refine nil ?_
  refine hK1 _ _ ?_
  refine wp_seq_k fun K2 hK2 => ?_
  refine wp_seq_k fun K3 hK3 => ?_
  refine reg ?_
  obtain ⟨t4, q5, H⟩ := bind_some H
  refine q_call F rfl rfl (by decide) (r_call F Try.func9 rfl (by kernel_rfl) rfl) (haulagelaw23_known.calls k (m := m + 5) (by omega) B _ q5) ?_
  rintro e w7 ⟨c6, rfl, E8, B9⟩
  refine ⟨_, rfl, fun a F => ?_⟩
  have B := B9
  have E := E.trans E8 (fun x q => q.elim)
  refine q_val F rfl rfl (by decide) (r_not F rfl) fun a F => ?_
  refine nil ?_
  refine hK3 _ _ ?_
  by_cases hb11 : t4 = true
  · have H := (if_pos hb11).symm.trans H
    refine wp_cond_false ((F.ev rfl).trans (congrArg Value.bool (congrArg not hb11))) ?_
    refine wp_skip ?_
    refine hK2 _ _ ?_
    refine wp_seq_k fun K13 hK13 => ?_
    refine reg ?_
    refine q_val F rfl rfl (by decide) (r_build (v := .agg #[.int .i64 0, .int .i64 1]) F [(0, .int .i64 0), (1, .int .i64 1)] (by exact ⟨rfl, rfl, rfl, rfl, trivial⟩) (fun w => by kernel_rfl)) fun a F => ?_
    refine q_val F rfl rfl (by decide) (r_build (v := .agg #[.int .i64 9, .int .i64 1]) F [(0, .int .i64 9), (1, .int .i64 1)] (by exact ⟨rfl, rfl, rfl, rfl, trivial⟩) (fun w => by kernel_rfl)) fun a F => ?_
    refine q_val F rfl rfl (by decide) (r_build (v := .agg #[.int .i64 1, .int .i64 65]) F [(0, .int .i64 1), (1, .int .i64 65)] (by exact ⟨rfl, rfl, rfl, rfl, trivial⟩) (fun w => by kernel_rfl)) fun a F => ?_
    refine q_val F rfl rfl (by decide) (r_build (v := .agg #[.int .i64 1, .int .i64 0]) F [(0, .int .i64 1), (1, .int .i64 0)] (by exact ⟨rfl, rfl, rfl, rfl, trivial⟩) (fun w => by kernel_rfl)) fun a F => ?_
    refine q_val F rfl rfl (by decide) (r_build (v := .agg #[.int .i64 0, .int .i64 1, .int .i64 9, .int .i64 1, .int .i64 1, .int .i64 65, .int .i64 1, .int .i64 0]) F [(0, .agg #[.int .i64 0, .int .i64 1]), (1, .agg #[.int .i64 9, .int .i64 1]), (2, .agg #[.int .i64 1, .int .i64 65]), (3, .agg #[.int .i64 1, .int .i64 0])] (by exact ⟨rfl, rfl, rfl, rfl, rfl, rfl, rfl, rfl, trivial⟩) (fun w => by kernel_rfl)) fun a F => ?_
    refine q_eff F rfl rfl (by decide) (e_alloc F zv_52 c6 (m + 1)) ?_
    rintro v w15 a ⟨c14, qa16, rfl, E17, h18, B19⟩ F
    have B := B19 _ B (by omega)
    have E := E.trans E17 (fun x q => q.elim)
    have h18 : AT true (m + 1) c14 w15 qa16 [.int .i64 0, .int .i64 0, .int .i64 0, .int .i64 0, .int .i64 0, .int .i64 0, .int .i64 0, .int .i64 0] := h18
    refine q_eff0 F rfl rfl (e_storeN0 (us := [.int .i64 0, .int .i64 1, .int .i64 9, .int .i64 1, .int .i64 1, .int .i64 65, .int .i64 1, .int .i64 0]) F rfl rfl sz_52 h18 (Nat.le_of_ble_eq_true rfl) (one_all rfl)) ?_
    rintro w21 a ⟨E22, h18, Z23⟩ F
    have B := B.size Z23
    have E := E.trans E22 (fun x q => by replace q : x = m + 1 := q; show False ∨ m ≤ x; omega)
    have h18 : AT true (m + 1) c14 w21 qa16 [.int .i64 0, .int .i64 1, .int .i64 9, .int .i64 1, .int .i64 1, .int .i64 65, .int .i64 1, .int .i64 0] := h18
    refine nil ?_
    refine hK13 _ _ ?_
    refine wp_seq_k fun K24 hK24 => ?_
    refine wp_seq_k fun K25 hK25 => ?_
    refine reg ?_
    refine q_val F rfl rfl (by decide) (r_assign F rfl) fun a F => ?_
    refine nil ?_
    refine hK25 _ _ ?_
    refine wp_block ?_
    obtain ⟨x36, HL, HR35⟩ := bind_some H
    have J71 : ∀ (c72 : Nat → Nat) (w73 : World) (a : Act), Fr a 211 [] → Ev (fun x => False ∨ m ≤ x) c0 w0 c72 w73 → CB (m + 5) c72 w73 → haulagelaw23_RouteKnown.j3 k = some r → K24 a w73 := by
      intro c72 w73 a  F E B  H
      unfold haulagelaw23_RouteKnown.j3 at H
      refine hK24 _ _ ?_
      refine wp_seq_k fun K74 hK74 => ?_
      refine reg ?_
      obtain ⟨t75, q76, H⟩ := bind_some H
      refine q_call F rfl rfl (by decide) (r_call F Try.func10 rfl (by kernel_rfl) rfl) (route_New.calls (m := m + 5) (by omega) B (m + 3) (by omega) _ q76) ?_
      rintro e w78 ⟨c77, p81, rfl, E79, B80, h82⟩
      refine ⟨_, rfl, fun a F => ?_⟩
      have B := B80
      have E := E.trans E79 (fun x q => q.elim)
      refine q_val F rfl rfl (by decide) (r_move F rfl) fun a F => ?_
      refine q_val F rfl rfl (by decide) (r_extract F rfl rfl) fun a F => ?_
      refine q_val F rfl rfl (by decide) (r_extract F rfl rfl) fun a F => ?_
      refine q_val F rfl rfl (by decide) (r_assign F rfl) fun a F => ?_
      refine q_val F rfl rfl (by decide) (r_assign F rfl) fun a F => ?_
      refine nil ?_
      refine hK74 _ _ ?_
      refine wp_seq_k fun K84 hK84 => ?_
      refine wp_seq_k fun K85 hK85 => ?_
      have J162 : ∀ (c163 : Nat → Nat) (w164 : World) (a : Act) (b161 : Bool), Fr a 211 [(85, .bool b161)] → Ev (fun x => False ∨ m ≤ x) c0 w0 c163 w164 → CB (m + 5) c163 w164 → haulagelaw23_RouteKnown.j4 k b161 = some r → K85 a w164 := by
        intro c163 w164 a b161 F E B  H
        unfold haulagelaw23_RouteKnown.j4 at H
        refine hK85 _ _ ?_
        by_cases hb165 : b161 = true
        · have H := (if_pos hb165).symm.trans H
          refine wp_cond_true ((F.ev rfl).trans (congrArg Value.bool hb165)) ?_
          refine wp_seq_k fun K166 hK166 => ?_
          refine reg ?_
          refine q_val F rfl rfl (by decide) (r_assign F rfl) fun a F => ?_
          refine nil ?_
          refine hK166 _ _ ?_
          refine wp_ret ?_
          refine thenR ?_
          have H := Option.some.inj H
          subst H
          refine out1 F rfl rfl ?_
          exact ⟨fun b_ => (fun x_ => if x_ < m then x_ else 0) (c163 b_), rfl, E.leave B0 (fun x_ => if x_ < m then x_ else 0) (by intro x_ hx_; show (if x_ < m then x_ else 0) = x_; ((repeat' split) <;> omega)), (fun b_ hb_ => by show (if (c163 b_) < m then (c163 b_) else 0) < m; ((repeat' split) <;> omega))⟩
        · have H := (if_neg hb165).symm.trans H
          refine wp_cond_false ((F.ev rfl).trans (congrArg Value.bool (bfalse hb165))) ?_
          refine wp_skip ?_
          refine hK84 _ _ ?_
          refine wp_seq_k fun K167 hK167 => ?_
          refine reg ?_
          obtain ⟨t168, q169, H⟩ := bind_some H
          refine q_call F rfl rfl (by decide) (r_call F Try.func10 rfl (by kernel_rfl) rfl) (route_New.calls (m := m + 5) (by omega) B (m + 4) (by omega) _ q169) ?_
          rintro e w171 ⟨c170, p174, rfl, E172, B173, h175⟩
          refine ⟨_, rfl, fun a F => ?_⟩
          have B := B173
          have E := E.trans E172 (fun x q => q.elim)
          refine q_val F rfl rfl (by decide) (r_move F rfl) fun a F => ?_
          refine q_val F rfl rfl (by decide) (r_extract F rfl rfl) fun a F => ?_
          refine q_val F rfl rfl (by decide) (r_extract F rfl rfl) fun a F => ?_
          refine q_val F rfl rfl (by decide) (r_assign F rfl) fun a F => ?_
          refine q_val F rfl rfl (by decide) (r_assign F rfl) fun a F => ?_
          refine nil ?_
          refine hK167 _ _ ?_
          refine wp_seq_k fun K177 hK177 => ?_
          refine reg ?_
          refine q_val F rfl rfl (by decide) (r_move F rfl) fun a F => ?_
          obtain ⟨t178, q179, H⟩ := bind_some H
          refine q_call F rfl rfl (by decide) (r_call F Try.func12 rfl (by kernel_rfl) rfl) (route_Route_Fine.calls (m := m + 5) (by omega) B h175 (by omega) _ q179) ?_
          rintro e w181 ⟨c180, rfl, E182, B183, h184⟩
          refine ⟨_, rfl, fun a F => ?_⟩
          have B := B183
          have E := E.trans E182 (fun x q => by replace q : x = m + 4 := q; show False ∨ m ≤ x; omega)
          refine nil ?_
          refine hK177 _ _ ?_
          refine wp_seq_k fun K186 hK186 => ?_
          refine reg ?_
          refine q_val F rfl rfl (by decide) (r_move F rfl) fun a F => ?_
          obtain ⟨t187, q188, H⟩ := bind_some H
          refine q_call F rfl rfl (by decide) (r_call F Try.func13 rfl (by kernel_rfl) rfl) (route_Route_Hint.calls (m := m + 5) (by omega) B h184 (by omega) _ q188) ?_
          rintro e w190 ⟨c189, rfl, E191, B192, h193⟩
          refine ⟨_, rfl, fun a F => ?_⟩
          have B := B192
          have E := E.trans E191 (fun x q => by replace q : x = m + 4 := q; show False ∨ m ≤ x; omega)
          refine nil ?_
          refine hK186 _ _ ?_
          refine wp_seq_k fun K195 hK195 => ?_
          refine reg ?_
          refine q_val F rfl rfl (by decide) (r_move F rfl) fun a F => ?_
          obtain ⟨t196, q197, H⟩ := bind_some H
          refine q_call F rfl rfl (by decide) (r_call F Try.func13 rfl (by kernel_rfl) rfl) (route_Route_Hint.calls (m := m + 5) (by omega) B h193 (by omega) _ q197) ?_
          rintro e w199 ⟨c198, rfl, E200, B201, h202⟩
          refine ⟨_, rfl, fun a F => ?_⟩
          have B := B201
          have E := E.trans E200 (fun x q => by replace q : x = m + 4 := q; show False ∨ m ≤ x; omega)
          refine nil ?_
          refine hK195 _ _ ?_
          refine wp_seq_k fun K204 hK204 => ?_
          refine reg ?_
          refine q_val F rfl rfl (by decide) (r_move F rfl) fun a F => ?_
          obtain ⟨t205, q206, H⟩ := bind_some H
          refine q_call F rfl rfl (by decide) (r_call F Try.func13 rfl (by kernel_rfl) rfl) (route_Route_Hint.calls (m := m + 5) (by omega) B h202 (by omega) _ q206) ?_
          rintro e w208 ⟨c207, rfl, E209, B210, h211⟩
          refine ⟨_, rfl, fun a F => ?_⟩
          have B := B210
          have E := E.trans E209 (fun x q => by replace q : x = m + 4 := q; show False ∨ m ≤ x; omega)
          refine nil ?_
          refine hK204 _ _ ?_
          refine wp_seq_k fun K213 hK213 => ?_
          refine wp_seq_k fun K214 hK214 => ?_
          have J248 : ∀ (c249 : Nat → Nat) (w250 : World) (a : Act) (b247 : Bool), Fr a 211 [(7, .pointer p174), (107, .bool b247)] → Ev (fun x => False ∨ m ≤ x) c0 w0 c249 w250 → CB (m + 5) c249 w250 → RU (m + 4) c249 w250 p174 t205.2 → haulagelaw23_RouteKnown.j5 k t205 b247 = some r → K214 a w250 := by
            intro c249 w250 a b247 F E B h211 H
            unfold haulagelaw23_RouteKnown.j5 at H
            refine hK214 _ _ ?_
            by_cases hb251 : b247 = true
            · have H := (if_pos hb251).symm.trans H
              refine wp_cond_true ((F.ev rfl).trans (congrArg Value.bool hb251)) ?_
              refine wp_seq_k fun K252 hK252 => ?_
              refine reg ?_
              refine q_val F rfl rfl (by decide) (r_assign F rfl) fun a F => ?_
              refine nil ?_
              refine hK252 _ _ ?_
              refine wp_ret ?_
              refine thenR ?_
              have H := Option.some.inj H
              subst H
              refine out1 F rfl rfl ?_
              exact ⟨fun b_ => (fun x_ => if x_ < m then x_ else 0) (c249 b_), rfl, E.leave B0 (fun x_ => if x_ < m then x_ else 0) (by intro x_ hx_; show (if x_ < m then x_ else 0) = x_; ((repeat' split) <;> omega)), (fun b_ hb_ => by show (if (c249 b_) < m then (c249 b_) else 0) < m; ((repeat' split) <;> omega))⟩
            · have H := (if_neg hb251).symm.trans H
              refine wp_cond_false ((F.ev rfl).trans (congrArg Value.bool (bfalse hb251))) ?_
              refine wp_skip ?_
              refine hK213 _ _ ?_
              refine wp_seq_k fun K253 hK253 => ?_
              refine reg ?_
              refine q_val F rfl rfl (by decide) (r_move F rfl) fun a F => ?_
              obtain ⟨t254, q255, H⟩ := bind_some H
              refine q_call F rfl rfl (by decide) (r_call F Try.func13 rfl (by kernel_rfl) rfl) (route_Route_Hint.calls (m := m + 5) (by omega) B h211 (by omega) _ q255) ?_
              rintro e w257 ⟨c256, rfl, E258, B259, h260⟩
              refine ⟨_, rfl, fun a F => ?_⟩
              have B := B259
              have E := E.trans E258 (fun x q => by replace q : x = m + 4 := q; show False ∨ m ≤ x; omega)
              refine nil ?_
              refine hK253 _ _ ?_
              refine wp_seq_k fun K262 hK262 => ?_
              refine wp_seq_k fun K263 hK263 => ?_
              refine reg ?_
              refine q_val F rfl rfl (by decide) (r_move F rfl) fun a F => ?_
              obtain ⟨t264, q265, H⟩ := bind_some H
              refine q_call F rfl rfl (by decide) (r_call F Try.func16 rfl (by kernel_rfl) rfl) (route_Route_Trail.calls (m := m + 5) (by omega) B h260 (by omega) 0 (by omega) _ q265) ?_
              rintro e w267 ⟨c266, A270, C271, rfl, E268, B269, h272⟩
              refine ⟨_, rfl, fun a F => ?_⟩
              have B := B269
              have h260 := RU.ev h260 E268 (fun q => q.elim) (fun q => q.elim)
              have E := E.trans E268 (fun x q => q.elim)
              refine q_eff F rfl rfl (by decide) (e_buildSlice (n := 3) (e := 3) (c := c266) (k := (Kint .i64)) (i := 0) F [(0, .int .i64 2), (1, .int .i64 1), (2, .int .i64 0)] [.int .i64 2, .int .i64 1, .int .i64 0] ([2, 1, 0] : List Int) (by exact ⟨rfl, rfl, rfl, rfl, rfl, rfl, trivial⟩) (fun w => by kernel_rfl) rfl (by decide) rfl ⟨rfl, rfl, rfl, trivial⟩ (fun q => q) 0) ?_
              rintro v w275 a ⟨c274, A276, C277, rfl, E278, h279, B280⟩ F
              have B := B280 _ B (by omega)
              have h260 := RU.ev h260 E278 (fun q => q.elim) (fun q => q.elim)
              have h272 := SL.ev h272 E278 (fun q => q.elim) (fun q => q.elim)
              have E := E.trans E278 (fun x q => q.elim)
              obtain ⟨t281, q282, H⟩ := bind_some H
              refine q_call F rfl rfl (by decide) (r_call F Try.func15 rfl (by kernel_rfl) rfl) (haulagelaw23_ints.calls k (m := m + 5) (by omega) B h272.r h279.r _ q282) ?_
              rintro e w284 ⟨c283, rfl, E285, B286⟩
              refine ⟨_, rfl, fun a F => ?_⟩
              have B := B286
              have h260 := RU.ev h260 E285 (fun q => q.elim) (fun q => q.elim)
              have h272 := SL.ev h272 E285 (fun q => q.elim) (fun q => q.elim)
              have h279 := SL.ev h279 E285 (fun q => q.elim) (fun q => q.elim)
              have E := E.trans E285 (fun x q => q.elim)
              refine q_val F rfl rfl (by decide) (r_not F rfl) fun a F => ?_
              refine nil ?_
              refine hK263 _ _ ?_
              by_cases hb288 : t281 = true
              · have H := (if_pos hb288).symm.trans H
                refine wp_cond_false ((F.ev rfl).trans (congrArg Value.bool (congrArg not hb288))) ?_
                refine wp_skip ?_
                refine hK262 _ _ ?_
                refine wp_seq_k fun K290 hK290 => ?_
                refine reg ?_
                refine q_val F rfl rfl (by decide) (r_move F rfl) fun a F => ?_
                obtain ⟨t291, q292, H⟩ := bind_some H
                refine q_call F rfl rfl (by decide) (r_call F Try.func13 rfl (by kernel_rfl) rfl) (route_Route_Hint.calls (m := m + 5) (by omega) B h260 (by omega) _ q292) ?_
                rintro e w294 ⟨c293, rfl, E295, B296, h297⟩
                refine ⟨_, rfl, fun a F => ?_⟩
                have B := B296
                have h272 := SL.ev h272 E295 (by show ¬ (0 = m + 4); omega) (by show ¬ (0 = m + 4); omega)
                have h279 := SL.ev h279 E295 (by show ¬ (0 = m + 4); omega) (by show ¬ (0 = m + 4); omega)
                have E := E.trans E295 (fun x q => by replace q : x = m + 4 := q; show False ∨ m ≤ x; omega)
                refine nil ?_
                refine hK290 _ _ ?_
                refine wp_seq_k fun K299 hK299 => ?_
                refine wp_seq_k fun K300 hK300 => ?_
                have J376 : ∀ (c377 : Nat → Nat) (w378 : World) (a : Act) (o374 : Option Rou) (b375 : Bool), Fr a 211 [(7, .pointer p174), (144, .bool b375)] → Ev (fun x => False ∨ m ≤ x) c0 w0 c377 w378 → CB (m + 5) c377 w378 → RU (m + 4) c377 w378 p174 o374 → haulagelaw23_RouteKnown.j6 o374 b375 = some r → K300 a w378 := by
                  intro c377 w378 a o374 b375 F E B h373 H
                  unfold haulagelaw23_RouteKnown.j6 at H
                  refine hK300 _ _ ?_
                  by_cases hb379 : b375 = true
                  · have H := (if_pos hb379).symm.trans H
                    refine wp_cond_true ((F.ev rfl).trans (congrArg Value.bool hb379)) ?_
                    refine wp_seq_k fun K380 hK380 => ?_
                    refine reg ?_
                    refine q_val F rfl rfl (by decide) (r_assign F rfl) fun a F => ?_
                    refine nil ?_
                    refine hK380 _ _ ?_
                    refine wp_ret ?_
                    refine thenR ?_
                    have H := Option.some.inj H
                    subst H
                    refine out1 F rfl rfl ?_
                    exact ⟨fun b_ => (fun x_ => if x_ < m then x_ else 0) (c377 b_), rfl, E.leave B0 (fun x_ => if x_ < m then x_ else 0) (by intro x_ hx_; show (if x_ < m then x_ else 0) = x_; ((repeat' split) <;> omega)), (fun b_ hb_ => by show (if (c377 b_) < m then (c377 b_) else 0) < m; ((repeat' split) <;> omega))⟩
                  · have H := (if_neg hb379).symm.trans H
                    refine wp_cond_false ((F.ev rfl).trans (congrArg Value.bool (bfalse hb379))) ?_
                    refine wp_skip ?_
                    refine hK299 _ _ ?_
                    refine wp_seq_k fun K381 hK381 => ?_
                    refine reg ?_
                    refine q_val F rfl rfl (by decide) (r_move F rfl) fun a F => ?_
                    obtain ⟨t382, q383, H⟩ := bind_some H
                    refine q_call F rfl rfl (by decide) (r_call F Try.func22 rfl (by kernel_rfl) rfl) (route_Route_Counts.calls (m := m + 5) (by omega) B h373 (by omega) _ q383) ?_
                    rintro e w385 ⟨c384, rfl, E386, B387⟩
                    refine ⟨_, rfl, fun a F => ?_⟩
                    have B := B387
                    have h373 := RU.ev h373 E386 (fun q => q.elim) (fun q => q.elim)
                    have E := E.trans E386 (fun x q => q.elim)
                    refine q_val F rfl rfl (by decide) (r_move F rfl) fun a F => ?_
                    refine q_val F rfl rfl (by decide) (r_extract F rfl rfl) fun a F => ?_
                    refine q_val F rfl rfl (by decide) (r_extract F rfl rfl) fun a F => ?_
                    refine q_val F rfl rfl (by decide) (r_extract F rfl rfl) fun a F => ?_
                    refine q_val F rfl rfl (by decide) (r_assign F rfl) fun a F => ?_
                    refine q_val F rfl rfl (by decide) (r_assign F rfl) fun a F => ?_
                    refine q_val F rfl rfl (by decide) (r_assign F rfl) fun a F => ?_
                    refine nil ?_
                    refine hK381 _ _ ?_
                    refine wp_seq_k fun K389 hK389 => ?_
                    refine reg ?_
                    refine q_val F rfl rfl (by decide) (r_assign F rfl) fun a F => ?_
                    refine nil ?_
                    refine hK389 _ _ ?_
                    refine wp_seq_k fun K390 hK390 => ?_
                    refine reg ?_
                    refine q_val F rfl rfl (by decide) (r_move F rfl) fun a F => ?_
                    obtain ⟨t391, q392, H⟩ := bind_some H
                    refine q_call F rfl rfl (by decide) (r_call F Try.func22 rfl (by kernel_rfl) rfl) (route_Route_Counts.calls (m := m + 5) (by omega) B (RU.nil (j := m)) (by omega) _ q392) ?_
                    rintro e w394 ⟨c393, rfl, E395, B396⟩
                    refine ⟨_, rfl, fun a F => ?_⟩
                    have B := B396
                    have h373 := RU.ev h373 E395 (fun q => q.elim) (fun q => q.elim)
                    have E := E.trans E395 (fun x q => q.elim)
                    refine q_val F rfl rfl (by decide) (r_move F rfl) fun a F => ?_
                    refine q_val F rfl rfl (by decide) (r_extract F rfl rfl) fun a F => ?_
                    refine q_val F rfl rfl (by decide) (r_extract F rfl rfl) fun a F => ?_
                    refine q_val F rfl rfl (by decide) (r_extract F rfl rfl) fun a F => ?_
                    refine q_val F rfl rfl (by decide) (r_assign F rfl) fun a F => ?_
                    refine q_val F rfl rfl (by decide) (r_assign F rfl) fun a F => ?_
                    refine q_val F rfl rfl (by decide) (r_assign F rfl) fun a F => ?_
                    refine nil ?_
                    refine hK390 _ _ ?_
                    refine wp_seq_k fun K398 hK398 => ?_
                    refine reg ?_
                    refine q_val F rfl rfl (by decide) (r_move F rfl) fun a F => ?_
                    refine q_val F rfl rfl (by decide) (r_eql F rfl rfl) fun a F => ?_
                    refine q_val F rfl rfl (by decide) (r_move F rfl) fun a F => ?_
                    by_cases hb399 : t382.1 = 2
                    · have H := (if_pos hb399).symm.trans H
                      refine q_yes F rfl (by decide) rfl (decide_eq_true hb399) ?_
                      refine q_val F rfl rfl (by decide) (r_move F rfl) fun a F => ?_
                      refine q_yes F rfl (by decide) rfl (decide_eq_true hb399) ?_
                      refine q_val F rfl rfl (by decide) (r_eql F rfl rfl) fun a F => ?_
                      refine q_val F rfl rfl (by decide) (r_pick_t F rfl (decide_eq_true hb399) rfl) fun a F => ?_
                      refine q_val F rfl rfl (by decide) (r_move F rfl) fun a F => ?_
                      by_cases hb400 : t382.2.1 = 5
                      · have H := (if_pos hb400).symm.trans H
                        refine q_yes F rfl (by decide) rfl (decide_eq_true hb400) ?_
                        refine q_val F rfl rfl (by decide) (r_move F rfl) fun a F => ?_
                        refine q_yes F rfl (by decide) rfl (decide_eq_true hb400) ?_
                        refine q_val F rfl rfl (by decide) (r_eql F rfl rfl) fun a F => ?_
                        refine q_val F rfl rfl (by decide) (r_pick_t F rfl (decide_eq_true hb400) rfl) fun a F => ?_
                        refine q_val F rfl rfl (by decide) (r_move F rfl) fun a F => ?_
                        by_cases hb401 : t382.2.2 = 4
                        · have H := (if_pos hb401).symm.trans H
                          refine q_yes F rfl (by decide) rfl (decide_eq_true hb401) ?_
                          refine q_val F rfl rfl (by decide) (r_move F rfl) fun a F => ?_
                          obtain ⟨t402, q403, H⟩ := bind_some H
                          refine q_yes F rfl (by decide) rfl (decide_eq_true hb401) ?_
                          refine q_call F rfl rfl (by decide) (r_call F Try.func14 rfl (by kernel_rfl) rfl) (route_Route_Where.calls (m := m + 5) (by omega) B (RU.nil (j := m)) (by omega) _ q403) ?_
                          rintro e w405 ⟨c404, rfl, E406, B407⟩
                          refine ⟨_, rfl, fun a F => ?_⟩
                          have B := B407
                          have h373 := RU.ev h373 E406 (fun q => q.elim) (fun q => q.elim)
                          have E := E.trans E406 (fun x q => q.elim)
                          refine q_yes F rfl (by decide) rfl (decide_eq_true hb401) ?_
                          refine q_val F rfl rfl (by decide) (r_eql F rfl rfl) fun a F => ?_
                          refine q_val F rfl rfl (by decide) (r_pick_t F rfl (decide_eq_true hb401) rfl) fun a F => ?_
                          refine q_val F rfl rfl (by decide) (r_move F rfl) fun a F => ?_
                          by_cases hb409 : t402 = (-1)
                          · have H := (if_pos hb409).symm.trans H
                            refine q_yes F rfl (by decide) rfl (decide_eq_true hb409) ?_
                            refine q_val F rfl rfl (by decide) (r_move F rfl) fun a F => ?_
                            obtain ⟨t410, q411, H⟩ := bind_some H
                            refine q_yes F rfl (by decide) rfl (decide_eq_true hb409) ?_
                            refine q_call F rfl rfl (by decide) (r_call F Try.func17 rfl (by kernel_rfl) rfl) (route_Route_Shard.calls (m := m + 5) (by omega) B (RU.nil (j := m)) (SL.nil (j := 0)) (by omega) (by omega) _ q411) ?_
                            rintro e w413 ⟨c412, rfl, E414, B415⟩
                            refine ⟨_, rfl, fun a F => ?_⟩
                            have B := B415
                            have h373 := RU.ev h373 E414 (fun q => q.elim) (fun q => q.elim)
                            have E := E.trans E414 (fun x q => q.elim)
                            refine q_yes F rfl (by decide) rfl (decide_eq_true hb409) ?_
                            refine q_val F rfl rfl (by decide) (r_eql F rfl rfl) fun a F => ?_
                            refine q_val F rfl rfl (by decide) (r_pick_t F rfl (decide_eq_true hb409) rfl) fun a F => ?_
                            refine q_val F rfl rfl (by decide) (r_move F rfl) fun a F => ?_
                            by_cases hb417 : t410 = (-1)
                            · have H := (if_pos hb417).symm.trans H
                              refine q_yes F rfl (by decide) rfl (decide_eq_true hb417) ?_
                              refine q_val F rfl rfl (by decide) (r_move F rfl) fun a F => ?_
                              obtain ⟨t418, q419, H⟩ := bind_some H
                              refine q_yes F rfl (by decide) rfl (decide_eq_true hb417) ?_
                              refine q_call F rfl rfl (by decide) (r_call F Try.func12 rfl (by kernel_rfl) rfl) (route_Route_Fine.calls (m := m + 5) (by omega) B (RU.nil (j := m)) (by omega) _ q419) ?_
                              rintro e w421 ⟨c420, rfl, E422, B423, h424⟩
                              refine ⟨_, rfl, fun a F => ?_⟩
                              have B := B423
                              have h373 := RU.ev h373 E422 (by show ¬ (m + 4 = m); omega) (by show ¬ (0 = m); omega)
                              have E := E.trans E422 (fun x q => by replace q : x = m := q; show False ∨ m ≤ x; omega)
                              refine q_yes F rfl (by decide) rfl (decide_eq_true hb417) ?_
                              refine q_val F rfl rfl (by decide) (r_not F rfl) fun a F => ?_
                              refine q_val F rfl rfl (by decide) (r_pick_t F rfl (decide_eq_true hb417) rfl) fun a F => ?_
                              refine q_val F rfl rfl (by decide) (r_move F rfl) fun a F => ?_
                              by_cases hb426 : t418.1 = true
                              · have H := (if_pos hb426).symm.trans H
                                refine q_no F rfl (by decide) rfl (congrArg not hb426) (by decide) fun a F => ?_
                                refine q_no F rfl (by decide) rfl (congrArg not hb426) (by decide) fun a F => ?_
                                refine q_no F rfl (by decide) rfl (congrArg not hb426) (by decide) fun a F => ?_
                                refine q_val F rfl rfl (by decide) (r_pick_f F rfl (congrArg not hb426) rfl) fun a F => ?_
                                refine q_val F rfl rfl (by decide) (r_move F rfl) fun a F => ?_
                                refine q_no F rfl (by decide) rfl rfl (by decide) fun a F => ?_
                                refine q_no F rfl (by decide) rfl rfl (by decide) fun a F => ?_
                                refine q_no F rfl (by decide) rfl rfl (by decide) fun a F => ?_
                                refine q_no F rfl (by decide) rfl rfl (by decide) fun a F => ?_
                                refine q_val F rfl rfl (by decide) (r_pick_f F rfl rfl rfl) fun a F => ?_
                                refine q_val F rfl rfl (by decide) (r_move F rfl) fun a F => ?_
                                refine q_no F rfl (by decide) rfl rfl (by decide) fun a F => ?_
                                refine q_no F rfl (by decide) rfl rfl (by decide) fun a F => ?_
                                refine q_no F rfl (by decide) rfl rfl (by decide) fun a F => ?_
                                refine q_no F rfl (by decide) rfl rfl (by decide) fun a F => ?_
                                refine q_val F rfl rfl (by decide) (r_pick_f F rfl rfl rfl) fun a F => ?_
                                refine q_val F rfl rfl (by decide) (r_move F rfl) fun a F => ?_
                                refine q_no F rfl (by decide) rfl rfl (by decide) fun a F => ?_
                                refine q_no F rfl (by decide) rfl rfl (by decide) fun a F => ?_
                                refine q_val F rfl rfl (by decide) (r_pick_f F rfl rfl rfl) fun a F => ?_
                                refine q_val F rfl rfl (by decide) (r_move F rfl) fun a F => ?_
                                refine q_no F rfl (by decide) rfl rfl (by decide) fun a F => ?_
                                refine q_no F rfl (by decide) rfl rfl (by decide) fun a F => ?_
                                refine q_val F rfl rfl (by decide) (r_pick_f F rfl rfl rfl) fun a F => ?_
                                refine q_val F rfl rfl (by decide) (r_move F rfl) fun a F => ?_
                                refine q_no F rfl (by decide) rfl rfl (by decide) fun a F => ?_
                                refine q_no F rfl (by decide) rfl rfl (by decide) fun a F => ?_
                                refine q_val F rfl rfl (by decide) (r_pick_f F rfl rfl rfl) fun a F => ?_
                                refine q_val F rfl rfl (by decide) (r_assign F rfl) fun a F => ?_
                                refine nil ?_
                                refine hK398 _ _ ?_
                                refine wp_ret ?_
                                have H := Option.some.inj H
                                subst H
                                refine out1 F rfl rfl ?_
                                exact ⟨fun b_ => (fun x_ => if x_ < m then x_ else 0) (c420 b_), rfl, E.leave B0 (fun x_ => if x_ < m then x_ else 0) (by intro x_ hx_; show (if x_ < m then x_ else 0) = x_; ((repeat' split) <;> omega)), (fun b_ hb_ => by show (if (c420 b_) < m then (c420 b_) else 0) < m; ((repeat' split) <;> omega))⟩
                              · have H := (if_neg hb426).symm.trans H
                                refine q_yes F rfl (by decide) rfl (congrArg not (bfalse hb426)) ?_
                                refine q_val F rfl rfl (by decide) (r_move F rfl) fun a F => ?_
                                obtain ⟨t427, q428, H⟩ := bind_some H
                                refine q_yes F rfl (by decide) rfl (congrArg not (bfalse hb426)) ?_
                                refine q_call F rfl rfl (by decide) (r_call F Try.func13 rfl (by kernel_rfl) rfl) (route_Route_Hint.calls (m := m + 5) (by omega) B h424 (by omega) _ q428) ?_
                                rintro e w430 ⟨c429, rfl, E431, B432, h433⟩
                                refine ⟨_, rfl, fun a F => ?_⟩
                                have B := B432
                                have h373 := RU.ev h373 E431 (by show ¬ (m + 4 = m); omega) (by show ¬ (0 = m); omega)
                                have E := E.trans E431 (fun x q => by replace q : x = m := q; show False ∨ m ≤ x; omega)
                                refine q_yes F rfl (by decide) rfl (congrArg not (bfalse hb426)) ?_
                                refine q_val F rfl rfl (by decide) (r_not F rfl) fun a F => ?_
                                refine q_val F rfl rfl (by decide) (r_pick_t F rfl (congrArg not (bfalse hb426)) rfl) fun a F => ?_
                                refine q_val F rfl rfl (by decide) (r_move F rfl) fun a F => ?_
                                by_cases hb435 : t427.1 = true
                                · have H := (if_pos hb435).symm.trans H
                                  refine q_no F rfl (by decide) rfl (congrArg not hb435) (by decide) fun a F => ?_
                                  refine q_no F rfl (by decide) rfl (congrArg not hb435) (by decide) fun a F => ?_
                                  refine q_no F rfl (by decide) rfl (congrArg not hb435) (by decide) fun a F => ?_
                                  refine q_no F rfl (by decide) rfl (congrArg not hb435) (by decide) fun a F => ?_
                                  refine q_val F rfl rfl (by decide) (r_pick_f F rfl (congrArg not hb435) rfl) fun a F => ?_
                                  refine q_val F rfl rfl (by decide) (r_move F rfl) fun a F => ?_
                                  refine q_no F rfl (by decide) rfl rfl (by decide) fun a F => ?_
                                  refine q_no F rfl (by decide) rfl rfl (by decide) fun a F => ?_
                                  refine q_no F rfl (by decide) rfl rfl (by decide) fun a F => ?_
                                  refine q_no F rfl (by decide) rfl rfl (by decide) fun a F => ?_
                                  refine q_val F rfl rfl (by decide) (r_pick_f F rfl rfl rfl) fun a F => ?_
                                  refine q_val F rfl rfl (by decide) (r_move F rfl) fun a F => ?_
                                  refine q_no F rfl (by decide) rfl rfl (by decide) fun a F => ?_
                                  refine q_no F rfl (by decide) rfl rfl (by decide) fun a F => ?_
                                  refine q_val F rfl rfl (by decide) (r_pick_f F rfl rfl rfl) fun a F => ?_
                                  refine q_val F rfl rfl (by decide) (r_move F rfl) fun a F => ?_
                                  refine q_no F rfl (by decide) rfl rfl (by decide) fun a F => ?_
                                  refine q_no F rfl (by decide) rfl rfl (by decide) fun a F => ?_
                                  refine q_val F rfl rfl (by decide) (r_pick_f F rfl rfl rfl) fun a F => ?_
                                  refine q_val F rfl rfl (by decide) (r_move F rfl) fun a F => ?_
                                  refine q_no F rfl (by decide) rfl rfl (by decide) fun a F => ?_
                                  refine q_no F rfl (by decide) rfl rfl (by decide) fun a F => ?_
                                  refine q_val F rfl rfl (by decide) (r_pick_f F rfl rfl rfl) fun a F => ?_
                                  refine q_val F rfl rfl (by decide) (r_assign F rfl) fun a F => ?_
                                  refine nil ?_
                                  refine hK398 _ _ ?_
                                  refine wp_ret ?_
                                  have H := Option.some.inj H
                                  subst H
                                  refine out1 F rfl rfl ?_
                                  exact ⟨fun b_ => (fun x_ => if x_ < m then x_ else 0) (c429 b_), rfl, E.leave B0 (fun x_ => if x_ < m then x_ else 0) (by intro x_ hx_; show (if x_ < m then x_ else 0) = x_; ((repeat' split) <;> omega)), (fun b_ hb_ => by show (if (c429 b_) < m then (c429 b_) else 0) < m; ((repeat' split) <;> omega))⟩
                                · have H := (if_neg hb435).symm.trans H
                                  refine q_yes F rfl (by decide) rfl (congrArg not (bfalse hb435)) ?_
                                  refine q_val F rfl rfl (by decide) (r_move F rfl) fun a F => ?_
                                  obtain ⟨t436, q437, H⟩ := bind_some H
                                  refine q_yes F rfl (by decide) rfl (congrArg not (bfalse hb435)) ?_
                                  refine q_call F rfl rfl (by decide) (r_call F Try.func16 rfl (by kernel_rfl) rfl) (route_Route_Trail.calls (m := m + 5) (by omega) B h433 (by omega) 0 (by omega) _ q437) ?_
                                  rintro e w439 ⟨c438, A442, C443, rfl, E440, B441, h444⟩
                                  refine ⟨_, rfl, fun a F => ?_⟩
                                  have B := B441
                                  have h373 := RU.ev h373 E440 (fun q => q.elim) (fun q => q.elim)
                                  have h433 := RU.ev h433 E440 (fun q => q.elim) (fun q => q.elim)
                                  have E := E.trans E440 (fun x q => q.elim)
                                  refine q_yes F rfl (by decide) rfl (congrArg not (bfalse hb435)) ?_
                                  refine q_val F rfl rfl (by decide) (r_lensl F Try.underlying22 rfl) fun a F => ?_
                                  refine q_yes F rfl (by decide) rfl (congrArg not (bfalse hb435)) ?_
                                  refine q_val F rfl rfl (by decide) (r_eql F rfl rfl) fun a F => ?_
                                  refine q_val F rfl rfl (by decide) (r_pick_t F rfl (congrArg not (bfalse hb435)) rfl) fun a F => ?_
                                  refine q_val F rfl rfl (by decide) (r_move F rfl) fun a F => ?_
                                  by_cases hb446 : (t436.length : Int) = 0
                                  · have H := (if_pos hb446).symm.trans H
                                    refine q_yes F rfl (by decide) rfl (decide_eq_true hb446) ?_
                                    refine q_val F rfl rfl (by decide) (r_move F rfl) fun a F => ?_
                                    obtain ⟨t447, q448, H⟩ := bind_some H
                                    refine q_yes F rfl (by decide) rfl (decide_eq_true hb446) ?_
                                    refine q_call F rfl rfl (by decide) (r_call F Try.func18 rfl (by kernel_rfl) rfl) (route_Route_At.calls (m := m + 5) (by omega) B h433 (by omega) 0 (by omega) _ q448) ?_
                                    rintro e w450 ⟨c449, A453, C454, rfl, E451, B452, h455⟩
                                    refine ⟨_, rfl, fun a F => ?_⟩
                                    have B := B452
                                    have h373 := RU.ev h373 E451 (fun q => q.elim) (fun q => q.elim)
                                    have h433 := RU.ev h433 E451 (fun q => q.elim) (fun q => q.elim)
                                    have h444 := SL.ev h444 E451 (fun q => q.elim) (fun q => q.elim)
                                    have E := E.trans E451 (fun x q => q.elim)
                                    refine q_yes F rfl (by decide) rfl (decide_eq_true hb446) ?_
                                    refine q_val F rfl rfl (by decide) (r_lensl F Try.underlying22 rfl) fun a F => ?_
                                    refine q_yes F rfl (by decide) rfl (decide_eq_true hb446) ?_
                                    refine q_val F rfl rfl (by decide) (r_eql F rfl rfl) fun a F => ?_
                                    refine q_val F rfl rfl (by decide) (r_pick_t F rfl (decide_eq_true hb446) rfl) fun a F => ?_
                                    refine q_val F rfl rfl (by decide) (r_move F rfl) fun a F => ?_
                                    by_cases hb457 : (t447.length : Int) = 0
                                    · have H := (if_pos hb457).symm.trans H
                                      refine q_yes F rfl (by decide) rfl (decide_eq_true hb457) ?_
                                      refine q_val F rfl rfl (by decide) (r_move F rfl) fun a F => ?_
                                      refine q_yes F rfl (by decide) rfl (decide_eq_true hb457) ?_
                                      refine q_val F rfl rfl (by decide) (r_eql F rfl rfl) fun a F => ?_
                                      refine q_val F rfl rfl (by decide) (r_pick_t F rfl (decide_eq_true hb457) rfl) fun a F => ?_
                                      refine q_val F rfl rfl (by decide) (r_move F rfl) fun a F => ?_
                                      by_cases hb458 : t391.1 = 0
                                      · have H := (if_pos hb458).symm.trans H
                                        refine q_yes F rfl (by decide) rfl (decide_eq_true hb458) ?_
                                        refine q_val F rfl rfl (by decide) (r_move F rfl) fun a F => ?_
                                        refine q_yes F rfl (by decide) rfl (decide_eq_true hb458) ?_
                                        refine q_val F rfl rfl (by decide) (r_eql F rfl rfl) fun a F => ?_
                                        refine q_val F rfl rfl (by decide) (r_pick_t F rfl (decide_eq_true hb458) rfl) fun a F => ?_
                                        refine q_val F rfl rfl (by decide) (r_move F rfl) fun a F => ?_
                                        by_cases hb459 : t391.2.1 = 0
                                        · have H := (if_pos hb459).symm.trans H
                                          refine q_yes F rfl (by decide) rfl (decide_eq_true hb459) ?_
                                          refine q_val F rfl rfl (by decide) (r_move F rfl) fun a F => ?_
                                          refine q_yes F rfl (by decide) rfl (decide_eq_true hb459) ?_
                                          refine q_val F rfl rfl (by decide) (r_eql F rfl rfl) fun a F => ?_
                                          refine q_val F rfl rfl (by decide) (r_pick_t F rfl (decide_eq_true hb459) rfl) fun a F => ?_
                                          refine q_val F rfl rfl (by decide) (r_assign F rfl) fun a F => ?_
                                          refine nil ?_
                                          refine hK398 _ _ ?_
                                          refine wp_ret ?_
                                          have H := Option.some.inj H
                                          subst H
                                          refine out1 F rfl rfl ?_
                                          exact ⟨fun b_ => (fun x_ => if x_ < m then x_ else 0) (c449 b_), rfl, E.leave B0 (fun x_ => if x_ < m then x_ else 0) (by intro x_ hx_; show (if x_ < m then x_ else 0) = x_; ((repeat' split) <;> omega)), (fun b_ hb_ => by show (if (c449 b_) < m then (c449 b_) else 0) < m; ((repeat' split) <;> omega))⟩
                                        · have H := (if_neg hb459).symm.trans H
                                          refine q_no F rfl (by decide) rfl (decide_eq_false hb459) (by decide) fun a F => ?_
                                          refine q_no F rfl (by decide) rfl (decide_eq_false hb459) (by decide) fun a F => ?_
                                          refine q_val F rfl rfl (by decide) (r_pick_f F rfl (decide_eq_false hb459) rfl) fun a F => ?_
                                          refine q_val F rfl rfl (by decide) (r_assign F rfl) fun a F => ?_
                                          refine nil ?_
                                          refine hK398 _ _ ?_
                                          refine wp_ret ?_
                                          have H := Option.some.inj H
                                          subst H
                                          refine out1 F rfl rfl ?_
                                          exact ⟨fun b_ => (fun x_ => if x_ < m then x_ else 0) (c449 b_), rfl, E.leave B0 (fun x_ => if x_ < m then x_ else 0) (by intro x_ hx_; show (if x_ < m then x_ else 0) = x_; ((repeat' split) <;> omega)), (fun b_ hb_ => by show (if (c449 b_) < m then (c449 b_) else 0) < m; ((repeat' split) <;> omega))⟩
                                      · have H := (if_neg hb458).symm.trans H
                                        refine q_no F rfl (by decide) rfl (decide_eq_false hb458) (by decide) fun a F => ?_
                                        refine q_no F rfl (by decide) rfl (decide_eq_false hb458) (by decide) fun a F => ?_
                                        refine q_val F rfl rfl (by decide) (r_pick_f F rfl (decide_eq_false hb458) rfl) fun a F => ?_
                                        refine q_val F rfl rfl (by decide) (r_move F rfl) fun a F => ?_
                                        refine q_no F rfl (by decide) rfl rfl (by decide) fun a F => ?_
                                        refine q_no F rfl (by decide) rfl rfl (by decide) fun a F => ?_
                                        refine q_val F rfl rfl (by decide) (r_pick_f F rfl rfl rfl) fun a F => ?_
                                        refine q_val F rfl rfl (by decide) (r_assign F rfl) fun a F => ?_
                                        refine nil ?_
                                        refine hK398 _ _ ?_
                                        refine wp_ret ?_
                                        have H := Option.some.inj H
                                        subst H
                                        refine out1 F rfl rfl ?_
                                        exact ⟨fun b_ => (fun x_ => if x_ < m then x_ else 0) (c449 b_), rfl, E.leave B0 (fun x_ => if x_ < m then x_ else 0) (by intro x_ hx_; show (if x_ < m then x_ else 0) = x_; ((repeat' split) <;> omega)), (fun b_ hb_ => by show (if (c449 b_) < m then (c449 b_) else 0) < m; ((repeat' split) <;> omega))⟩
                                    · have H := (if_neg hb457).symm.trans H
                                      refine q_no F rfl (by decide) rfl (decide_eq_false hb457) (by decide) fun a F => ?_
                                      refine q_no F rfl (by decide) rfl (decide_eq_false hb457) (by decide) fun a F => ?_
                                      refine q_val F rfl rfl (by decide) (r_pick_f F rfl (decide_eq_false hb457) rfl) fun a F => ?_
                                      refine q_val F rfl rfl (by decide) (r_move F rfl) fun a F => ?_
                                      refine q_no F rfl (by decide) rfl rfl (by decide) fun a F => ?_
                                      refine q_no F rfl (by decide) rfl rfl (by decide) fun a F => ?_
                                      refine q_val F rfl rfl (by decide) (r_pick_f F rfl rfl rfl) fun a F => ?_
                                      refine q_val F rfl rfl (by decide) (r_move F rfl) fun a F => ?_
                                      refine q_no F rfl (by decide) rfl rfl (by decide) fun a F => ?_
                                      refine q_no F rfl (by decide) rfl rfl (by decide) fun a F => ?_
                                      refine q_val F rfl rfl (by decide) (r_pick_f F rfl rfl rfl) fun a F => ?_
                                      refine q_val F rfl rfl (by decide) (r_assign F rfl) fun a F => ?_
                                      refine nil ?_
                                      refine hK398 _ _ ?_
                                      refine wp_ret ?_
                                      have H := Option.some.inj H
                                      subst H
                                      refine out1 F rfl rfl ?_
                                      exact ⟨fun b_ => (fun x_ => if x_ < m then x_ else 0) (c449 b_), rfl, E.leave B0 (fun x_ => if x_ < m then x_ else 0) (by intro x_ hx_; show (if x_ < m then x_ else 0) = x_; ((repeat' split) <;> omega)), (fun b_ hb_ => by show (if (c449 b_) < m then (c449 b_) else 0) < m; ((repeat' split) <;> omega))⟩
                                  · have H := (if_neg hb446).symm.trans H
                                    refine q_no F rfl (by decide) rfl (decide_eq_false hb446) (by decide) fun a F => ?_
                                    refine q_no F rfl (by decide) rfl (decide_eq_false hb446) (by decide) fun a F => ?_
                                    refine q_no F rfl (by decide) rfl (decide_eq_false hb446) (by decide) fun a F => ?_
                                    refine q_no F rfl (by decide) rfl (decide_eq_false hb446) (by decide) fun a F => ?_
                                    refine q_val F rfl rfl (by decide) (r_pick_f F rfl (decide_eq_false hb446) rfl) fun a F => ?_
                                    refine q_val F rfl rfl (by decide) (r_move F rfl) fun a F => ?_
                                    refine q_no F rfl (by decide) rfl rfl (by decide) fun a F => ?_
                                    refine q_no F rfl (by decide) rfl rfl (by decide) fun a F => ?_
                                    refine q_val F rfl rfl (by decide) (r_pick_f F rfl rfl rfl) fun a F => ?_
                                    refine q_val F rfl rfl (by decide) (r_move F rfl) fun a F => ?_
                                    refine q_no F rfl (by decide) rfl rfl (by decide) fun a F => ?_
                                    refine q_no F rfl (by decide) rfl rfl (by decide) fun a F => ?_
                                    refine q_val F rfl rfl (by decide) (r_pick_f F rfl rfl rfl) fun a F => ?_
                                    refine q_val F rfl rfl (by decide) (r_move F rfl) fun a F => ?_
                                    refine q_no F rfl (by decide) rfl rfl (by decide) fun a F => ?_
                                    refine q_no F rfl (by decide) rfl rfl (by decide) fun a F => ?_
                                    refine q_val F rfl rfl (by decide) (r_pick_f F rfl rfl rfl) fun a F => ?_
                                    refine q_val F rfl rfl (by decide) (r_assign F rfl) fun a F => ?_
                                    refine nil ?_
                                    refine hK398 _ _ ?_
                                    refine wp_ret ?_
                                    have H := Option.some.inj H
                                    subst H
                                    refine out1 F rfl rfl ?_
                                    exact ⟨fun b_ => (fun x_ => if x_ < m then x_ else 0) (c438 b_), rfl, E.leave B0 (fun x_ => if x_ < m then x_ else 0) (by intro x_ hx_; show (if x_ < m then x_ else 0) = x_; ((repeat' split) <;> omega)), (fun b_ hb_ => by show (if (c438 b_) < m then (c438 b_) else 0) < m; ((repeat' split) <;> omega))⟩
                            · have H := (if_neg hb417).symm.trans H
                              refine q_no F rfl (by decide) rfl (decide_eq_false hb417) (by decide) fun a F => ?_
                              refine q_no F rfl (by decide) rfl (decide_eq_false hb417) (by decide) fun a F => ?_
                              refine q_no F rfl (by decide) rfl (decide_eq_false hb417) (by decide) fun a F => ?_
                              refine q_val F rfl rfl (by decide) (r_pick_f F rfl (decide_eq_false hb417) rfl) fun a F => ?_
                              refine q_val F rfl rfl (by decide) (r_move F rfl) fun a F => ?_
                              refine q_no F rfl (by decide) rfl rfl (by decide) fun a F => ?_
                              refine q_no F rfl (by decide) rfl rfl (by decide) fun a F => ?_
                              refine q_no F rfl (by decide) rfl rfl (by decide) fun a F => ?_
                              refine q_val F rfl rfl (by decide) (r_pick_f F rfl rfl rfl) fun a F => ?_
                              refine q_val F rfl rfl (by decide) (r_move F rfl) fun a F => ?_
                              refine q_no F rfl (by decide) rfl rfl (by decide) fun a F => ?_
                              refine q_no F rfl (by decide) rfl rfl (by decide) fun a F => ?_
                              refine q_no F rfl (by decide) rfl rfl (by decide) fun a F => ?_
                              refine q_no F rfl (by decide) rfl rfl (by decide) fun a F => ?_
                              refine q_val F rfl rfl (by decide) (r_pick_f F rfl rfl rfl) fun a F => ?_
                              refine q_val F rfl rfl (by decide) (r_move F rfl) fun a F => ?_
                              refine q_no F rfl (by decide) rfl rfl (by decide) fun a F => ?_
                              refine q_no F rfl (by decide) rfl rfl (by decide) fun a F => ?_
                              refine q_no F rfl (by decide) rfl rfl (by decide) fun a F => ?_
                              refine q_no F rfl (by decide) rfl rfl (by decide) fun a F => ?_
                              refine q_val F rfl rfl (by decide) (r_pick_f F rfl rfl rfl) fun a F => ?_
                              refine q_val F rfl rfl (by decide) (r_move F rfl) fun a F => ?_
                              refine q_no F rfl (by decide) rfl rfl (by decide) fun a F => ?_
                              refine q_no F rfl (by decide) rfl rfl (by decide) fun a F => ?_
                              refine q_val F rfl rfl (by decide) (r_pick_f F rfl rfl rfl) fun a F => ?_
                              refine q_val F rfl rfl (by decide) (r_move F rfl) fun a F => ?_
                              refine q_no F rfl (by decide) rfl rfl (by decide) fun a F => ?_
                              refine q_no F rfl (by decide) rfl rfl (by decide) fun a F => ?_
                              refine q_val F rfl rfl (by decide) (r_pick_f F rfl rfl rfl) fun a F => ?_
                              refine q_val F rfl rfl (by decide) (r_move F rfl) fun a F => ?_
                              refine q_no F rfl (by decide) rfl rfl (by decide) fun a F => ?_
                              refine q_no F rfl (by decide) rfl rfl (by decide) fun a F => ?_
                              refine q_val F rfl rfl (by decide) (r_pick_f F rfl rfl rfl) fun a F => ?_
                              refine q_val F rfl rfl (by decide) (r_assign F rfl) fun a F => ?_
                              refine nil ?_
                              refine hK398 _ _ ?_
                              refine wp_ret ?_
                              have H := Option.some.inj H
                              subst H
                              refine out1 F rfl rfl ?_
                              exact ⟨fun b_ => (fun x_ => if x_ < m then x_ else 0) (c412 b_), rfl, E.leave B0 (fun x_ => if x_ < m then x_ else 0) (by intro x_ hx_; show (if x_ < m then x_ else 0) = x_; ((repeat' split) <;> omega)), (fun b_ hb_ => by show (if (c412 b_) < m then (c412 b_) else 0) < m; ((repeat' split) <;> omega))⟩
                          · have H := (if_neg hb409).symm.trans H
                            refine q_no F rfl (by decide) rfl (decide_eq_false hb409) (by decide) fun a F => ?_
                            refine q_no F rfl (by decide) rfl (decide_eq_false hb409) (by decide) fun a F => ?_
                            refine q_no F rfl (by decide) rfl (decide_eq_false hb409) (by decide) fun a F => ?_
                            refine q_val F rfl rfl (by decide) (r_pick_f F rfl (decide_eq_false hb409) rfl) fun a F => ?_
                            refine q_val F rfl rfl (by decide) (r_move F rfl) fun a F => ?_
                            refine q_no F rfl (by decide) rfl rfl (by decide) fun a F => ?_
                            refine q_no F rfl (by decide) rfl rfl (by decide) fun a F => ?_
                            refine q_no F rfl (by decide) rfl rfl (by decide) fun a F => ?_
                            refine q_val F rfl rfl (by decide) (r_pick_f F rfl rfl rfl) fun a F => ?_
                            refine q_val F rfl rfl (by decide) (r_move F rfl) fun a F => ?_
                            refine q_no F rfl (by decide) rfl rfl (by decide) fun a F => ?_
                            refine q_no F rfl (by decide) rfl rfl (by decide) fun a F => ?_
                            refine q_no F rfl (by decide) rfl rfl (by decide) fun a F => ?_
                            refine q_val F rfl rfl (by decide) (r_pick_f F rfl rfl rfl) fun a F => ?_
                            refine q_val F rfl rfl (by decide) (r_move F rfl) fun a F => ?_
                            refine q_no F rfl (by decide) rfl rfl (by decide) fun a F => ?_
                            refine q_no F rfl (by decide) rfl rfl (by decide) fun a F => ?_
                            refine q_no F rfl (by decide) rfl rfl (by decide) fun a F => ?_
                            refine q_no F rfl (by decide) rfl rfl (by decide) fun a F => ?_
                            refine q_val F rfl rfl (by decide) (r_pick_f F rfl rfl rfl) fun a F => ?_
                            refine q_val F rfl rfl (by decide) (r_move F rfl) fun a F => ?_
                            refine q_no F rfl (by decide) rfl rfl (by decide) fun a F => ?_
                            refine q_no F rfl (by decide) rfl rfl (by decide) fun a F => ?_
                            refine q_no F rfl (by decide) rfl rfl (by decide) fun a F => ?_
                            refine q_no F rfl (by decide) rfl rfl (by decide) fun a F => ?_
                            refine q_val F rfl rfl (by decide) (r_pick_f F rfl rfl rfl) fun a F => ?_
                            refine q_val F rfl rfl (by decide) (r_move F rfl) fun a F => ?_
                            refine q_no F rfl (by decide) rfl rfl (by decide) fun a F => ?_
                            refine q_no F rfl (by decide) rfl rfl (by decide) fun a F => ?_
                            refine q_val F rfl rfl (by decide) (r_pick_f F rfl rfl rfl) fun a F => ?_
                            refine q_val F rfl rfl (by decide) (r_move F rfl) fun a F => ?_
                            refine q_no F rfl (by decide) rfl rfl (by decide) fun a F => ?_
                            refine q_no F rfl (by decide) rfl rfl (by decide) fun a F => ?_
                            refine q_val F rfl rfl (by decide) (r_pick_f F rfl rfl rfl) fun a F => ?_
                            refine q_val F rfl rfl (by decide) (r_move F rfl) fun a F => ?_
                            refine q_no F rfl (by decide) rfl rfl (by decide) fun a F => ?_
                            refine q_no F rfl (by decide) rfl rfl (by decide) fun a F => ?_
                            refine q_val F rfl rfl (by decide) (r_pick_f F rfl rfl rfl) fun a F => ?_
                            refine q_val F rfl rfl (by decide) (r_assign F rfl) fun a F => ?_
                            refine nil ?_
                            refine hK398 _ _ ?_
                            refine wp_ret ?_
                            have H := Option.some.inj H
                            subst H
                            refine out1 F rfl rfl ?_
                            exact ⟨fun b_ => (fun x_ => if x_ < m then x_ else 0) (c404 b_), rfl, E.leave B0 (fun x_ => if x_ < m then x_ else 0) (by intro x_ hx_; show (if x_ < m then x_ else 0) = x_; ((repeat' split) <;> omega)), (fun b_ hb_ => by show (if (c404 b_) < m then (c404 b_) else 0) < m; ((repeat' split) <;> omega))⟩
                        · have H := (if_neg hb401).symm.trans H
                          refine q_no F rfl (by decide) rfl (decide_eq_false hb401) (by decide) fun a F => ?_
                          refine q_no F rfl (by decide) rfl (decide_eq_false hb401) (by decide) fun a F => ?_
                          refine q_no F rfl (by decide) rfl (decide_eq_false hb401) (by decide) fun a F => ?_
                          refine q_val F rfl rfl (by decide) (r_pick_f F rfl (decide_eq_false hb401) rfl) fun a F => ?_
                          refine q_val F rfl rfl (by decide) (r_move F rfl) fun a F => ?_
                          refine q_no F rfl (by decide) rfl rfl (by decide) fun a F => ?_
                          refine q_no F rfl (by decide) rfl rfl (by decide) fun a F => ?_
                          refine q_no F rfl (by decide) rfl rfl (by decide) fun a F => ?_
                          refine q_val F rfl rfl (by decide) (r_pick_f F rfl rfl rfl) fun a F => ?_
                          refine q_val F rfl rfl (by decide) (r_move F rfl) fun a F => ?_
                          refine q_no F rfl (by decide) rfl rfl (by decide) fun a F => ?_
                          refine q_no F rfl (by decide) rfl rfl (by decide) fun a F => ?_
                          refine q_no F rfl (by decide) rfl rfl (by decide) fun a F => ?_
                          refine q_val F rfl rfl (by decide) (r_pick_f F rfl rfl rfl) fun a F => ?_
                          refine q_val F rfl rfl (by decide) (r_move F rfl) fun a F => ?_
                          refine q_no F rfl (by decide) rfl rfl (by decide) fun a F => ?_
                          refine q_no F rfl (by decide) rfl rfl (by decide) fun a F => ?_
                          refine q_no F rfl (by decide) rfl rfl (by decide) fun a F => ?_
                          refine q_val F rfl rfl (by decide) (r_pick_f F rfl rfl rfl) fun a F => ?_
                          refine q_val F rfl rfl (by decide) (r_move F rfl) fun a F => ?_
                          refine q_no F rfl (by decide) rfl rfl (by decide) fun a F => ?_
                          refine q_no F rfl (by decide) rfl rfl (by decide) fun a F => ?_
                          refine q_no F rfl (by decide) rfl rfl (by decide) fun a F => ?_
                          refine q_no F rfl (by decide) rfl rfl (by decide) fun a F => ?_
                          refine q_val F rfl rfl (by decide) (r_pick_f F rfl rfl rfl) fun a F => ?_
                          refine q_val F rfl rfl (by decide) (r_move F rfl) fun a F => ?_
                          refine q_no F rfl (by decide) rfl rfl (by decide) fun a F => ?_
                          refine q_no F rfl (by decide) rfl rfl (by decide) fun a F => ?_
                          refine q_no F rfl (by decide) rfl rfl (by decide) fun a F => ?_
                          refine q_no F rfl (by decide) rfl rfl (by decide) fun a F => ?_
                          refine q_val F rfl rfl (by decide) (r_pick_f F rfl rfl rfl) fun a F => ?_
                          refine q_val F rfl rfl (by decide) (r_move F rfl) fun a F => ?_
                          refine q_no F rfl (by decide) rfl rfl (by decide) fun a F => ?_
                          refine q_no F rfl (by decide) rfl rfl (by decide) fun a F => ?_
                          refine q_val F rfl rfl (by decide) (r_pick_f F rfl rfl rfl) fun a F => ?_
                          refine q_val F rfl rfl (by decide) (r_move F rfl) fun a F => ?_
                          refine q_no F rfl (by decide) rfl rfl (by decide) fun a F => ?_
                          refine q_no F rfl (by decide) rfl rfl (by decide) fun a F => ?_
                          refine q_val F rfl rfl (by decide) (r_pick_f F rfl rfl rfl) fun a F => ?_
                          refine q_val F rfl rfl (by decide) (r_move F rfl) fun a F => ?_
                          refine q_no F rfl (by decide) rfl rfl (by decide) fun a F => ?_
                          refine q_no F rfl (by decide) rfl rfl (by decide) fun a F => ?_
                          refine q_val F rfl rfl (by decide) (r_pick_f F rfl rfl rfl) fun a F => ?_
                          refine q_val F rfl rfl (by decide) (r_assign F rfl) fun a F => ?_
                          refine nil ?_
                          refine hK398 _ _ ?_
                          refine wp_ret ?_
                          have H := Option.some.inj H
                          subst H
                          refine out1 F rfl rfl ?_
                          exact ⟨fun b_ => (fun x_ => if x_ < m then x_ else 0) (c393 b_), rfl, E.leave B0 (fun x_ => if x_ < m then x_ else 0) (by intro x_ hx_; show (if x_ < m then x_ else 0) = x_; ((repeat' split) <;> omega)), (fun b_ hb_ => by show (if (c393 b_) < m then (c393 b_) else 0) < m; ((repeat' split) <;> omega))⟩
                      · have H := (if_neg hb400).symm.trans H
                        refine q_no F rfl (by decide) rfl (decide_eq_false hb400) (by decide) fun a F => ?_
                        refine q_no F rfl (by decide) rfl (decide_eq_false hb400) (by decide) fun a F => ?_
                        refine q_val F rfl rfl (by decide) (r_pick_f F rfl (decide_eq_false hb400) rfl) fun a F => ?_
                        refine q_val F rfl rfl (by decide) (r_move F rfl) fun a F => ?_
                        refine q_no F rfl (by decide) rfl rfl (by decide) fun a F => ?_
                        refine q_no F rfl (by decide) rfl rfl (by decide) fun a F => ?_
                        refine q_no F rfl (by decide) rfl rfl (by decide) fun a F => ?_
                        refine q_val F rfl rfl (by decide) (r_pick_f F rfl rfl rfl) fun a F => ?_
                        refine q_val F rfl rfl (by decide) (r_move F rfl) fun a F => ?_
                        refine q_no F rfl (by decide) rfl rfl (by decide) fun a F => ?_
                        refine q_no F rfl (by decide) rfl rfl (by decide) fun a F => ?_
                        refine q_no F rfl (by decide) rfl rfl (by decide) fun a F => ?_
                        refine q_val F rfl rfl (by decide) (r_pick_f F rfl rfl rfl) fun a F => ?_
                        refine q_val F rfl rfl (by decide) (r_move F rfl) fun a F => ?_
                        refine q_no F rfl (by decide) rfl rfl (by decide) fun a F => ?_
                        refine q_no F rfl (by decide) rfl rfl (by decide) fun a F => ?_
                        refine q_no F rfl (by decide) rfl rfl (by decide) fun a F => ?_
                        refine q_val F rfl rfl (by decide) (r_pick_f F rfl rfl rfl) fun a F => ?_
                        refine q_val F rfl rfl (by decide) (r_move F rfl) fun a F => ?_
                        refine q_no F rfl (by decide) rfl rfl (by decide) fun a F => ?_
                        refine q_no F rfl (by decide) rfl rfl (by decide) fun a F => ?_
                        refine q_no F rfl (by decide) rfl rfl (by decide) fun a F => ?_
                        refine q_val F rfl rfl (by decide) (r_pick_f F rfl rfl rfl) fun a F => ?_
                        refine q_val F rfl rfl (by decide) (r_move F rfl) fun a F => ?_
                        refine q_no F rfl (by decide) rfl rfl (by decide) fun a F => ?_
                        refine q_no F rfl (by decide) rfl rfl (by decide) fun a F => ?_
                        refine q_no F rfl (by decide) rfl rfl (by decide) fun a F => ?_
                        refine q_no F rfl (by decide) rfl rfl (by decide) fun a F => ?_
                        refine q_val F rfl rfl (by decide) (r_pick_f F rfl rfl rfl) fun a F => ?_
                        refine q_val F rfl rfl (by decide) (r_move F rfl) fun a F => ?_
                        refine q_no F rfl (by decide) rfl rfl (by decide) fun a F => ?_
                        refine q_no F rfl (by decide) rfl rfl (by decide) fun a F => ?_
                        refine q_no F rfl (by decide) rfl rfl (by decide) fun a F => ?_
                        refine q_no F rfl (by decide) rfl rfl (by decide) fun a F => ?_
                        refine q_val F rfl rfl (by decide) (r_pick_f F rfl rfl rfl) fun a F => ?_
                        refine q_val F rfl rfl (by decide) (r_move F rfl) fun a F => ?_
                        refine q_no F rfl (by decide) rfl rfl (by decide) fun a F => ?_
                        refine q_no F rfl (by decide) rfl rfl (by decide) fun a F => ?_
                        refine q_val F rfl rfl (by decide) (r_pick_f F rfl rfl rfl) fun a F => ?_
                        refine q_val F rfl rfl (by decide) (r_move F rfl) fun a F => ?_
                        refine q_no F rfl (by decide) rfl rfl (by decide) fun a F => ?_
                        refine q_no F rfl (by decide) rfl rfl (by decide) fun a F => ?_
                        refine q_val F rfl rfl (by decide) (r_pick_f F rfl rfl rfl) fun a F => ?_
                        refine q_val F rfl rfl (by decide) (r_move F rfl) fun a F => ?_
                        refine q_no F rfl (by decide) rfl rfl (by decide) fun a F => ?_
                        refine q_no F rfl (by decide) rfl rfl (by decide) fun a F => ?_
                        refine q_val F rfl rfl (by decide) (r_pick_f F rfl rfl rfl) fun a F => ?_
                        refine q_val F rfl rfl (by decide) (r_assign F rfl) fun a F => ?_
                        refine nil ?_
                        refine hK398 _ _ ?_
                        refine wp_ret ?_
                        have H := Option.some.inj H
                        subst H
                        refine out1 F rfl rfl ?_
                        exact ⟨fun b_ => (fun x_ => if x_ < m then x_ else 0) (c393 b_), rfl, E.leave B0 (fun x_ => if x_ < m then x_ else 0) (by intro x_ hx_; show (if x_ < m then x_ else 0) = x_; ((repeat' split) <;> omega)), (fun b_ hb_ => by show (if (c393 b_) < m then (c393 b_) else 0) < m; ((repeat' split) <;> omega))⟩
                    · have H := (if_neg hb399).symm.trans H
                      refine q_no F rfl (by decide) rfl (decide_eq_false hb399) (by decide) fun a F => ?_
                      refine q_no F rfl (by decide) rfl (decide_eq_false hb399) (by decide) fun a F => ?_
                      refine q_val F rfl rfl (by decide) (r_pick_f F rfl (decide_eq_false hb399) rfl) fun a F => ?_
                      refine q_val F rfl rfl (by decide) (r_move F rfl) fun a F => ?_
                      refine q_no F rfl (by decide) rfl rfl (by decide) fun a F => ?_
                      refine q_no F rfl (by decide) rfl rfl (by decide) fun a F => ?_
                      refine q_val F rfl rfl (by decide) (r_pick_f F rfl rfl rfl) fun a F => ?_
                      refine q_val F rfl rfl (by decide) (r_move F rfl) fun a F => ?_
                      refine q_no F rfl (by decide) rfl rfl (by decide) fun a F => ?_
                      refine q_no F rfl (by decide) rfl rfl (by decide) fun a F => ?_
                      refine q_no F rfl (by decide) rfl rfl (by decide) fun a F => ?_
                      refine q_val F rfl rfl (by decide) (r_pick_f F rfl rfl rfl) fun a F => ?_
                      refine q_val F rfl rfl (by decide) (r_move F rfl) fun a F => ?_
                      refine q_no F rfl (by decide) rfl rfl (by decide) fun a F => ?_
                      refine q_no F rfl (by decide) rfl rfl (by decide) fun a F => ?_
                      refine q_no F rfl (by decide) rfl rfl (by decide) fun a F => ?_
                      refine q_val F rfl rfl (by decide) (r_pick_f F rfl rfl rfl) fun a F => ?_
                      refine q_val F rfl rfl (by decide) (r_move F rfl) fun a F => ?_
                      refine q_no F rfl (by decide) rfl rfl (by decide) fun a F => ?_
                      refine q_no F rfl (by decide) rfl rfl (by decide) fun a F => ?_
                      refine q_no F rfl (by decide) rfl rfl (by decide) fun a F => ?_
                      refine q_val F rfl rfl (by decide) (r_pick_f F rfl rfl rfl) fun a F => ?_
                      refine q_val F rfl rfl (by decide) (r_move F rfl) fun a F => ?_
                      refine q_no F rfl (by decide) rfl rfl (by decide) fun a F => ?_
                      refine q_no F rfl (by decide) rfl rfl (by decide) fun a F => ?_
                      refine q_no F rfl (by decide) rfl rfl (by decide) fun a F => ?_
                      refine q_val F rfl rfl (by decide) (r_pick_f F rfl rfl rfl) fun a F => ?_
                      refine q_val F rfl rfl (by decide) (r_move F rfl) fun a F => ?_
                      refine q_no F rfl (by decide) rfl rfl (by decide) fun a F => ?_
                      refine q_no F rfl (by decide) rfl rfl (by decide) fun a F => ?_
                      refine q_no F rfl (by decide) rfl rfl (by decide) fun a F => ?_
                      refine q_no F rfl (by decide) rfl rfl (by decide) fun a F => ?_
                      refine q_val F rfl rfl (by decide) (r_pick_f F rfl rfl rfl) fun a F => ?_
                      refine q_val F rfl rfl (by decide) (r_move F rfl) fun a F => ?_
                      refine q_no F rfl (by decide) rfl rfl (by decide) fun a F => ?_
                      refine q_no F rfl (by decide) rfl rfl (by decide) fun a F => ?_
                      refine q_no F rfl (by decide) rfl rfl (by decide) fun a F => ?_
                      refine q_no F rfl (by decide) rfl rfl (by decide) fun a F => ?_
                      refine q_val F rfl rfl (by decide) (r_pick_f F rfl rfl rfl) fun a F => ?_
                      refine q_val F rfl rfl (by decide) (r_move F rfl) fun a F => ?_
                      refine q_no F rfl (by decide) rfl rfl (by decide) fun a F => ?_
                      refine q_no F rfl (by decide) rfl rfl (by decide) fun a F => ?_
                      refine q_val F rfl rfl (by decide) (r_pick_f F rfl rfl rfl) fun a F => ?_
                      refine q_val F rfl rfl (by decide) (r_move F rfl) fun a F => ?_
                      refine q_no F rfl (by decide) rfl rfl (by decide) fun a F => ?_
                      refine q_no F rfl (by decide) rfl rfl (by decide) fun a F => ?_
                      refine q_val F rfl rfl (by decide) (r_pick_f F rfl rfl rfl) fun a F => ?_
                      refine q_val F rfl rfl (by decide) (r_move F rfl) fun a F => ?_
                      refine q_no F rfl (by decide) rfl rfl (by decide) fun a F => ?_
                      refine q_no F rfl (by decide) rfl rfl (by decide) fun a F => ?_
                      refine q_val F rfl rfl (by decide) (r_pick_f F rfl rfl rfl) fun a F => ?_
                      refine q_val F rfl rfl (by decide) (r_assign F rfl) fun a F => ?_
                      refine nil ?_
                      refine hK398 _ _ ?_
                      refine wp_ret ?_
                      have H := Option.some.inj H
                      subst H
                      refine out1 F rfl rfl ?_
                      exact ⟨fun b_ => (fun x_ => if x_ < m then x_ else 0) (c393 b_), rfl, E.leave B0 (fun x_ => if x_ < m then x_ else 0) (by intro x_ hx_; show (if x_ < m then x_ else 0) = x_; ((repeat' split) <;> omega)), (fun b_ hb_ => by show (if (c393 b_) < m then (c393 b_) else 0) < m; ((repeat' split) <;> omega))⟩
                refine reg ?_
                refine q_val F rfl rfl (by decide) (r_move F rfl) fun a F => ?_
                obtain ⟨t301, q302, H⟩ := bind_some H
                refine q_call F rfl rfl (by decide) (r_call F Try.func16 rfl (by kernel_rfl) rfl) (route_Route_Trail.calls (m := m + 5) (by omega) B h297 (by omega) 0 (by omega) _ q302) ?_
                rintro e w304 ⟨c303, A307, C308, rfl, E305, B306, h309⟩
                refine ⟨_, rfl, fun a F => ?_⟩
                have B := B306
                have h272 := SL.ev h272 E305 (fun q => q.elim) (fun q => q.elim)
                have h279 := SL.ev h279 E305 (fun q => q.elim) (fun q => q.elim)
                have h297 := RU.ev h297 E305 (fun q => q.elim) (fun q => q.elim)
                have E := E.trans E305 (fun x q => q.elim)
                refine q_eff F rfl rfl (by decide) (e_buildSlice (n := 3) (e := 3) (c := c303) (k := (Kint .i64)) (i := 0) F [(0, .int .i64 1), (1, .int .i64 0), (2, .int .i64 1)] [.int .i64 1, .int .i64 0, .int .i64 1] ([1, 0, 1] : List Int) (by exact ⟨rfl, rfl, rfl, rfl, rfl, rfl, trivial⟩) (fun w => by kernel_rfl) rfl (by decide) rfl ⟨rfl, rfl, rfl, trivial⟩ (fun q => q) 0) ?_
                rintro v w312 a ⟨c311, A313, C314, rfl, E315, h316, B317⟩ F
                have B := B317 _ B (by omega)
                have h272 := SL.ev h272 E315 (fun q => q.elim) (fun q => q.elim)
                have h279 := SL.ev h279 E315 (fun q => q.elim) (fun q => q.elim)
                have h297 := RU.ev h297 E315 (fun q => q.elim) (fun q => q.elim)
                have h309 := SL.ev h309 E315 (fun q => q.elim) (fun q => q.elim)
                have E := E.trans E315 (fun x q => q.elim)
                obtain ⟨t318, q319, H⟩ := bind_some H
                refine q_call F rfl rfl (by decide) (r_call F Try.func15 rfl (by kernel_rfl) rfl) (haulagelaw23_ints.calls k (m := m + 5) (by omega) B h309.r h316.r _ q319) ?_
                rintro e w321 ⟨c320, rfl, E322, B323⟩
                refine ⟨_, rfl, fun a F => ?_⟩
                have B := B323
                have h272 := SL.ev h272 E322 (fun q => q.elim) (fun q => q.elim)
                have h279 := SL.ev h279 E322 (fun q => q.elim) (fun q => q.elim)
                have h297 := RU.ev h297 E322 (fun q => q.elim) (fun q => q.elim)
                have h309 := SL.ev h309 E322 (fun q => q.elim) (fun q => q.elim)
                have h316 := SL.ev h316 E322 (fun q => q.elim) (fun q => q.elim)
                have E := E.trans E322 (fun x q => q.elim)
                refine q_val F rfl rfl (by decide) (r_not F rfl) fun a F => ?_
                refine q_val F rfl rfl (by decide) (r_move F rfl) fun a F => ?_
                by_cases hb325 : t318 = true
                · have H := (if_pos hb325).symm.trans H
                  refine q_yes F rfl (by decide) rfl (congrArg not hb325) ?_
                  refine q_val F rfl rfl (by decide) (r_move F rfl) fun a F => ?_
                  obtain ⟨t326, q327, H⟩ := bind_some H
                  refine q_yes F rfl (by decide) rfl (congrArg not hb325) ?_
                  refine q_call F rfl rfl (by decide) (r_call F Try.func13 rfl (by kernel_rfl) rfl) (route_Route_Hint.calls (m := m + 5) (by omega) B h297 (by omega) _ q327) ?_
                  rintro e w329 ⟨c328, rfl, E330, B331, h332⟩
                  refine ⟨_, rfl, fun a F => ?_⟩
                  have B := B331
                  have h272 := SL.ev h272 E330 (by show ¬ (0 = m + 4); omega) (by show ¬ (0 = m + 4); omega)
                  have h279 := SL.ev h279 E330 (by show ¬ (0 = m + 4); omega) (by show ¬ (0 = m + 4); omega)
                  have h309 := SL.ev h309 E330 (by show ¬ (0 = m + 4); omega) (by show ¬ (0 = m + 4); omega)
                  have h316 := SL.ev h316 E330 (by show ¬ (0 = m + 4); omega) (by show ¬ (0 = m + 4); omega)
                  have E := E.trans E330 (fun x q => by replace q : x = m + 4 := q; show False ∨ m ≤ x; omega)
                  refine q_val F rfl rfl (by decide) (r_pick_f F rfl (congrArg not hb325) rfl) fun a F => ?_
                  refine q_val F rfl rfl (by decide) (r_move F rfl) fun a F => ?_
                  by_cases hb334 : t326.1 = true
                  · have H := (if_pos hb334).symm.trans H
                    refine q_no F rfl (by decide) rfl hb334 (by decide) fun a F => ?_
                    refine q_no F rfl (by decide) rfl hb334 (by decide) fun a F => ?_
                    refine q_val F rfl rfl (by decide) (r_pick_t F rfl hb334 rfl) fun a F => ?_
                    refine q_val F rfl rfl (by decide) (r_move F rfl) fun a F => ?_
                    refine q_no F rfl (by decide) rfl rfl (by decide) fun a F => ?_
                    refine q_no F rfl (by decide) rfl rfl (by decide) fun a F => ?_
                    refine q_val F rfl rfl (by decide) (r_pick_t F rfl rfl rfl) fun a F => ?_
                    refine q_val F rfl rfl (by decide) (r_move F rfl) fun a F => ?_
                    refine q_no F rfl (by decide) rfl rfl (by decide) fun a F => ?_
                    refine q_no F rfl (by decide) rfl rfl (by decide) fun a F => ?_
                    refine q_no F rfl (by decide) rfl rfl (by decide) fun a F => ?_
                    refine q_val F rfl rfl (by decide) (r_pick_t F rfl rfl rfl) fun a F => ?_
                    refine q_val F rfl rfl (by decide) (r_move F rfl) fun a F => ?_
                    refine q_no F rfl (by decide) rfl rfl (by decide) fun a F => ?_
                    refine q_no F rfl (by decide) rfl rfl (by decide) fun a F => ?_
                    refine q_no F rfl (by decide) rfl rfl (by decide) fun a F => ?_
                    refine q_no F rfl (by decide) rfl rfl (by decide) fun a F => ?_
                    refine q_val F rfl rfl (by decide) (r_pick_t F rfl rfl rfl) fun a F => ?_
                    refine nil ?_
                    exact J376 c328 w329 a t326.2 true (F.sub ⟨rfl, rfl, trivial⟩) E B h332 H
                  · have H := (if_neg hb334).symm.trans H
                    refine q_yes F rfl (by decide) rfl (bfalse hb334) ?_
                    refine q_val F rfl rfl (by decide) (r_move F rfl) fun a F => ?_
                    obtain ⟨t335, q336, H⟩ := bind_some H
                    refine q_yes F rfl (by decide) rfl (bfalse hb334) ?_
                    refine q_call F rfl rfl (by decide) (r_call F Try.func13 rfl (by kernel_rfl) rfl) (route_Route_Hint.calls (m := m + 5) (by omega) B h332 (by omega) _ q336) ?_
                    rintro e w338 ⟨c337, rfl, E339, B340, h341⟩
                    refine ⟨_, rfl, fun a F => ?_⟩
                    have B := B340
                    have h272 := SL.ev h272 E339 (by show ¬ (0 = m + 4); omega) (by show ¬ (0 = m + 4); omega)
                    have h279 := SL.ev h279 E339 (by show ¬ (0 = m + 4); omega) (by show ¬ (0 = m + 4); omega)
                    have h309 := SL.ev h309 E339 (by show ¬ (0 = m + 4); omega) (by show ¬ (0 = m + 4); omega)
                    have h316 := SL.ev h316 E339 (by show ¬ (0 = m + 4); omega) (by show ¬ (0 = m + 4); omega)
                    have E := E.trans E339 (fun x q => by replace q : x = m + 4 := q; show False ∨ m ≤ x; omega)
                    refine q_val F rfl rfl (by decide) (r_pick_f F rfl (bfalse hb334) rfl) fun a F => ?_
                    refine q_val F rfl rfl (by decide) (r_move F rfl) fun a F => ?_
                    by_cases hb343 : t335.1 = true
                    · have H := (if_pos hb343).symm.trans H
                      refine q_no F rfl (by decide) rfl hb343 (by decide) fun a F => ?_
                      refine q_no F rfl (by decide) rfl hb343 (by decide) fun a F => ?_
                      refine q_val F rfl rfl (by decide) (r_pick_t F rfl hb343 rfl) fun a F => ?_
                      refine q_val F rfl rfl (by decide) (r_move F rfl) fun a F => ?_
                      refine q_no F rfl (by decide) rfl rfl (by decide) fun a F => ?_
                      refine q_no F rfl (by decide) rfl rfl (by decide) fun a F => ?_
                      refine q_no F rfl (by decide) rfl rfl (by decide) fun a F => ?_
                      refine q_val F rfl rfl (by decide) (r_pick_t F rfl rfl rfl) fun a F => ?_
                      refine q_val F rfl rfl (by decide) (r_move F rfl) fun a F => ?_
                      refine q_no F rfl (by decide) rfl rfl (by decide) fun a F => ?_
                      refine q_no F rfl (by decide) rfl rfl (by decide) fun a F => ?_
                      refine q_no F rfl (by decide) rfl rfl (by decide) fun a F => ?_
                      refine q_no F rfl (by decide) rfl rfl (by decide) fun a F => ?_
                      refine q_val F rfl rfl (by decide) (r_pick_t F rfl rfl rfl) fun a F => ?_
                      refine nil ?_
                      exact J376 c337 w338 a t335.2 true (F.sub ⟨rfl, rfl, trivial⟩) E B h341 H
                    · have H := (if_neg hb343).symm.trans H
                      refine q_yes F rfl (by decide) rfl (bfalse hb343) ?_
                      refine q_val F rfl rfl (by decide) (r_move F rfl) fun a F => ?_
                      obtain ⟨t344, q345, H⟩ := bind_some H
                      refine q_yes F rfl (by decide) rfl (bfalse hb343) ?_
                      refine q_call F rfl rfl (by decide) (r_call F Try.func12 rfl (by kernel_rfl) rfl) (route_Route_Fine.calls (m := m + 5) (by omega) B h341 (by omega) _ q345) ?_
                      rintro e w347 ⟨c346, rfl, E348, B349, h350⟩
                      refine ⟨_, rfl, fun a F => ?_⟩
                      have B := B349
                      have h272 := SL.ev h272 E348 (by show ¬ (0 = m + 4); omega) (by show ¬ (0 = m + 4); omega)
                      have h279 := SL.ev h279 E348 (by show ¬ (0 = m + 4); omega) (by show ¬ (0 = m + 4); omega)
                      have h309 := SL.ev h309 E348 (by show ¬ (0 = m + 4); omega) (by show ¬ (0 = m + 4); omega)
                      have h316 := SL.ev h316 E348 (by show ¬ (0 = m + 4); omega) (by show ¬ (0 = m + 4); omega)
                      have E := E.trans E348 (fun x q => by replace q : x = m + 4 := q; show False ∨ m ≤ x; omega)
                      refine q_val F rfl rfl (by decide) (r_pick_f F rfl (bfalse hb343) rfl) fun a F => ?_
                      refine q_val F rfl rfl (by decide) (r_move F rfl) fun a F => ?_
                      by_cases hb352 : t344.1 = true
                      · have H := (if_pos hb352).symm.trans H
                        refine q_no F rfl (by decide) rfl hb352 (by decide) fun a F => ?_
                        refine q_no F rfl (by decide) rfl hb352 (by decide) fun a F => ?_
                        refine q_no F rfl (by decide) rfl hb352 (by decide) fun a F => ?_
                        refine q_val F rfl rfl (by decide) (r_pick_t F rfl hb352 rfl) fun a F => ?_
                        refine q_val F rfl rfl (by decide) (r_move F rfl) fun a F => ?_
                        refine q_no F rfl (by decide) rfl rfl (by decide) fun a F => ?_
                        refine q_no F rfl (by decide) rfl rfl (by decide) fun a F => ?_
                        refine q_no F rfl (by decide) rfl rfl (by decide) fun a F => ?_
                        refine q_no F rfl (by decide) rfl rfl (by decide) fun a F => ?_
                        refine q_val F rfl rfl (by decide) (r_pick_t F rfl rfl rfl) fun a F => ?_
                        refine nil ?_
                        exact J376 c346 w347 a t344.2 true (F.sub ⟨rfl, rfl, trivial⟩) E B h350 H
                      · have H := (if_neg hb352).symm.trans H
                        refine q_yes F rfl (by decide) rfl (bfalse hb352) ?_
                        refine q_val F rfl rfl (by decide) (r_move F rfl) fun a F => ?_
                        obtain ⟨t353, q354, H⟩ := bind_some H
                        refine q_yes F rfl (by decide) rfl (bfalse hb352) ?_
                        refine q_call F rfl rfl (by decide) (r_call F Try.func12 rfl (by kernel_rfl) rfl) (route_Route_Fine.calls (m := m + 5) (by omega) B h350 (by omega) _ q354) ?_
                        rintro e w356 ⟨c355, rfl, E357, B358, h359⟩
                        refine ⟨_, rfl, fun a F => ?_⟩
                        have B := B358
                        have h272 := SL.ev h272 E357 (by show ¬ (0 = m + 4); omega) (by show ¬ (0 = m + 4); omega)
                        have h279 := SL.ev h279 E357 (by show ¬ (0 = m + 4); omega) (by show ¬ (0 = m + 4); omega)
                        have h309 := SL.ev h309 E357 (by show ¬ (0 = m + 4); omega) (by show ¬ (0 = m + 4); omega)
                        have h316 := SL.ev h316 E357 (by show ¬ (0 = m + 4); omega) (by show ¬ (0 = m + 4); omega)
                        have E := E.trans E357 (fun x q => by replace q : x = m + 4 := q; show False ∨ m ≤ x; omega)
                        refine q_yes F rfl (by decide) rfl (bfalse hb352) ?_
                        refine q_val F rfl rfl (by decide) (r_not F rfl) fun a F => ?_
                        refine q_val F rfl rfl (by decide) (r_pick_f F rfl (bfalse hb352) rfl) fun a F => ?_
                        refine q_val F rfl rfl (by decide) (r_move F rfl) fun a F => ?_
                        by_cases hb361 : t353.1 = true
                        · have H := (if_pos hb361).symm.trans H
                          refine q_yes F rfl (by decide) rfl (congrArg not hb361) ?_
                          refine q_val F rfl rfl (by decide) (r_move F rfl) fun a F => ?_
                          obtain ⟨t362, q363, H⟩ := bind_some H
                          refine q_yes F rfl (by decide) rfl (congrArg not hb361) ?_
                          refine q_call F rfl rfl (by decide) (r_call F Try.func16 rfl (by kernel_rfl) rfl) (route_Route_Trail.calls (m := m + 5) (by omega) B h359 (by omega) 0 (by omega) _ q363) ?_
                          rintro e w365 ⟨c364, A368, C369, rfl, E366, B367, h370⟩
                          refine ⟨_, rfl, fun a F => ?_⟩
                          have B := B367
                          have h272 := SL.ev h272 E366 (fun q => q.elim) (fun q => q.elim)
                          have h279 := SL.ev h279 E366 (fun q => q.elim) (fun q => q.elim)
                          have h309 := SL.ev h309 E366 (fun q => q.elim) (fun q => q.elim)
                          have h316 := SL.ev h316 E366 (fun q => q.elim) (fun q => q.elim)
                          have h359 := RU.ev h359 E366 (fun q => q.elim) (fun q => q.elim)
                          have E := E.trans E366 (fun x q => q.elim)
                          refine q_yes F rfl (by decide) rfl (congrArg not hb361) ?_
                          refine q_val F rfl rfl (by decide) (r_lensl F Try.underlying22 rfl) fun a F => ?_
                          refine q_yes F rfl (by decide) rfl (congrArg not hb361) ?_
                          refine q_val F rfl rfl (by decide) (r_neq F rfl rfl) fun a F => ?_
                          refine q_val F rfl rfl (by decide) (r_pick_f F rfl (congrArg not hb361) rfl) fun a F => ?_
                          refine nil ?_
                          exact J376 c364 w365 a t353.2 (!decide ((t362.length : Int) = 0)) (F.sub ⟨rfl, rfl, trivial⟩) E B h359 H
                        · have H := (if_neg hb361).symm.trans H
                          refine q_no F rfl (by decide) rfl (congrArg not (bfalse hb361)) (by decide) fun a F => ?_
                          refine q_no F rfl (by decide) rfl (congrArg not (bfalse hb361)) (by decide) fun a F => ?_
                          refine q_no F rfl (by decide) rfl (congrArg not (bfalse hb361)) (by decide) fun a F => ?_
                          refine q_no F rfl (by decide) rfl (congrArg not (bfalse hb361)) (by decide) fun a F => ?_
                          refine q_val F rfl rfl (by decide) (r_pick_t F rfl (congrArg not (bfalse hb361)) rfl) fun a F => ?_
                          refine nil ?_
                          exact J376 c355 w356 a t353.2 true (F.sub ⟨rfl, rfl, trivial⟩) E B h359 H
                · have H := (if_neg hb325).symm.trans H
                  refine q_no F rfl (by decide) rfl (congrArg not (bfalse hb325)) (by decide) fun a F => ?_
                  refine q_no F rfl (by decide) rfl (congrArg not (bfalse hb325)) (by decide) fun a F => ?_
                  refine q_val F rfl rfl (by decide) (r_pick_t F rfl (congrArg not (bfalse hb325)) rfl) fun a F => ?_
                  refine q_val F rfl rfl (by decide) (r_move F rfl) fun a F => ?_
                  refine q_no F rfl (by decide) rfl rfl (by decide) fun a F => ?_
                  refine q_no F rfl (by decide) rfl rfl (by decide) fun a F => ?_
                  refine q_val F rfl rfl (by decide) (r_pick_t F rfl rfl rfl) fun a F => ?_
                  refine q_val F rfl rfl (by decide) (r_move F rfl) fun a F => ?_
                  refine q_no F rfl (by decide) rfl rfl (by decide) fun a F => ?_
                  refine q_no F rfl (by decide) rfl rfl (by decide) fun a F => ?_
                  refine q_val F rfl rfl (by decide) (r_pick_t F rfl rfl rfl) fun a F => ?_
                  refine q_val F rfl rfl (by decide) (r_move F rfl) fun a F => ?_
                  refine q_no F rfl (by decide) rfl rfl (by decide) fun a F => ?_
                  refine q_no F rfl (by decide) rfl rfl (by decide) fun a F => ?_
                  refine q_no F rfl (by decide) rfl rfl (by decide) fun a F => ?_
                  refine q_val F rfl rfl (by decide) (r_pick_t F rfl rfl rfl) fun a F => ?_
                  refine q_val F rfl rfl (by decide) (r_move F rfl) fun a F => ?_
                  refine q_no F rfl (by decide) rfl rfl (by decide) fun a F => ?_
                  refine q_no F rfl (by decide) rfl rfl (by decide) fun a F => ?_
                  refine q_no F rfl (by decide) rfl rfl (by decide) fun a F => ?_
                  refine q_no F rfl (by decide) rfl rfl (by decide) fun a F => ?_
                  refine q_val F rfl rfl (by decide) (r_pick_t F rfl rfl rfl) fun a F => ?_
                  refine nil ?_
                  exact J376 c320 w321 a t291.2 true (F.sub ⟨rfl, rfl, trivial⟩) E B h297 H
              · have H := (if_neg hb288).symm.trans H
                refine wp_cond_true ((F.ev rfl).trans (congrArg Value.bool (congrArg not (bfalse hb288)))) ?_
                refine wp_seq_k fun K289 hK289 => ?_
                refine reg ?_
                refine q_val F rfl rfl (by decide) (r_assign F rfl) fun a F => ?_
                refine nil ?_
                refine hK289 _ _ ?_
                refine wp_ret ?_
                refine thenR ?_
                have H := Option.some.inj H
                subst H
                refine out1 F rfl rfl ?_
                exact ⟨fun b_ => (fun x_ => if x_ < m then x_ else 0) (c283 b_), rfl, E.leave B0 (fun x_ => if x_ < m then x_ else 0) (by intro x_ hx_; show (if x_ < m then x_ else 0) = x_; ((repeat' split) <;> omega)), (fun b_ hb_ => by show (if (c283 b_) < m then (c283 b_) else 0) < m; ((repeat' split) <;> omega))⟩
          refine reg ?_
          refine q_val F rfl rfl (by decide) (r_move F rfl) fun a F => ?_
          obtain ⟨t215, q216, H⟩ := bind_some H
          refine q_call F rfl rfl (by decide) (r_call F Try.func14 rfl (by kernel_rfl) rfl) (route_Route_Where.calls (m := m + 5) (by omega) B h211 (by omega) _ q216) ?_
          rintro e w218 ⟨c217, rfl, E219, B220⟩
          refine ⟨_, rfl, fun a F => ?_⟩
          have B := B220
          have h211 := RU.ev h211 E219 (fun q => q.elim) (fun q => q.elim)
          have E := E.trans E219 (fun x q => q.elim)
          refine q_val F rfl rfl (by decide) (r_neq F rfl rfl) fun a F => ?_
          refine q_val F rfl rfl (by decide) (r_move F rfl) fun a F => ?_
          by_cases hb222 : t215 = 0
          · have H := (if_pos hb222).symm.trans H
            refine q_yes F rfl (by decide) rfl (congrArg not (decide_eq_true hb222)) ?_
            refine q_val F rfl rfl (by decide) (r_move F rfl) fun a F => ?_
            obtain ⟨t223, q224, H⟩ := bind_some H
            refine q_yes F rfl (by decide) rfl (congrArg not (decide_eq_true hb222)) ?_
            refine q_call F rfl rfl (by decide) (r_call F Try.func16 rfl (by kernel_rfl) rfl) (route_Route_Trail.calls (m := m + 5) (by omega) B h211 (by omega) 0 (by omega) _ q224) ?_
            rintro e w226 ⟨c225, A229, C230, rfl, E227, B228, h231⟩
            refine ⟨_, rfl, fun a F => ?_⟩
            have B := B228
            have h211 := RU.ev h211 E227 (fun q => q.elim) (fun q => q.elim)
            have E := E.trans E227 (fun x q => q.elim)
            refine q_yes F rfl (by decide) rfl (congrArg not (decide_eq_true hb222)) ?_
            refine q_eff F rfl rfl (by decide) (e_buildSlice (n := 2) (e := 3) (c := c225) (k := (Kint .i64)) (i := 0) F [(0, .int .i64 2), (1, .int .i64 1)] [.int .i64 2, .int .i64 1] ([2, 1] : List Int) (by exact ⟨rfl, rfl, rfl, rfl, trivial⟩) (fun w => by kernel_rfl) rfl (by decide) rfl ⟨rfl, rfl, trivial⟩ (fun q => q) 0) ?_
            rintro v w234 a ⟨c233, A235, C236, rfl, E237, h238, B239⟩ F
            have B := B239 _ B (by omega)
            have h211 := RU.ev h211 E237 (fun q => q.elim) (fun q => q.elim)
            have h231 := SL.ev h231 E237 (fun q => q.elim) (fun q => q.elim)
            have E := E.trans E237 (fun x q => q.elim)
            obtain ⟨t240, q241, H⟩ := bind_some H
            refine q_yes F rfl (by decide) rfl (congrArg not (decide_eq_true hb222)) ?_
            refine q_call F rfl rfl (by decide) (r_call F Try.func15 rfl (by kernel_rfl) rfl) (haulagelaw23_ints.calls k (m := m + 5) (by omega) B h231.r h238.r _ q241) ?_
            rintro e w243 ⟨c242, rfl, E244, B245⟩
            refine ⟨_, rfl, fun a F => ?_⟩
            have B := B245
            have h211 := RU.ev h211 E244 (fun q => q.elim) (fun q => q.elim)
            have h231 := SL.ev h231 E244 (fun q => q.elim) (fun q => q.elim)
            have h238 := SL.ev h238 E244 (fun q => q.elim) (fun q => q.elim)
            have E := E.trans E244 (fun x q => q.elim)
            refine q_yes F rfl (by decide) rfl (congrArg not (decide_eq_true hb222)) ?_
            refine q_val F rfl rfl (by decide) (r_not F rfl) fun a F => ?_
            refine q_val F rfl rfl (by decide) (r_pick_f F rfl (congrArg not (decide_eq_true hb222)) rfl) fun a F => ?_
            refine nil ?_
            exact J248 c242 w243 a (!t240) (F.sub ⟨rfl, rfl, trivial⟩) E B h211 H
          · have H := (if_neg hb222).symm.trans H
            refine q_no F rfl (by decide) rfl (congrArg not (decide_eq_false hb222)) (by decide) fun a F => ?_
            refine q_no F rfl (by decide) rfl (congrArg not (decide_eq_false hb222)) (by decide) fun a F => ?_
            refine q_no F rfl (by decide) rfl (congrArg not (decide_eq_false hb222)) (by decide) fun a F => ?_
            refine q_no F rfl (by decide) rfl (congrArg not (decide_eq_false hb222)) (by decide) fun a F => ?_
            refine q_no F rfl (by decide) rfl (congrArg not (decide_eq_false hb222)) (by decide) fun a F => ?_
            refine q_val F rfl rfl (by decide) (r_pick_t F rfl (congrArg not (decide_eq_false hb222)) rfl) fun a F => ?_
            refine nil ?_
            exact J248 c217 w218 a true (F.sub ⟨rfl, rfl, trivial⟩) E B h211 H
      refine reg ?_
      refine q_val F rfl rfl (by decide) (r_move F rfl) fun a F => ?_
      obtain ⟨t86, q87, H⟩ := bind_some H
      refine q_call F rfl rfl (by decide) (r_call F Try.func11 rfl (by kernel_rfl) rfl) (haulagelaw23_num.calls (m := m + 5) (by omega) B _ q87) ?_
      rintro e w89 ⟨c88, rfl, E90, B91⟩
      refine ⟨_, rfl, fun a F => ?_⟩
      have B := B91
      have h82 := RU.ev h82 E90 (fun q => q.elim) (fun q => q.elim)
      have E := E.trans E90 (fun x q => q.elim)
      refine q_val F rfl rfl (by decide) (r_neq F rfl rfl) fun a F => ?_
      refine q_val F rfl rfl (by decide) (r_move F rfl) fun a F => ?_
      by_cases hb93 : t86 = 0
      · have H := (if_pos hb93).symm.trans H
        refine q_yes F rfl (by decide) rfl (congrArg not (decide_eq_true hb93)) ?_
        refine q_val F rfl rfl (by decide) (r_move F rfl) fun a F => ?_
        obtain ⟨t94, q95, H⟩ := bind_some H
        refine q_yes F rfl (by decide) rfl (congrArg not (decide_eq_true hb93)) ?_
        refine q_call F rfl rfl (by decide) (r_call F Try.func14 rfl (by kernel_rfl) rfl) (route_Route_Where.calls (m := m + 5) (by omega) B h82 (by omega) _ q95) ?_
        rintro e w97 ⟨c96, rfl, E98, B99⟩
        refine ⟨_, rfl, fun a F => ?_⟩
        have B := B99
        have h82 := RU.ev h82 E98 (fun q => q.elim) (fun q => q.elim)
        have E := E.trans E98 (fun x q => q.elim)
        refine q_yes F rfl (by decide) rfl (congrArg not (decide_eq_true hb93)) ?_
        refine q_val F rfl rfl (by decide) (r_neq F rfl rfl) fun a F => ?_
        refine q_val F rfl rfl (by decide) (r_pick_f F rfl (congrArg not (decide_eq_true hb93)) rfl) fun a F => ?_
        refine q_val F rfl rfl (by decide) (r_move F rfl) fun a F => ?_
        by_cases hb101 : t94 = 0
        · have H := (if_pos hb101).symm.trans H
          refine q_yes F rfl (by decide) rfl (congrArg not (decide_eq_true hb101)) ?_
          refine q_val F rfl rfl (by decide) (r_move F rfl) fun a F => ?_
          obtain ⟨t102, q103, H⟩ := bind_some H
          refine q_yes F rfl (by decide) rfl (congrArg not (decide_eq_true hb101)) ?_
          refine q_call F rfl rfl (by decide) (r_call F Try.func14 rfl (by kernel_rfl) rfl) (route_Route_Where.calls (m := m + 5) (by omega) B h82 (by omega) _ q103) ?_
          rintro e w105 ⟨c104, rfl, E106, B107⟩
          refine ⟨_, rfl, fun a F => ?_⟩
          have B := B107
          have h82 := RU.ev h82 E106 (fun q => q.elim) (fun q => q.elim)
          have E := E.trans E106 (fun x q => q.elim)
          refine q_yes F rfl (by decide) rfl (congrArg not (decide_eq_true hb101)) ?_
          refine q_val F rfl rfl (by decide) (r_neq F rfl rfl) fun a F => ?_
          refine q_val F rfl rfl (by decide) (r_pick_f F rfl (congrArg not (decide_eq_true hb101)) rfl) fun a F => ?_
          refine q_val F rfl rfl (by decide) (r_move F rfl) fun a F => ?_
          by_cases hb109 : t102 = 0
          · have H := (if_pos hb109).symm.trans H
            refine q_yes F rfl (by decide) rfl (congrArg not (decide_eq_true hb109)) ?_
            refine q_val F rfl rfl (by decide) (r_move F rfl) fun a F => ?_
            obtain ⟨t110, q111, H⟩ := bind_some H
            refine q_yes F rfl (by decide) rfl (congrArg not (decide_eq_true hb109)) ?_
            refine q_call F rfl rfl (by decide) (r_call F Try.func14 rfl (by kernel_rfl) rfl) (route_Route_Where.calls (m := m + 5) (by omega) B h82 (by omega) _ q111) ?_
            rintro e w113 ⟨c112, rfl, E114, B115⟩
            refine ⟨_, rfl, fun a F => ?_⟩
            have B := B115
            have h82 := RU.ev h82 E114 (fun q => q.elim) (fun q => q.elim)
            have E := E.trans E114 (fun x q => q.elim)
            refine q_yes F rfl (by decide) rfl (congrArg not (decide_eq_true hb109)) ?_
            refine q_val F rfl rfl (by decide) (r_neq F rfl rfl) fun a F => ?_
            refine q_val F rfl rfl (by decide) (r_pick_f F rfl (congrArg not (decide_eq_true hb109)) rfl) fun a F => ?_
            refine q_val F rfl rfl (by decide) (r_move F rfl) fun a F => ?_
            by_cases hb117 : t110 = (-1)
            · have H := (if_pos hb117).symm.trans H
              refine q_yes F rfl (by decide) rfl (congrArg not (decide_eq_true hb117)) ?_
              refine q_val F rfl rfl (by decide) (r_move F rfl) fun a F => ?_
              obtain ⟨t118, q119, H⟩ := bind_some H
              refine q_yes F rfl (by decide) rfl (congrArg not (decide_eq_true hb117)) ?_
              refine q_call F rfl rfl (by decide) (r_call F Try.func14 rfl (by kernel_rfl) rfl) (route_Route_Where.calls (m := m + 5) (by omega) B h82 (by omega) _ q119) ?_
              rintro e w121 ⟨c120, rfl, E122, B123⟩
              refine ⟨_, rfl, fun a F => ?_⟩
              have B := B123
              have h82 := RU.ev h82 E122 (fun q => q.elim) (fun q => q.elim)
              have E := E.trans E122 (fun x q => q.elim)
              refine q_yes F rfl (by decide) rfl (congrArg not (decide_eq_true hb117)) ?_
              refine q_val F rfl rfl (by decide) (r_neq F rfl rfl) fun a F => ?_
              refine q_val F rfl rfl (by decide) (r_pick_f F rfl (congrArg not (decide_eq_true hb117)) rfl) fun a F => ?_
              refine q_val F rfl rfl (by decide) (r_move F rfl) fun a F => ?_
              by_cases hb125 : t118 = (-1)
              · have H := (if_pos hb125).symm.trans H
                refine q_yes F rfl (by decide) rfl (congrArg not (decide_eq_true hb125)) ?_
                refine q_val F rfl rfl (by decide) (r_move F rfl) fun a F => ?_
                obtain ⟨t126, q127, H⟩ := bind_some H
                refine q_yes F rfl (by decide) rfl (congrArg not (decide_eq_true hb125)) ?_
                refine q_call F rfl rfl (by decide) (r_call F Try.func18 rfl (by kernel_rfl) rfl) (route_Route_At.calls (m := m + 5) (by omega) B h82 (by omega) 0 (by omega) _ q127) ?_
                rintro e w129 ⟨c128, A132, C133, rfl, E130, B131, h134⟩
                refine ⟨_, rfl, fun a F => ?_⟩
                have B := B131
                have h82 := RU.ev h82 E130 (fun q => q.elim) (fun q => q.elim)
                have E := E.trans E130 (fun x q => q.elim)
                refine q_yes F rfl (by decide) rfl (congrArg not (decide_eq_true hb125)) ?_
                refine q_eff F rfl rfl (by decide) (e_buildSlice (n := 3) (e := 3) (c := c128) (k := (Kint .i64)) (i := 0) F [(0, .int .i64 0), (1, .int .i64 1), (2, .int .i64 2)] [.int .i64 0, .int .i64 1, .int .i64 2] ([0, 1, 2] : List Int) (by exact ⟨rfl, rfl, rfl, rfl, rfl, rfl, trivial⟩) (fun w => by kernel_rfl) rfl (by decide) rfl ⟨rfl, rfl, rfl, trivial⟩ (fun q => q) 0) ?_
                rintro v w137 a ⟨c136, A138, C139, rfl, E140, h141, B142⟩ F
                have B := B142 _ B (by omega)
                have h82 := RU.ev h82 E140 (fun q => q.elim) (fun q => q.elim)
                have h134 := SL.ev h134 E140 (fun q => q.elim) (fun q => q.elim)
                have E := E.trans E140 (fun x q => q.elim)
                obtain ⟨t143, q144, H⟩ := bind_some H
                refine q_yes F rfl (by decide) rfl (congrArg not (decide_eq_true hb125)) ?_
                refine q_call F rfl rfl (by decide) (r_call F Try.func15 rfl (by kernel_rfl) rfl) (haulagelaw23_ints.calls k (m := m + 5) (by omega) B h134.r h141.r _ q144) ?_
                rintro e w146 ⟨c145, rfl, E147, B148⟩
                refine ⟨_, rfl, fun a F => ?_⟩
                have B := B148
                have h82 := RU.ev h82 E147 (fun q => q.elim) (fun q => q.elim)
                have h134 := SL.ev h134 E147 (fun q => q.elim) (fun q => q.elim)
                have h141 := SL.ev h141 E147 (fun q => q.elim) (fun q => q.elim)
                have E := E.trans E147 (fun x q => q.elim)
                refine q_yes F rfl (by decide) rfl (congrArg not (decide_eq_true hb125)) ?_
                refine q_val F rfl rfl (by decide) (r_not F rfl) fun a F => ?_
                refine q_val F rfl rfl (by decide) (r_pick_f F rfl (congrArg not (decide_eq_true hb125)) rfl) fun a F => ?_
                refine q_val F rfl rfl (by decide) (r_move F rfl) fun a F => ?_
                by_cases hb150 : t143 = true
                · have H := (if_pos hb150).symm.trans H
                  refine q_yes F rfl (by decide) rfl (congrArg not hb150) ?_
                  refine q_val F rfl rfl (by decide) (r_move F rfl) fun a F => ?_
                  obtain ⟨t151, q152, H⟩ := bind_some H
                  refine q_yes F rfl (by decide) rfl (congrArg not hb150) ?_
                  refine q_call F rfl rfl (by decide) (r_call F Try.func18 rfl (by kernel_rfl) rfl) (route_Route_At.calls (m := m + 5) (by omega) B h82 (by omega) 0 (by omega) _ q152) ?_
                  rintro e w154 ⟨c153, A157, C158, rfl, E155, B156, h159⟩
                  refine ⟨_, rfl, fun a F => ?_⟩
                  have B := B156
                  have h82 := RU.ev h82 E155 (fun q => q.elim) (fun q => q.elim)
                  have h134 := SL.ev h134 E155 (fun q => q.elim) (fun q => q.elim)
                  have h141 := SL.ev h141 E155 (fun q => q.elim) (fun q => q.elim)
                  have E := E.trans E155 (fun x q => q.elim)
                  refine q_yes F rfl (by decide) rfl (congrArg not hb150) ?_
                  refine q_val F rfl rfl (by decide) (r_lensl F Try.underlying22 rfl) fun a F => ?_
                  refine q_yes F rfl (by decide) rfl (congrArg not hb150) ?_
                  refine q_val F rfl rfl (by decide) (r_neq F rfl rfl) fun a F => ?_
                  refine q_val F rfl rfl (by decide) (r_pick_f F rfl (congrArg not hb150) rfl) fun a F => ?_
                  refine nil ?_
                  exact J162 c153 w154 a (!decide ((t151.length : Int) = 0)) (F.sub ⟨rfl, trivial⟩) E B  H
                · have H := (if_neg hb150).symm.trans H
                  refine q_no F rfl (by decide) rfl (congrArg not (bfalse hb150)) (by decide) fun a F => ?_
                  refine q_no F rfl (by decide) rfl (congrArg not (bfalse hb150)) (by decide) fun a F => ?_
                  refine q_no F rfl (by decide) rfl (congrArg not (bfalse hb150)) (by decide) fun a F => ?_
                  refine q_no F rfl (by decide) rfl (congrArg not (bfalse hb150)) (by decide) fun a F => ?_
                  refine q_val F rfl rfl (by decide) (r_pick_t F rfl (congrArg not (bfalse hb150)) rfl) fun a F => ?_
                  refine nil ?_
                  exact J162 c145 w146 a true (F.sub ⟨rfl, trivial⟩) E B  H
              · have H := (if_neg hb125).symm.trans H
                refine q_no F rfl (by decide) rfl (congrArg not (decide_eq_false hb125)) (by decide) fun a F => ?_
                refine q_no F rfl (by decide) rfl (congrArg not (decide_eq_false hb125)) (by decide) fun a F => ?_
                refine q_no F rfl (by decide) rfl (congrArg not (decide_eq_false hb125)) (by decide) fun a F => ?_
                refine q_no F rfl (by decide) rfl (congrArg not (decide_eq_false hb125)) (by decide) fun a F => ?_
                refine q_no F rfl (by decide) rfl (congrArg not (decide_eq_false hb125)) (by decide) fun a F => ?_
                refine q_val F rfl rfl (by decide) (r_pick_t F rfl (congrArg not (decide_eq_false hb125)) rfl) fun a F => ?_
                refine q_val F rfl rfl (by decide) (r_move F rfl) fun a F => ?_
                refine q_no F rfl (by decide) rfl rfl (by decide) fun a F => ?_
                refine q_no F rfl (by decide) rfl rfl (by decide) fun a F => ?_
                refine q_no F rfl (by decide) rfl rfl (by decide) fun a F => ?_
                refine q_no F rfl (by decide) rfl rfl (by decide) fun a F => ?_
                refine q_val F rfl rfl (by decide) (r_pick_t F rfl rfl rfl) fun a F => ?_
                refine nil ?_
                exact J162 c120 w121 a true (F.sub ⟨rfl, trivial⟩) E B  H
            · have H := (if_neg hb117).symm.trans H
              refine q_no F rfl (by decide) rfl (congrArg not (decide_eq_false hb117)) (by decide) fun a F => ?_
              refine q_no F rfl (by decide) rfl (congrArg not (decide_eq_false hb117)) (by decide) fun a F => ?_
              refine q_no F rfl (by decide) rfl (congrArg not (decide_eq_false hb117)) (by decide) fun a F => ?_
              refine q_val F rfl rfl (by decide) (r_pick_t F rfl (congrArg not (decide_eq_false hb117)) rfl) fun a F => ?_
              refine q_val F rfl rfl (by decide) (r_move F rfl) fun a F => ?_
              refine q_no F rfl (by decide) rfl rfl (by decide) fun a F => ?_
              refine q_no F rfl (by decide) rfl rfl (by decide) fun a F => ?_
              refine q_no F rfl (by decide) rfl rfl (by decide) fun a F => ?_
              refine q_no F rfl (by decide) rfl rfl (by decide) fun a F => ?_
              refine q_no F rfl (by decide) rfl rfl (by decide) fun a F => ?_
              refine q_val F rfl rfl (by decide) (r_pick_t F rfl rfl rfl) fun a F => ?_
              refine q_val F rfl rfl (by decide) (r_move F rfl) fun a F => ?_
              refine q_no F rfl (by decide) rfl rfl (by decide) fun a F => ?_
              refine q_no F rfl (by decide) rfl rfl (by decide) fun a F => ?_
              refine q_no F rfl (by decide) rfl rfl (by decide) fun a F => ?_
              refine q_no F rfl (by decide) rfl rfl (by decide) fun a F => ?_
              refine q_val F rfl rfl (by decide) (r_pick_t F rfl rfl rfl) fun a F => ?_
              refine nil ?_
              exact J162 c112 w113 a true (F.sub ⟨rfl, trivial⟩) E B  H
          · have H := (if_neg hb109).symm.trans H
            refine q_no F rfl (by decide) rfl (congrArg not (decide_eq_false hb109)) (by decide) fun a F => ?_
            refine q_no F rfl (by decide) rfl (congrArg not (decide_eq_false hb109)) (by decide) fun a F => ?_
            refine q_no F rfl (by decide) rfl (congrArg not (decide_eq_false hb109)) (by decide) fun a F => ?_
            refine q_val F rfl rfl (by decide) (r_pick_t F rfl (congrArg not (decide_eq_false hb109)) rfl) fun a F => ?_
            refine q_val F rfl rfl (by decide) (r_move F rfl) fun a F => ?_
            refine q_no F rfl (by decide) rfl rfl (by decide) fun a F => ?_
            refine q_no F rfl (by decide) rfl rfl (by decide) fun a F => ?_
            refine q_no F rfl (by decide) rfl rfl (by decide) fun a F => ?_
            refine q_val F rfl rfl (by decide) (r_pick_t F rfl rfl rfl) fun a F => ?_
            refine q_val F rfl rfl (by decide) (r_move F rfl) fun a F => ?_
            refine q_no F rfl (by decide) rfl rfl (by decide) fun a F => ?_
            refine q_no F rfl (by decide) rfl rfl (by decide) fun a F => ?_
            refine q_no F rfl (by decide) rfl rfl (by decide) fun a F => ?_
            refine q_no F rfl (by decide) rfl rfl (by decide) fun a F => ?_
            refine q_no F rfl (by decide) rfl rfl (by decide) fun a F => ?_
            refine q_val F rfl rfl (by decide) (r_pick_t F rfl rfl rfl) fun a F => ?_
            refine q_val F rfl rfl (by decide) (r_move F rfl) fun a F => ?_
            refine q_no F rfl (by decide) rfl rfl (by decide) fun a F => ?_
            refine q_no F rfl (by decide) rfl rfl (by decide) fun a F => ?_
            refine q_no F rfl (by decide) rfl rfl (by decide) fun a F => ?_
            refine q_no F rfl (by decide) rfl rfl (by decide) fun a F => ?_
            refine q_val F rfl rfl (by decide) (r_pick_t F rfl rfl rfl) fun a F => ?_
            refine nil ?_
            exact J162 c104 w105 a true (F.sub ⟨rfl, trivial⟩) E B  H
        · have H := (if_neg hb101).symm.trans H
          refine q_no F rfl (by decide) rfl (congrArg not (decide_eq_false hb101)) (by decide) fun a F => ?_
          refine q_no F rfl (by decide) rfl (congrArg not (decide_eq_false hb101)) (by decide) fun a F => ?_
          refine q_no F rfl (by decide) rfl (congrArg not (decide_eq_false hb101)) (by decide) fun a F => ?_
          refine q_val F rfl rfl (by decide) (r_pick_t F rfl (congrArg not (decide_eq_false hb101)) rfl) fun a F => ?_
          refine q_val F rfl rfl (by decide) (r_move F rfl) fun a F => ?_
          refine q_no F rfl (by decide) rfl rfl (by decide) fun a F => ?_
          refine q_no F rfl (by decide) rfl rfl (by decide) fun a F => ?_
          refine q_no F rfl (by decide) rfl rfl (by decide) fun a F => ?_
          refine q_val F rfl rfl (by decide) (r_pick_t F rfl rfl rfl) fun a F => ?_
          refine q_val F rfl rfl (by decide) (r_move F rfl) fun a F => ?_
          refine q_no F rfl (by decide) rfl rfl (by decide) fun a F => ?_
          refine q_no F rfl (by decide) rfl rfl (by decide) fun a F => ?_
          refine q_no F rfl (by decide) rfl rfl (by decide) fun a F => ?_
          refine q_val F rfl rfl (by decide) (r_pick_t F rfl rfl rfl) fun a F => ?_
          refine q_val F rfl rfl (by decide) (r_move F rfl) fun a F => ?_
          refine q_no F rfl (by decide) rfl rfl (by decide) fun a F => ?_
          refine q_no F rfl (by decide) rfl rfl (by decide) fun a F => ?_
          refine q_no F rfl (by decide) rfl rfl (by decide) fun a F => ?_
          refine q_no F rfl (by decide) rfl rfl (by decide) fun a F => ?_
          refine q_no F rfl (by decide) rfl rfl (by decide) fun a F => ?_
          refine q_val F rfl rfl (by decide) (r_pick_t F rfl rfl rfl) fun a F => ?_
          refine q_val F rfl rfl (by decide) (r_move F rfl) fun a F => ?_
          refine q_no F rfl (by decide) rfl rfl (by decide) fun a F => ?_
          refine q_no F rfl (by decide) rfl rfl (by decide) fun a F => ?_
          refine q_no F rfl (by decide) rfl rfl (by decide) fun a F => ?_
          refine q_no F rfl (by decide) rfl rfl (by decide) fun a F => ?_
          refine q_val F rfl rfl (by decide) (r_pick_t F rfl rfl rfl) fun a F => ?_
          refine nil ?_
          exact J162 c96 w97 a true (F.sub ⟨rfl, trivial⟩) E B  H
      · have H := (if_neg hb93).symm.trans H
        refine q_no F rfl (by decide) rfl (congrArg not (decide_eq_false hb93)) (by decide) fun a F => ?_
        refine q_no F rfl (by decide) rfl (congrArg not (decide_eq_false hb93)) (by decide) fun a F => ?_
        refine q_no F rfl (by decide) rfl (congrArg not (decide_eq_false hb93)) (by decide) fun a F => ?_
        refine q_val F rfl rfl (by decide) (r_pick_t F rfl (congrArg not (decide_eq_false hb93)) rfl) fun a F => ?_
        refine q_val F rfl rfl (by decide) (r_move F rfl) fun a F => ?_
        refine q_no F rfl (by decide) rfl rfl (by decide) fun a F => ?_
        refine q_no F rfl (by decide) rfl rfl (by decide) fun a F => ?_
        refine q_no F rfl (by decide) rfl rfl (by decide) fun a F => ?_
        refine q_val F rfl rfl (by decide) (r_pick_t F rfl rfl rfl) fun a F => ?_
        refine q_val F rfl rfl (by decide) (r_move F rfl) fun a F => ?_
        refine q_no F rfl (by decide) rfl rfl (by decide) fun a F => ?_
        refine q_no F rfl (by decide) rfl rfl (by decide) fun a F => ?_
        refine q_no F rfl (by decide) rfl rfl (by decide) fun a F => ?_
        refine q_val F rfl rfl (by decide) (r_pick_t F rfl rfl rfl) fun a F => ?_
        refine q_val F rfl rfl (by decide) (r_move F rfl) fun a F => ?_
        refine q_no F rfl (by decide) rfl rfl (by decide) fun a F => ?_
        refine q_no F rfl (by decide) rfl rfl (by decide) fun a F => ?_
        refine q_no F rfl (by decide) rfl rfl (by decide) fun a F => ?_
        refine q_val F rfl rfl (by decide) (r_pick_t F rfl rfl rfl) fun a F => ?_
        refine q_val F rfl rfl (by decide) (r_move F rfl) fun a F => ?_
        refine q_no F rfl (by decide) rfl rfl (by decide) fun a F => ?_
        refine q_no F rfl (by decide) rfl rfl (by decide) fun a F => ?_
        refine q_no F rfl (by decide) rfl rfl (by decide) fun a F => ?_
        refine q_no F rfl (by decide) rfl rfl (by decide) fun a F => ?_
        refine q_no F rfl (by decide) rfl rfl (by decide) fun a F => ?_
        refine q_val F rfl rfl (by decide) (r_pick_t F rfl rfl rfl) fun a F => ?_
        refine q_val F rfl rfl (by decide) (r_move F rfl) fun a F => ?_
        refine q_no F rfl (by decide) rfl rfl (by decide) fun a F => ?_
        refine q_no F rfl (by decide) rfl rfl (by decide) fun a F => ?_
        refine q_no F rfl (by decide) rfl rfl (by decide) fun a F => ?_
        refine q_no F rfl (by decide) rfl rfl (by decide) fun a F => ?_
        refine q_val F rfl rfl (by decide) (r_pick_t F rfl rfl rfl) fun a F => ?_
        refine nil ?_
        exact J162 c88 w89 a true (F.sub ⟨rfl, trivial⟩) E B  H
    refine loop_fuel (I := fun n a w => ∃ (i26 : Int) (c : Nat → Nat), Fr a 211 [(1, .pointer (some qa16)), (2, .int .i64 i26)] ∧ Ev (fun x => False ∨ m ≤ x) c0 w0 c w ∧ CB (m + 5) c w ∧ AT true (m + 1) c w qa16 [.int .i64 0, .int .i64 1, .int .i64 9, .int .i64 1, .int .i64 1, .int .i64 65, .int .i64 1, .int .i64 0] ∧ loop (fun (s_ : Int) => haulagelaw23_RouteKnown.b2 s_) n i26 = some x36) (k := k) ⟨0, c14, F.sub ⟨rfl, rfl, trivial⟩, E, B, h18, HL⟩ ?_
    clear HL H E F B
    intro n33 X29 hX29 a w28 ⟨i26, c27, F, E, B, h18, HL⟩
    obtain ⟨n34, ctl32, rfl, HB, HN30, HD31⟩ := loop_some HL
    have H : haulagelaw23_RouteKnown.b2 i26 = some ctl32 := HB
    clear HB HL
    unfold haulagelaw23_RouteKnown.b2 at H
    refine wp_seq_k fun K37 hK37 => ?_
    refine wp_seq_k fun K38 hK38 => ?_
    refine reg ?_
    refine q_val F rfl rfl (by decide) (r_move F rfl) fun a F => ?_
    refine q_val F rfl rfl (by decide) (r_lss F rfl rfl) fun a F => ?_
    refine nil ?_
    refine hK38 _ _ ?_
    by_cases hb39 : i26 < 4
    · have H := (if_pos hb39).symm.trans H
      refine wp_cond_true ((F.ev rfl).trans (congrArg Value.bool (decide_eq_true hb39))) ?_
      refine wp_skip ?_
      refine hK37 _ _ ?_
      refine wp_seq_k fun K40 hK40 => ?_
      refine wp_block ?_
      refine wp_seq_k fun K41 hK41 => ?_
      refine regD (SB No c27 w28) 14 (.q 0 (.q 1 (.q 2 (.q 3 (.q 4 (.q 5 (.q 6 (.q 7 (.e 8 (.q 9 (.q 10 (.q 11 (.q 12 (.q 13 .nil)))))))))))))) Try_hm (by decide +kernel) ?_
      intro w42 w1_ w2_ w3_ w4_
      have E43 : Ev No c27 w28 c27 w42 := Ev.same w1_ w2_ w3_ w4_
      have B := B.same w1_
      have zh18 := h18
      have ER : Ev No c27 w28 c27 w42 := Ev.same w1_ w2_ w3_ w4_
      have h18 := AT.ev h18 E43 (fun q => q.elim)
      have E := E.trans E43 (fun x q => q.elim)
      refine d_q F rfl rfl rfl (by decide) (fun wq hS => r_move F rfl) ER.sb fun a F => ?_
      obtain ⟨g44, H⟩ := ifN H
      refine d_q F rfl rfl rfl (by decide) (fun wq hS => r_indexArr F ua_52 sz_43 rfl rfl g44.1 g44.2 rfl) ER.sb fun a F => ?_
      refine d_q F rfl rfl rfl (by decide) (fun wq hS => r_indexArr2 F h18 ua_43 sz_3 rfl rfl (by decide) (by decide) rfl) ER.sb fun a F => ?_
      refine d_q F rfl rfl rfl (by decide) (fun wq hS => r_load F rfl ag_3 (AT.celli (k := .i64) (xs := [0, 1, 9, 1, 1, 65, 1, 0]) (AT.sb zh18 hS (fun q => q.elim)) (by show i26.toNat * 2 + 0 < 8; omega))) ER.sb fun a F => ?_
      refine d_q F rfl rfl rfl (by decide) (fun wq hS => r_move F rfl) ER.sb fun a F => ?_
      obtain ⟨g45, H⟩ := ifN H
      refine d_q F rfl rfl rfl (by decide) (fun wq hS => r_indexArr F ua_52 sz_43 rfl rfl g45.1 g45.2 rfl) ER.sb fun a F => ?_
      refine d_q F rfl rfl rfl (by decide) (fun wq hS => r_indexArr2 F h18 ua_43 sz_3 rfl rfl (by decide) (by decide) rfl) ER.sb fun a F => ?_
      refine d_q F rfl rfl rfl (by decide) (fun wq hS => r_load F rfl ag_3 (AT.celli (k := .i64) (xs := [0, 1, 9, 1, 1, 65, 1, 0]) (AT.sb zh18 hS (fun q => q.elim)) (by show i26.toNat * 2 + 1 < 8; omega))) ER.sb fun a F => ?_
      refine d_e ?_
      obtain ⟨t46, q47, H⟩ := bind_some H
      refine o_call F rfl (wanted_none rfl) rfl (by decide) (r_call F Try.func10 rfl (by kernel_rfl) rfl) (route_New.calls (m := m + 5) (by omega) B (m + 2) (by omega) _ q47) ?_
      rintro e w49 ⟨c48, p52, rfl, E50, B51, h53⟩
      refine ⟨_, rfl, fun a F => ?_⟩
      have B := B51
      have ER := ER.trans E50 (fun x q => q.elim)
      have h18 := AT.ev h18 E50 (fun q => q.elim)
      have E := E.trans E50 (fun x q => q.elim)
      refine ⟨fun _ => ER.sb, ?_⟩
      refine d_q F rfl rfl rfl (by decide) (fun wq hS => r_move F rfl) ER.sb fun a F => ?_
      refine d_q F rfl rfl rfl (by decide) (fun wq hS => r_extract F rfl rfl) ER.sb fun a F => ?_
      refine d_q F rfl rfl rfl (by decide) (fun wq hS => r_extract F rfl rfl) ER.sb fun a F => ?_
      refine d_q F rfl rfl rfl (by decide) (fun wq hS => r_assign F rfl) ER.sb fun a F => ?_
      refine d_q F rfl rfl rfl (by decide) (fun wq hS => r_assign F rfl) ER.sb fun a F => ?_
      refine d_nil ?_
      refine hK41 _ _ ?_
      refine wp_seq_k fun K55 hK55 => ?_
      have J65 : ∀ (c66 : Nat → Nat) (w67 : World) (a : Act) (b64 : Bool), Fr a 211 [(1, .pointer (some qa16)), (2, .int .i64 i26), (45, .bool b64)] → Ev (fun x => False ∨ m ≤ x) c0 w0 c66 w67 → CB (m + 5) c66 w67 → AT true (m + 1) c66 w67 qa16 [.int .i64 0, .int .i64 1, .int .i64 9, .int .i64 1, .int .i64 1, .int .i64 65, .int .i64 1, .int .i64 0] → haulagelaw23_RouteKnown.j1 i26 b64 = some ctl32 → K55 a w67 := by
        intro c66 w67 a b64 F E B h18 H
        unfold haulagelaw23_RouteKnown.j1 at H
        refine hK55 _ _ ?_
        by_cases hb68 : b64 = true
        · have H := (if_pos hb68).symm.trans H
          refine wp_cond_true ((F.ev rfl).trans (congrArg Value.bool hb68)) ?_
          refine wp_seq_k fun K69 hK69 => ?_
          refine reg ?_
          refine q_val F rfl rfl (by decide) (r_assign F rfl) fun a F => ?_
          refine nil ?_
          refine hK69 _ _ ?_
          refine wp_ret ?_
          refine inbR ?_
          refine thenR ?_
          refine thenR ?_
          refine inbR ?_
          refine thenR ?_
          have hx_ := HD31 _ (Option.some.inj H).symm
          have H := HR35
          rw [← hx_] at H
          replace H : some false = some r := H
          have H := Option.some.inj H
          subst H
          refine out1 F rfl rfl ?_
          exact ⟨fun b_ => (fun x_ => if x_ < m then x_ else 0) (c66 b_), rfl, E.leave B0 (fun x_ => if x_ < m then x_ else 0) (by intro x_ hx_; show (if x_ < m then x_ else 0) = x_; ((repeat' split) <;> omega)), (fun b_ hb_ => by show (if (c66 b_) < m then (c66 b_) else 0) < m; ((repeat' split) <;> omega))⟩
        · have H := (if_neg hb68).symm.trans H
          refine wp_cond_false ((F.ev rfl).trans (congrArg Value.bool (bfalse hb68))) ?_
          refine wp_skip ?_
          refine hK40 _ _ ?_
          refine reg ?_
          refine q_val F rfl rfl (by decide) (r_move F rfl) fun a F => ?_
          refine q_val F rfl rfl (by decide) (r_add F rfl rfl) fun a F => ?_
          refine q_val F rfl rfl (by decide) (r_assign F rfl) fun a F => ?_
          refine nil ?_
          have H := HN30 _ (Option.some.inj H).symm
          exact hX29 _ _ _ (Nat.lt_succ_self _) ⟨(IntKind.i64.wrap (i26 + 1)), c66, F.sub ⟨rfl, rfl, trivial⟩, E, B, h18, H⟩
      refine reg ?_
      refine q_val F rfl rfl (by decide) (r_move F rfl) fun a F => ?_
      refine q_val F rfl rfl (by decide) (r_pneqA F Try.underlying24 rfl rfl (RU.isNone h53)) fun a F => ?_
      refine q_val F rfl rfl (by decide) (r_move F rfl) fun a F => ?_
      by_cases hb56 : (Option.isNone t46.1) = true
      · have H := (if_pos hb56).symm.trans H
        refine q_yes F rfl (by decide) rfl (congrArg not hb56) ?_
        refine q_val F rfl rfl (by decide) (r_move F rfl) fun a F => ?_
        obtain ⟨t57, q58, H⟩ := bind_some H
        refine q_yes F rfl (by decide) rfl (congrArg not hb56) ?_
        refine q_call F rfl rfl (by decide) (r_call F Try.func11 rfl (by kernel_rfl) rfl) (haulagelaw23_num.calls (m := m + 5) (by omega) B _ q58) ?_
        rintro e w60 ⟨c59, rfl, E61, B62⟩
        refine ⟨_, rfl, fun a F => ?_⟩
        have B := B62
        have h18 := AT.ev h18 E61 (fun q => q.elim)
        have h53 := RU.ev h53 E61 (fun q => q.elim) (fun q => q.elim)
        have E := E.trans E61 (fun x q => q.elim)
        refine q_yes F rfl (by decide) rfl (congrArg not hb56) ?_
        refine q_val F rfl rfl (by decide) (r_neq F rfl rfl) fun a F => ?_
        refine q_val F rfl rfl (by decide) (r_pick_f F rfl (congrArg not hb56) rfl) fun a F => ?_
        refine nil ?_
        exact J65 c59 w60 a (!decide (t57 = 2)) (F.sub ⟨rfl, rfl, rfl, trivial⟩) E B h18 H
      · have H := (if_neg hb56).symm.trans H
        refine q_no F rfl (by decide) rfl (congrArg not (bfalse hb56)) (by decide) fun a F => ?_
        refine q_no F rfl (by decide) rfl (congrArg not (bfalse hb56)) (by decide) fun a F => ?_
        refine q_no F rfl (by decide) rfl (congrArg not (bfalse hb56)) (by decide) fun a F => ?_
        refine q_val F rfl rfl (by decide) (r_pick_t F rfl (congrArg not (bfalse hb56)) rfl) fun a F => ?_
        refine nil ?_
        exact J65 c48 w49 a true (F.sub ⟨rfl, rfl, rfl, trivial⟩) E B h18 H
    · have H := (if_neg hb39).symm.trans H
      refine wp_cond_false ((F.ev rfl).trans (congrArg Value.bool (decide_eq_false hb39))) ?_
      refine wp_exit ?_
      refine thenE ?_
      refine thenE ?_
      refine inbE ?_
      have hx_ := HD31 _ (Option.some.inj H).symm
      have H := HR35
      rw [← hx_] at H
      exact J71 c27 w28 a  (F.sub trivial) E B  H
  · have H := (if_neg hb11).symm.trans H
    refine wp_cond_true ((F.ev rfl).trans (congrArg Value.bool (congrArg not (bfalse hb11)))) ?_
    refine wp_seq_k fun K12 hK12 => ?_
    refine reg ?_
    refine q_val F rfl rfl (by decide) (r_assign F rfl) fun a F => ?_
    refine nil ?_
    refine hK12 _ _ ?_
    refine wp_ret ?_
    refine thenR ?_
    have H := Option.some.inj H
    subst H
    refine out1 F rfl rfl ?_
    exact ⟨fun b_ => (fun x_ => if x_ < m then x_ else 0) (c6 b_), rfl, E.leave B0 (fun x_ => if x_ < m then x_ else 0) (by intro x_ hx_; show (if x_ < m then x_ else 0) = x_; ((repeat' split) <;> omega)), (fun b_ hb_ => by show (if (c6 b_) < m then (c6 b_) else 0) < m; ((repeat' split) <;> omega))⟩
end Go.Proofs.Ytohljkjaggcapaa.G
/-! The plain law of RouteHomes. -/
namespace Go.Proofs.Ytohljkjaggcapaa.G
open Go Go.Proofs.Ytohljkjaggcapaa.RT Go.Proofs.Ytohljkjaggcapaa.JQ Go.Proofs.Ytohljkjaggcapaa.JF
set_option linter.unusedVariables false
set_option linter.unusedSimpArgs false
/-! ### loops, numbers -/
theorem bind_eq {α β : Type} {x : Option α} {f : α → Option β} {a : α} (h : x = some a) : x.bind f = f a := by rw [h]; rfl
theorem loop_next {S X : Type} {f : S → Option (Ctl S X)} {n : Nat} {s s' : S} (h : f s = some (.next s')) : loop f (n + 1) s = loop f n s' := by
  show (f s).bind _ = _; rw [h]; rfl
theorem loop_done {S X : Type} {f : S → Option (Ctl S X)} {n : Nat} {s : S} {x : X} (h : f s = some (.done x)) : loop f (n + 1) s = some x := by
  show (f s).bind _ = _; rw [h]; rfl
theorem loop_inv {S X : Type} {f : S → Option (Ctl S X)} {I : Nat → S → Prop} {P : X → Prop} {N : Nat}
    (step : ∀ i s, i < N → I i s → (∃ s', f s = some (.next s') ∧ I (i + 1) s') ∨ (∃ x, f s = some (.done x) ∧ P x))
    (last : ∀ s, I N s → ∃ x, f s = some (.done x) ∧ P x) : ∀ (n i : Nat) (s : S) (m : Nat), I i s → i + n = N → n < m → ∃ x, loop f m s = some x ∧ P x
  | _, _, _, 0, _, _, h => absurd h (by omega)
  | 0, i, s, m + 1, hI, hN, _ => by
    obtain rfl : i = N := by omega
    obtain ⟨x, h1, h2⟩ := last s hI
    exact ⟨x, loop_done h1, h2⟩
  | n + 1, i, s, m + 1, hI, hN, hm => by
    rcases step i s (by omega) hI with ⟨s', h1, h2⟩ | ⟨x, h1, h2⟩
    · rw [loop_next h1]
      exact loop_inv step last n (i + 1) s' m h2 (by omega) (by omega)
    · exact ⟨x, loop_done h1, h2⟩
theorem wr {n : Int} (h0 : -1000000000000000000 ≤ n) (h1 : n ≤ 1000000000000000000) : IntKind.i64.wrap n = n := by rw [IntKind.wrap_i64]; omega
theorem wrS (i : Nat) (h : i < 1000000000000000) : IntKind.i64.wrap ((i : Int) + 1) = ((i + 1 : Nat) : Int) := by rw [wr (by omega) (by omega)]; omega
theorem rd_eq {α : Type} [Inhabited α] {xs : List α} {i : Nat} (h : i < xs.length) : rd xs (i : Int) = xs[i] := by
  unfold rd
  rw [Int.toNat_natCast, List.getD_eq_getElem?_getD, List.getElem?_eq_getElem h]
  rfl
def Fuel (k : Nat) : Prop := 1099511627776 ≤ k
theorem num_eq (a : Int) : haulagelaw23_num.f a = some a := rfl
theorem ints_loop (a b : List Int) (hl : a.length = b.length) : ∀ (n i m : Nat), i + n = a.length → n < m → a.length < 4000000000 →
    loop (fun (s_ : Int) => haulagelaw23_ints.b1 a b s_) m (i : Int) = some (if a.drop i = b.drop i then Sum.inl () else Sum.inr false)
  | _, _, 0, _, h, _ => absurd h (by omega)
  | 0, i, m + 1, h, _, _ => by
    refine loop_done ?_
    unfold haulagelaw23_ints.b1
    rw [if_neg (by omega), if_pos]
    rw [List.drop_of_length_le (by omega), List.drop_of_length_le (by omega)]
  | n + 1, i, m + 1, h, hm, hb => by
    have hi : i < a.length := by omega
    have hj : i < b.length := by omega
    rw [List.drop_eq_getElem_cons hi, List.drop_eq_getElem_cons hj]
    by_cases c : a[i] = b[i]
    · rw [loop_next (s' := ((i + 1 : Nat) : Int)), ints_loop a b hl n (i + 1) m (by omega) (by omega) hb]
      · simp only [c, List.cons.injEq, true_and]
      · unfold haulagelaw23_ints.b1
        rw [if_pos (by omega), if_pos (by omega), if_pos (by omega), rd_eq hi, rd_eq hj, if_pos c, wrS i (by omega)]
    · rw [if_neg (by simp only [List.cons.injEq, c, false_and, not_false_eq_true])]
      refine loop_done ?_
      unfold haulagelaw23_ints.b1
      rw [if_pos (by omega), if_pos (by omega), if_pos (by omega), rd_eq hi, rd_eq hj, if_neg c]
theorem ints_eq {k : Nat} (hk : Fuel k) (a b : List Int) (h : a.length < 4000000000 ∨ b.length < 4000000000) : haulagelaw23_ints.f k a b = some (decide (a = b)) := by
  have h24 : 1099511627776 ≤ k := hk
  unfold haulagelaw23_ints.f
  by_cases c : a.length = b.length
  · rw [if_pos (by omega), show (0 : Int) = ((0 : Nat) : Int) from rfl, bind_eq (ints_loop a b c a.length 0 k (by omega) (by omega) (by omega))]
    simp only [List.drop_zero]
    by_cases e : a = b
    · simp [e, haulagelaw23_ints.j2]
    · simp [e]
  · rw [if_neg (by omega), decide_eq_false (fun e => c (by rw [e]))]
/-! ### routes -/
theorem new_eq {a c : Int} (a0 : 1 ≤ a) (a1 : a ≤ 8) (c0 : 1 ≤ c) (c1 : c ≤ 64) : route_New.f a c = some (some ⟨RS.new a c, 0⟩, 0) := by
  unfold route_New.f; rw [if_neg (by omega)]
theorem new_no {a c : Int} (h : a < 1 ∨ 8 < a ∨ c < 1 ∨ 64 < c) : route_New.f a c = some (none, 2) := by
  unfold route_New.f; rw [if_pos h]
theorem where_eq (r : Rou) (s : Int) : route_Route_Where.f (some r) s = some (r.s.where_ s) := rfl
theorem shard_eq (r : Rou) (l : List Int) : route_Route_Shard.f (some r) l = some (jumpV (fnvV [l]) r.s.shards) := rfl
theorem fine_eq {r : Rou} {s v : Int} (h : r.s.is s v = true) (hn : r.n < 4611686018427387904) : route_Route_Fine.f (some r) s v = some (true, some ⟨r.s.fine s v, r.n + 1⟩) := by
  dsimp only [route_Route_Fine.f]; rw [if_pos h, if_pos hn]
theorem hint_eq {r : Rou} {s v : Int} (h : r.s.is s v = true) (hv : r.s.where_ s ≠ v) (hn : r.n < 4611686018427387904) : route_Route_Hint.f (some r) s v = some (true, some ⟨r.s.hint s v, r.n + 1⟩) := by
  dsimp only [route_Route_Hint.f]; rw [if_pos h, if_neg hv, if_pos hn]
theorem hint_eq_same {r : Rou} {s v : Int} (h : r.s.is s v = true) (hv : r.s.where_ s = v) : route_Route_Hint.f (some r) s v = some (false, some ⟨r.s.hints1, r.n⟩) := by
  dsimp only [route_Route_Hint.f]; rw [if_pos h, if_pos hv]
theorem known_true {k : Nat} (hk : Fuel k) : haulagelaw23_known.f k = some true := by
  unfold haulagelaw23_known.f
  rw [bind_eq (new_eq (by omega) (by omega) (by omega) (by omega)), bind_eq (num_eq _), if_pos rfl]
  unfold haulagelaw23_known.j1
  rw [if_neg (by simp), bind_eq (fine_eq k1_is (by decide))]
  refine Eq.trans (bind_eq (hint_eq_same (r := ⟨K1, 0 + 1⟩) k2_is k2_at)) ?_
  refine Eq.trans (bind_eq (hint_eq (r := ⟨K1.hints1, 0 + 1⟩) k3_is k3_at (by decide))) ?_
  rw [if_pos rfl, if_neg (by simp), if_pos rfl]
  refine Eq.trans (bind_eq (where_eq _ _)) ?_
  refine Eq.trans (if_pos k4_at) ?_
  have et : route_Route_Trail.f (some ⟨K1.hints1.hint 0 1, 0 + 1 + 1⟩) 0 = some [2] := by
    dsimp only [route_Route_Trail.f]
    rw [if_pos (by omega)]
    exact congrArg some k4_tr
  refine Eq.trans (bind_eq et) ?_
  rw [bind_eq (ints_eq hk _ _ (by simp))]
  rfl
theorem where_new {a c i : Int} (a0 : 1 ≤ a) (i0 : 0 ≤ i) (i1 : i < c) : (RS.new a c).where_ i = homeV i a := by
  unfold RS.where_
  rw [if_pos (by unfold RS.is RS.new; simp; omega)]
  rfl
theorem home_more (i : Int) {a : Int} (a0 : 1 ≤ a) (a1 : a ≤ 8) : homeV i (a + 1) = homeV i a ∨ homeV i (a + 1) = a := jumpV_more _ a0 (by omega)
section
variable {k : Nat} {a1 a2 : Int} {a3 : List (List Int)}
theorem homes_loop1 (hk : Fuel k) (s0 : 1 ≤ a1) (s1 : a1 ≤ 8) (h0 : 1 ≤ a2) (h1 : a2 ≤ 64) (t : Option Rou × Int) (ht : t = if a1 < 8 then (some ⟨RS.new (a1 + 1) a2, 0⟩, 0) else (none, 2)) :
    loop (fun (s_ : Int) => haulagelaw23_RouteHomes.b3 a1 a2 (some ⟨RS.new a1 a2, 0⟩, 0) t s_) k 0 = some (.inl ()) := by
  have h24 : 1099511627776 ≤ k := hk
  by_cases c : a1 < 8
  · rw [if_pos c] at ht; subst ht
    obtain ⟨x, hx, rfl⟩ := loop_inv (f := fun (s_ : Int) => haulagelaw23_RouteHomes.b3 a1 a2 (some ⟨RS.new a1 a2, 0⟩, 0) (some ⟨RS.new (a1 + 1) a2, 0⟩, 0) s_) (I := fun i s => s = (i : Int)) (P := fun x => x = .inl ()) (N := a2.toNat) (by
      rintro i s hi rfl
      refine .inl ⟨((i + 1 : Nat) : Int), ?_, rfl⟩
      unfold haulagelaw23_RouteHomes.b3
      rw [if_pos (by omega), bind_eq (num_eq _)]
      unfold haulagelaw23_RouteHomes.j1
      rw [if_pos (by simp), bind_eq (where_eq _ _), bind_eq (where_eq _ _)]
      simp only
      rw [where_new (by omega) (by omega) (by omega), where_new (by omega) (by omega) (by omega)]
      have fin : haulagelaw23_RouteHomes.j2 (i : Int) false = some (.next ((i + 1 : Nat) : Int)) := by
        unfold haulagelaw23_RouteHomes.j2; rw [if_neg (by simp), wrS i (by omega)]
      rcases home_more (i : Int) s0 s1 with e | e
      · rw [if_pos e]; exact fin
      · by_cases q : homeV i (a1 + 1) = homeV i a1
        · rw [if_pos q]; exact fin
        · rw [if_neg q, bind_eq (where_eq _ _)]
          simp only
          rw [where_new (by omega) (by omega) (by omega), e]
          simpa using fin) (by
      rintro s rfl
      refine ⟨_, ?_, rfl⟩
      unfold haulagelaw23_RouteHomes.b3 haulagelaw23_RouteHomes.j1
      rw [if_neg (by omega), if_neg (by simp)]) a2.toNat 0 ((0 : Nat) : Int) k rfl (by omega) (by omega)
    exact hx
  · rw [if_neg c] at ht; subst ht
    obtain ⟨k, rfl⟩ : ∃ k', k = k' + 1 := ⟨k - 1, by omega⟩
    refine loop_done ?_
    unfold haulagelaw23_RouteHomes.b3 haulagelaw23_RouteHomes.j1
    rw [if_pos (by omega), bind_eq (num_eq _), if_neg (by simp)]
theorem homes_loop2 (hk : Fuel k) (s0 : 1 ≤ a1) (s1 : a1 ≤ 8) (h0 : 1 ≤ a2) (h1 : a2 ≤ 64) (t : Option Rou × Int) (ht : t = if a2 < 64 then (some ⟨RS.new a1 (a2 + 1), 0⟩, 0) else (none, 2)) :
    loop (fun (s_ : Int) => haulagelaw23_RouteHomes.b6 a2 (some ⟨RS.new a1 a2, 0⟩, 0) t s_) k 0 = some (.inl ()) := by
  have h24 : 1099511627776 ≤ k := hk
  by_cases c : a2 < 64
  · rw [if_pos c] at ht; subst ht
    obtain ⟨x, hx, rfl⟩ := loop_inv (f := fun (s_ : Int) => haulagelaw23_RouteHomes.b6 a2 (some ⟨RS.new a1 a2, 0⟩, 0) (some ⟨RS.new a1 (a2 + 1), 0⟩, 0) s_) (I := fun i s => s = (i : Int)) (P := fun x => x = .inl ()) (N := a2.toNat) (by
      rintro i s hi rfl
      refine .inl ⟨((i + 1 : Nat) : Int), ?_, rfl⟩
      unfold haulagelaw23_RouteHomes.b6
      rw [if_pos (by omega), bind_eq (num_eq _)]
      unfold haulagelaw23_RouteHomes.j5
      rw [if_pos (by simp), bind_eq (where_eq _ _), bind_eq (where_eq _ _)]
      simp only
      rw [where_new (by omega) (by omega) (by omega), where_new (by omega) (by omega) (by omega), if_pos rfl, wrS i (by omega)]) (by
      rintro s rfl
      refine ⟨_, ?_, rfl⟩
      unfold haulagelaw23_RouteHomes.b6 haulagelaw23_RouteHomes.j5
      rw [if_neg (by omega), if_neg (by simp)]) a2.toNat 0 ((0 : Nat) : Int) k rfl (by omega) (by omega)
    exact hx
  · rw [if_neg c] at ht; subst ht
    obtain ⟨k, rfl⟩ : ∃ k', k = k' + 1 := ⟨k - 1, by omega⟩
    refine loop_done ?_
    unfold haulagelaw23_RouteHomes.b6 haulagelaw23_RouteHomes.j5
    rw [if_pos (by omega), bind_eq (num_eq _), if_neg (by simp)]
theorem homes_loop3 (hk : Fuel k) (s0 : 1 ≤ a1) (s1 : a1 ≤ 8) (h0 : 1 ≤ a2) (h1 : a2 ≤ 64) (hl : a3.length < 1000000000) (t : Option Rou × Int) (ht : t = if a2 < 64 then (some ⟨RS.new a1 (a2 + 1), 0⟩, 0) else (none, 2)) :
    loop (fun (s_ : Int) => haulagelaw23_RouteHomes.b10 a2 a3 (some ⟨RS.new a1 a2, 0⟩, 0) t s_) k 0 = some (.inl ()) := by
  have h24 : 1099511627776 ≤ k := hk
  by_cases c : a2 < 64
  · rw [if_pos c] at ht; subst ht
    obtain ⟨x, hx, rfl⟩ := loop_inv (f := fun (s_ : Int) => haulagelaw23_RouteHomes.b10 a2 a3 (some ⟨RS.new a1 a2, 0⟩, 0) (some ⟨RS.new a1 (a2 + 1), 0⟩, 0) s_) (I := fun i s => s = (i : Int)) (P := fun x => x = .inl ()) (N := a3.length) (by
      rintro i s hi rfl
      refine .inl ⟨((i + 1 : Nat) : Int), ?_, rfl⟩
      unfold haulagelaw23_RouteHomes.b10
      rw [if_pos (by omega), bind_eq (num_eq _)]
      unfold haulagelaw23_RouteHomes.j8
      rw [if_pos (by simp), if_pos (by omega), if_pos (by omega), bind_eq (shard_eq _ _), bind_eq (shard_eq _ _)]
      have fin : haulagelaw23_RouteHomes.j9 (i : Int) false = some (.next ((i + 1 : Nat) : Int)) := by
        unfold haulagelaw23_RouteHomes.j9; rw [if_neg (by simp), wrS i (by omega)]
      show (if jumpV (fnvV [rd a3 i]) (a2 + 1) = jumpV (fnvV [rd a3 i]) a2 then _ else _) = _
      by_cases q : jumpV (fnvV [rd a3 i]) (a2 + 1) = jumpV (fnvV [rd a3 i]) a2
      · rw [if_pos q]; exact fin
      · rcases jumpV_more (fnvV [rd a3 i]) h0 (by omega) with e | e
        · exact absurd e q
        · rw [if_neg q, if_pos (by omega), bind_eq (shard_eq _ _)]
          show haulagelaw23_RouteHomes.j9 (i : Int) (!decide (jumpV (fnvV [rd a3 i]) (a2 + 1) = a2)) = _
          rw [e]
          simpa using fin) (by
      rintro s rfl
      refine ⟨_, ?_, rfl⟩
      unfold haulagelaw23_RouteHomes.b10 haulagelaw23_RouteHomes.j8
      rw [if_neg (by omega), if_neg (by simp)]) a3.length 0 ((0 : Nat) : Int) k rfl (by omega) (by omega)
    exact hx
  · rw [if_neg c] at ht; subst ht
    obtain ⟨k, rfl⟩ : ∃ k', k = k' + 1 := ⟨k - 1, by omega⟩
    refine loop_done ?_
    unfold haulagelaw23_RouteHomes.b10 haulagelaw23_RouteHomes.j8
    by_cases q : (0 : Int) < a3.length
    · rw [if_pos q, bind_eq (num_eq _), if_neg (by simp)]
    · rw [if_neg q, if_neg (by simp)]
theorem RouteHomes_true (hk : Fuel k) (hl : a3.length < 1000000000) : haulagelaw23_RouteHomes.f k a1 a2 a3 = some true := by
  have h24 : 1099511627776 ≤ k := hk
  unfold haulagelaw23_RouteHomes.f
  rw [bind_eq (known_true hk), if_pos rfl]
  by_cases c : a1 < 1 ∨ 8 < a1 ∨ a2 < 1 ∨ 64 < a2
  · rw [bind_eq (new_no c), bind_eq (num_eq _), if_neg (by simp)]; rfl
  · have s0 : 1 ≤ a1 := by omega
    have s1 : a1 ≤ 8 := by omega
    have h0 : 1 ≤ a2 := by omega
    have h1 : a2 ≤ 64 := by omega
    rw [bind_eq (new_eq s0 s1 h0 h1), bind_eq (num_eq _), if_pos rfl, wr (n := a1 + 1) (by omega) (by omega)]
    have e1 : route_New.f (a1 + 1) a2 = some (if a1 < 8 then (some ⟨RS.new (a1 + 1) a2, 0⟩, 0) else (none, 2)) := by
      by_cases q : a1 < 8
      · rw [if_pos q]; exact new_eq (by omega) (by omega) h0 h1
      · rw [if_neg q]; exact new_no (by omega)
    have e2 : route_New.f a1 (a2 + 1) = some (if a2 < 64 then (some ⟨RS.new a1 (a2 + 1), 0⟩, 0) else (none, 2)) := by
      by_cases q : a2 < 64
      · rw [if_pos q]; exact new_eq s0 s1 (by omega) (by omega)
      · rw [if_neg q]; exact new_no (by omega)
    rw [bind_eq e1, bind_eq (homes_loop1 hk s0 s1 h0 h1 _ rfl)]
    show haulagelaw23_RouteHomes.j4 k a1 a2 a3 _ _ = _
    unfold haulagelaw23_RouteHomes.j4
    rw [wr (n := a2 + 1) (by omega) (by omega), bind_eq e2, bind_eq (homes_loop2 hk s0 s1 h0 h1 _ rfl)]
    show haulagelaw23_RouteHomes.j7 k a1 a2 a3 _ _ _ = _
    unfold haulagelaw23_RouteHomes.j7
    rw [bind_eq (homes_loop3 hk s0 s1 h0 h1 hl _ rfl)]
    show haulagelaw23_RouteHomes.j11 a1 a2 _ _ = _
    unfold haulagelaw23_RouteHomes.j11
    rw [bind_eq (num_eq _)]
    by_cases q1 : a1 < 8
    · rw [if_pos q1]
      simp only [q1, decide_true, beq_self_eq_true, if_true]
      rw [bind_eq (num_eq _)]
      by_cases q2 : a2 < 64
      · rw [if_pos q2]; simp [q2]
      · rw [if_neg q2]; simp [q2]
    · rw [if_neg q1, if_pos (by simp; omega), bind_eq (num_eq _)]
      by_cases q2 : a2 < 64
      · rw [if_pos q2]; simp [q2]
      · rw [if_neg q2]; simp [q2]
end
end Go.Proofs.Ytohljkjaggcapaa.G
/-! The plain law of RouteBooks. -/
namespace Go.Proofs.Ytohljkjaggcapaa.G
open Go Go.Proofs.Ytohljkjaggcapaa.RT Go.Proofs.Ytohljkjaggcapaa.JQ Go.Proofs.Ytohljkjaggcapaa.JF
set_option linter.unusedVariables false
set_option linter.unusedSimpArgs false
/-! ### a route's shards -/
structure Good (a1 a2 : Int) (S : RS) : Prop where
  sv : S.servers = a1
  sh : S.shards = a2
  s0 : 1 ≤ a1
  s1 : a1 ≤ 8
  h0 : 1 ≤ a2
  h1 : a2 ≤ 64
  wf : ∀ k v, S.wh k = some v → 0 ≤ v ∧ v < a1
theorem is_iff (S : RS) (s v : Int) : S.is s v = true ↔ 0 ≤ s ∧ s < S.shards ∧ 0 ≤ v ∧ v < S.servers := by unfold RS.is; simp
section
variable {a1 a2 : Int} {S : RS}
theorem Good.where_in (h : Good a1 a2 S) {s : Int} (i0 : 0 ≤ s) (i1 : s < a2) : 0 ≤ S.where_ s ∧ S.where_ s < a1 := by
  unfold RS.where_
  have := h.s0
  rw [if_pos ((is_iff S s 0).2 (by rw [h.sv, h.sh]; omega))]
  cases e : S.wh s with
  | some v => exact h.wf s v e
  | none => simp only; rw [h.sv]; exact jumpV_bd h.s0 (by have := h.s1; omega)
theorem Good.where_out (h : Good a1 a2 S) {s : Int} (i : ¬ (0 ≤ s ∧ s < a2)) : S.where_ s = -1 := by
  unfold RS.where_
  rw [if_neg (fun q => i (by have := (is_iff S s 0).1 q; rw [h.sh] at this; exact ⟨this.1, this.2.1⟩))]
theorem where_set (h : Good a1 a2 S) {S' : RS} (es : S'.servers = S.servers) (eh : S'.shards = S.shards) {s v : Int} (hi : S.is s v = true) (ew : S'.wh = fun j => if j = s then some v else S.wh j) (t : Int) :
    S'.where_ t = if t = s then v else S.where_ t := by
  obtain ⟨i0, i1, i2, i3⟩ := (is_iff S s v).1 hi
  have e1 : S'.is t 0 = S.is t 0 := by unfold RS.is; rw [es, eh]
  by_cases c : t = s
  · subst c
    rw [if_pos rfl]
    unfold RS.where_
    rw [if_pos ((is_iff S' t 0).2 (by rw [es, eh]; omega)), ew]
    simp
  · rw [if_neg c]
    unfold RS.where_
    rw [e1, ew, es]
    simp only [if_neg c]
theorem where_fine (h : Good a1 a2 S) {s v : Int} (hi : S.is s v = true) (t : Int) : (S.fine s v).where_ t = if t = s then v else S.where_ t := where_set h (S' := S.fine s v) rfl rfl hi rfl t
theorem where_hint (h : Good a1 a2 S) {s v : Int} (hi : S.is s v = true) (t : Int) : (S.hint s v).where_ t = if t = s then v else S.where_ t := where_set h (S' := S.hint s v) rfl rfl hi rfl t
theorem Good.set (h : Good a1 a2 S) {S' : RS} (es : S'.servers = S.servers) (eh : S'.shards = S.shards) {s v : Int} (hi : S.is s v = true) (ew : S'.wh = fun j => if j = s then some v else S.wh j) : Good a1 a2 S' := by
  obtain ⟨i0, i1, i2, i3⟩ := (is_iff S s v).1 hi
  refine ⟨es.trans h.sv, eh.trans h.sh, h.s0, h.s1, h.h0, h.h1, fun k u hu => ?_⟩
  rw [ew] at hu
  simp only at hu
  split at hu
  · cases hu; exact ⟨i2, by rw [← h.sv]; exact i3⟩
  · exact h.wf k u hu
theorem Good.new (s0 : 1 ≤ a1) (s1 : a1 ≤ 8) (h0 : 1 ≤ a2) (h1 : a2 ≤ 64) : Good a1 a2 (RS.new a1 a2) := ⟨rfl, rfl, s0, s1, h0, h1, fun k v h => by cases h⟩
/-! ### the lists of servers -/
theorem mem_at (x v : Int) : x ∈ atV S v ↔ (0 ≤ x ∧ x < S.shards) ∧ S.where_ x = v := by
  unfold atV
  rw [List.mem_filter, List.mem_map]
  constructor
  · rintro ⟨⟨n, hn, rfl⟩, h⟩
    exact ⟨by have := List.mem_range.1 hn; omega, of_decide_eq_true h⟩
  · rintro ⟨h, h2⟩
    exact ⟨⟨x.toNat, List.mem_range.2 (by omega), by omega⟩, decide_eq_true h2⟩
theorem at_rises (v : Int) : (atV S v).Pairwise (· < ·) := by
  unfold atV
  refine List.Pairwise.filter _ ?_
  rw [List.pairwise_map]
  exact List.pairwise_lt_range.imp (fun h => by omega)
def upTo (S : RS) (t : Int) : Nat := ((List.map (fun n : Nat => (n : Int)) (List.range S.shards.toNat)).filter fun s => decide (S.where_ s ≤ t)).length
theorem filter_step (f : Int → Int) (t : Int) : ∀ l : List Int, (l.filter fun s => decide (f s ≤ t)).length = (l.filter fun s => decide (f s ≤ t - 1)).length + (l.filter fun s => decide (f s = t)).length
  | [] => rfl
  | x :: l => by
    have := filter_step f t l
    simp only [List.filter_cons]
    by_cases c1 : f x ≤ t - 1
    · rw [if_pos (by simp; omega), if_pos (by simp; omega), if_neg (by simp; omega)]
      simp only [List.length_cons]; omega
    · by_cases c2 : f x = t
      · rw [if_pos (by simp; omega), if_neg (by simp; omega), if_pos (by simp; omega)]
        simp only [List.length_cons]; omega
      · rw [if_neg (by simp; omega), if_neg (by simp; omega), if_neg (by simp; omega)]
        exact this
theorem upTo_step (t : Int) : upTo S t = upTo S (t - 1) + (atV S t).length := filter_step _ _ _
theorem upTo_none (h : Good a1 a2 S) : upTo S (-2) = 0 := by
  unfold upTo
  rw [List.length_eq_zero_iff, List.filter_eq_nil_iff]
  intro x hx
  obtain ⟨n, hn, rfl⟩ := List.mem_map.1 hx
  have hn := List.mem_range.1 hn
  rw [h.sh] at hn
  have := h.where_in (s := n) (by omega) (by omega)
  simp; omega
theorem upTo_all (h : Good a1 a2 S) : (upTo S a1 : Int) = a2 := by
  unfold upTo
  rw [List.filter_eq_self.2]
  · simp [h.sh]; have := h.h0; omega
  · intro x hx
    obtain ⟨n, hn, rfl⟩ := List.mem_map.1 hx
    have hn := List.mem_range.1 hn
    rw [h.sh] at hn
    have := h.where_in (s := n) (by omega) (by omega)
    simp; omega
theorem at_le (h : Good a1 a2 S) (v : Int) : (atV S v).length ≤ 64 := by
  unfold atV
  refine Nat.le_trans (List.length_filter_le _ _) ?_
  simp [h.sh]; have := h.h1; omega
end
/-! ### the script -/
section
variable {k : Nat} {a1 a2 a11 : Int} {a3 : List haulagelaw23_Op} {a7 : List (List Int)}
theorem j7_yes {t97 : Int} {b : Bool} {i : Nat} {r : Rou} {mv : Int} (hi : i < 1000000000) (hw : r.s.where_ (rd a3 (i : Int)).Shard = (rd a3 (i : Int)).Server) (v0 : 0 ≤ (rd a3 (i : Int)).Server) (v1 : (rd a3 (i : Int)).Server < a1) :
    haulagelaw23_RouteBooks.j7 a1 a3 a11 t97 b i (some r) mv true = some (.next (some r, b || decide ((rd a3 (i : Int)).Shard = a11), mv, ((i + 1 : Nat) : Int))) := by
  unfold haulagelaw23_RouteBooks.j7
  rw [if_pos rfl, bind_eq (where_eq _ _), if_pos hw, if_neg (by omega), if_neg (by omega)]
  unfold haulagelaw23_RouteBooks.j8
  rw [if_neg (by simp), wrS i (by omega)]
  cases b <;> simp
theorem j7_no {t97 : Int} {b : Bool} {i : Nat} {r : Rou} {mv : Int} (hi : i < 1000000000) (hw : r.s.where_ (rd a3 (i : Int)).Shard = t97) :
    haulagelaw23_RouteBooks.j7 a1 a3 a11 t97 b i (some r) mv false = some (.next (some r, b, mv, ((i + 1 : Nat) : Int))) := by
  unfold haulagelaw23_RouteBooks.j7
  rw [if_neg (by simp), bind_eq (where_eq _ _)]
  unfold haulagelaw23_RouteBooks.j8
  rw [if_neg (by simp [hw]), wrS i (by omega)]
  cases b <;> simp
structure Bk (a1 a2 was a11 : Int) (i : Nat) (s : (Option Rou) × Bool × Int × Int) (r : Rou) : Prop where
  e : s.1 = some r
  ix : s.2.2.2 = (i : Int)
  g : Good a1 a2 r.s
  n : r.n ≤ i
  mv : s.2.2.1 = r.s.moved
  m0 : 0 ≤ r.s.moved
  m1 : r.s.moved ≤ i
  st : s.2.1 = false → r.s.where_ a11 = was
theorem fine_eq_no {r : Rou} {s v : Int} (h : ¬ r.s.is s v = true) : route_Route_Fine.f (some r) s v = some (false, some r) := by
  dsimp only [route_Route_Fine.f]; rw [if_neg h]
theorem hint_eq_no {r : Rou} {s v : Int} (h : ¬ r.s.is s v = true) : route_Route_Hint.f (some r) s v = some (false, some r) := by
  dsimp only [route_Route_Hint.f]; rw [if_neg h]
set_option maxHeartbeats 1000000 in
theorem books_step {was : Int} {i : Nat} {s : (Option Rou) × Bool × Int × Int} {r : Rou} (hl : a3.length < 1000000000) (hi : i < a3.length) (h : Bk a1 a2 was a11 i s r) :
    ∃ s' r', haulagelaw23_RouteBooks.b9 a1 a3 a11 s.1 s.2.1 s.2.2.1 s.2.2.2 = some (.next s') ∧ Bk a1 a2 was a11 (i + 1) s' r' := by
  obtain ⟨s1, b, mv, si⟩ := s
  obtain ⟨e, ei, g, hn, hm, m0, m1, st⟩ := h
  simp only at e ei hm st
  subst e; subst ei
  simp only
  unfold haulagelaw23_RouteBooks.b9
  rw [if_pos (by omega), if_pos (by omega), bind_eq (where_eq _ _)]
  have n62 : r.n < 4611686018427387904 := by omega
  by_cases k0 : (rd a3 (i : Int)).Kind = 0
  · rw [if_pos k0]
    by_cases c : r.s.is (rd a3 (i : Int)).Shard (rd a3 (i : Int)).Server = true
    · rw [bind_eq (fine_eq c n62)]
      obtain ⟨i0, i1, i2, i3⟩ := (is_iff _ _ _).1 c
      rw [g.sv] at i3
      rw [j7_yes (by omega) (by show (r.s.fine _ _).where_ _ = _; rw [where_fine g c, if_pos rfl]) i2 i3]
      refine ⟨_, ⟨r.s.fine _ _, r.n + 1⟩, rfl, rfl, rfl, g.set rfl rfl c rfl, by show r.n + 1 ≤ i + 1; omega, hm, m0, by show r.s.moved ≤ _; omega, fun q => ?_⟩
      simp only [Bool.or_eq_false_iff, decide_eq_false_iff_not] at q
      show (r.s.fine _ _).where_ a11 = was
      rw [where_fine g c, if_neg (fun z => q.2 z.symm)]
      exact st q.1
    · rw [bind_eq (fine_eq_no c), j7_no (by omega) rfl]
      exact ⟨_, r, rfl, rfl, rfl, g, by omega, hm, m0, by omega, st⟩
  · rw [if_neg k0]
    by_cases k1 : (rd a3 (i : Int)).Kind = 1
    · rw [if_pos k1]
      by_cases c : r.s.is (rd a3 (i : Int)).Shard (rd a3 (i : Int)).Server = true
      · obtain ⟨i0, i1, i2, i3⟩ := (is_iff _ _ _).1 c
        rw [g.sv] at i3
        by_cases cv : r.s.where_ (rd a3 (i : Int)).Shard = (rd a3 (i : Int)).Server
        · rw [bind_eq (hint_eq_same c cv), if_neg (by simp)]
          unfold haulagelaw23_RouteBooks.j5
          rw [if_neg (by simp [cv])]
          unfold haulagelaw23_RouteBooks.j6
          rw [if_neg (by simp), j7_no (r := ⟨r.s.hints1, r.n⟩) (t97 := r.s.where_ (rd a3 (i : Int)).Shard) (by omega) rfl]
          exact ⟨_, ⟨r.s.hints1, r.n⟩, rfl, rfl, rfl, ⟨g.sv, g.sh, g.s0, g.s1, g.h0, g.h1, g.wf⟩, by show r.n ≤ i + 1; omega, hm, m0, by show r.s.moved ≤ _; omega, st⟩
        · rw [bind_eq (hint_eq c cv n62), if_pos rfl]
          unfold haulagelaw23_RouteBooks.j5
          rw [if_neg (by simp [cv])]
          unfold haulagelaw23_RouteBooks.j6
          rw [if_neg (by simp), j7_yes (by omega) (by show (r.s.hint _ _).where_ _ = _; rw [where_hint g c, if_pos rfl]) i2 i3]
          have em : (r.s.hint (rd a3 (i : Int)).Shard (rd a3 (i : Int)).Server).moved = r.s.moved + 1 := w64_id (by omega) (by omega)
          refine ⟨_, ⟨r.s.hint _ _, r.n + 1⟩, rfl, rfl, rfl, g.set rfl rfl c rfl, by show r.n + 1 ≤ i + 1; omega, ?_, by show 0 ≤ (r.s.hint _ _).moved; rw [em]; omega, by show (r.s.hint _ _).moved ≤ _; rw [em]; omega, fun q => ?_⟩
          · show IntKind.i64.wrap (mv + 1) = (r.s.hint _ _).moved
            rw [em, hm, wr (by omega) (by omega)]
          · simp only [Bool.or_eq_false_iff, decide_eq_false_iff_not] at q
            show (r.s.hint _ _).where_ a11 = was
            rw [where_hint g c, if_neg (fun z => q.2 z.symm)]
            exact st q.1
      · rw [bind_eq (hint_eq_no c), if_neg (by simp)]
        have fin : haulagelaw23_RouteBooks.j5 a1 a3 a11 (r.s.where_ (rd a3 (i : Int)).Shard) (false, some r) b (i : Int) mv = haulagelaw23_RouteBooks.j6 a1 a3 a11 (r.s.where_ (rd a3 (i : Int)).Shard) (false, some r) b (i : Int) mv false := by
          unfold haulagelaw23_RouteBooks.j5
          by_cases q1 : (false == decide (r.s.where_ (rd a3 (i : Int)).Shard = (rd a3 (i : Int)).Server)) = true
          · rw [if_pos q1]
            by_cases q2 : 0 ≤ r.s.where_ (rd a3 (i : Int)).Shard
            · rw [if_pos q2]
              by_cases q3 : 0 ≤ (rd a3 (i : Int)).Server
              · rw [if_pos q3, decide_eq_false]
                intro q4
                refine c ((is_iff _ _ _).2 ?_)
                rw [g.sh, g.sv]
                by_cases q5 : 0 ≤ (rd a3 (i : Int)).Shard ∧ (rd a3 (i : Int)).Shard < a2
                · exact ⟨q5.1, q5.2, q3, q4⟩
                · have := g.where_out q5; omega
              · rw [if_neg q3]
            · rw [if_neg q2]
          · rw [if_neg q1]
        rw [fin]
        unfold haulagelaw23_RouteBooks.j6
        rw [if_neg (by simp), j7_no (by omega) rfl]
        exact ⟨_, r, rfl, rfl, rfl, g, by omega, hm, m0, by omega, st⟩
    · rw [if_neg k1, j7_no (by omega) rfl]
      exact ⟨_, r, rfl, rfl, rfl, g, by omega, hm, m0, by omega, st⟩
theorem books_script (hk : Fuel k) (s0 : 1 ≤ a1) (s1 : a1 ≤ 8) (h0 : 1 ≤ a2) (h1 : a2 ≤ 64) (hl : a3.length < 1000000000) :
    ∃ r b mv, loop (fun (s_ : (Option Rou) × Bool × Int × Int) => haulagelaw23_RouteBooks.b9 a1 a3 a11 s_.1 s_.2.1 s_.2.2.1 s_.2.2.2) k (some ⟨RS.new a1 a2, 0⟩, false, 0, 0) = some (.inl (some r, b, mv)) ∧
      Good a1 a2 r.s ∧ mv = r.s.moved ∧ (b = false → r.s.where_ a11 = (RS.new a1 a2).where_ a11) := by
  have h24 : 1099511627776 ≤ k := hk
  obtain ⟨x, hx, r, b, mv, rfl, h⟩ := loop_inv (f := fun (s_ : (Option Rou) × Bool × Int × Int) => haulagelaw23_RouteBooks.b9 a1 a3 a11 s_.1 s_.2.1 s_.2.2.1 s_.2.2.2)
    (I := fun i s => ∃ r, Bk a1 a2 ((RS.new a1 a2).where_ a11) a11 i s r)
    (P := fun x => ∃ r b mv, x = Sum.inl (some r, b, mv) ∧ Good a1 a2 r.s ∧ mv = r.s.moved ∧ (b = false → r.s.where_ a11 = (RS.new a1 a2).where_ a11)) (N := a3.length)
    (fun i s hi ⟨r, h⟩ => by obtain ⟨s', r', e, h'⟩ := books_step (a3 := a3) hl hi h; exact .inl ⟨s', e, r', h'⟩)
    (fun s ⟨r, h⟩ => by
      obtain ⟨s1, b, mv, si⟩ := s
      obtain ⟨e, ei, g, hn, hm, m0, m1, st⟩ := h
      simp only at e ei hm st
      subst e; subst ei
      refine ⟨_, ?_, r, b, mv, rfl, g, hm, st⟩
      simp only
      unfold haulagelaw23_RouteBooks.b9
      rw [if_neg (by omega)]) a3.length 0 (some ⟨RS.new a1 a2, 0⟩, false, ((0 : Nat) : Int), ((0 : Nat) : Int)) k ⟨⟨RS.new a1 a2, 0⟩, rfl, rfl, Good.new s0 s1 h0 h1, Nat.le_refl _, rfl, Int.le_refl 0, by show (0 : Int) ≤ ((0 : Nat) : Int); omega, fun _ => rfl⟩ (by omega) (by omega)
  exact ⟨r, b, mv, hx, h⟩
/-! ### the lists -/
theorem books_list (hk : Fuel k) {r : Rou} (g : Good a1 a2 r.s) (v : Int) (n : Int) (n0 : 0 ≤ n) (n1 : n ≤ 100000) :
    loop (fun (s_ : Int × Int) => haulagelaw23_RouteBooks.b13 (some r) v (atV r.s v) s_.1 s_.2) k (n, 0) = some (.inl (n + (atV r.s v).length)) := by
  have h24 : 1099511627776 ≤ k := hk
  have hle := at_le g v
  obtain ⟨x, hx, rfl⟩ := loop_inv (f := fun (s_ : Int × Int) => haulagelaw23_RouteBooks.b13 (some r) v (atV r.s v) s_.1 s_.2) (I := fun i s => s = (n + i, (i : Int))) (P := fun x => x = .inl (n + (atV r.s v).length)) (N := (atV r.s v).length) (by
    rintro i s hi rfl
    refine .inl ⟨(n + ((i + 1 : Nat) : Int), ((i + 1 : Nat) : Int)), ?_, rfl⟩
    simp only
    unfold haulagelaw23_RouteBooks.b13
    rw [if_pos (by omega), if_pos (by omega), bind_eq (where_eq _ _), rd_eq hi]
    have hm := (mem_at (S := r.s) _ v).1 (List.getElem_mem hi)
    rw [if_pos hm.2]
    have fin : haulagelaw23_RouteBooks.j12 (n + i) (i : Int) false = some (.next (n + ((i + 1 : Nat) : Int), ((i + 1 : Nat) : Int))) := by
      unfold haulagelaw23_RouteBooks.j12
      rw [if_neg (by simp), wrS i (by omega), wr (by omega) (by omega)]
      congr 3
      omega
    by_cases q : i = 0
    · subst q; rw [if_neg (by simp)]; exact fin
    · rw [if_pos (by omega), if_pos (by omega), wr (by omega) (by omega), if_pos (by omega)]
      have e1 : ((i : Int) - 1) = ((i - 1 : Nat) : Int) := by omega
      rw [e1, rd_eq (by omega)]
      have hr := List.pairwise_iff_getElem.1 (at_rises (S := r.s) v) (i - 1) i (by omega) hi (by omega)
      rw [decide_eq_false (by omega)]
      exact fin) (by
    rintro s rfl
    refine ⟨_, ?_, rfl⟩
    simp only
    unfold haulagelaw23_RouteBooks.b13
    rw [if_neg (by omega)]) (atV r.s v).length 0 (n + ((0 : Nat) : Int), ((0 : Nat) : Int)) k rfl (by omega) (by omega)
  simpa using hx
theorem at_eq (r : Rou) (v : Int) : route_Route_At.f (some r) v = some (atV r.s v) := rfl
theorem books_lists (hk : Fuel k) {r : Rou} (g : Good a1 a2 r.s) :
    loop (fun (s_ : Int × Int) => haulagelaw23_RouteBooks.b15 k a1 (some r) s_.1 s_.2) k (0, -1) = some (.inl a2) := by
  have h24 : 1099511627776 ≤ k := hk
  have hs1 := g.s1
  have hs0 := g.s0
  have small : ∀ t : Int, upTo r.s t ≤ 64 := fun t => by
    unfold upTo
    refine Nat.le_trans (List.length_filter_le _ _) ?_
    simp [g.sh]; have := g.h1; omega
  obtain ⟨x, hx, rfl⟩ := loop_inv (f := fun (s_ : Int × Int) => haulagelaw23_RouteBooks.b15 k a1 (some r) s_.1 s_.2) (I := fun i s => s = ((upTo r.s ((i : Int) - 2) : Int), (i : Int) - 1)) (P := fun x => x = .inl a2) (N := a1.toNat + 2) (by
    rintro i s hi rfl
    refine .inl ⟨((upTo r.s (((i + 1 : Nat) : Int) - 2) : Int), ((i + 1 : Nat) : Int) - 1), ?_, rfl⟩
    simp only
    unfold haulagelaw23_RouteBooks.b15
    rw [if_pos (by omega), bind_eq (at_eq _ _), bind_eq (books_list hk g _ _ (by omega) (by have := small ((i : Int) - 2); omega))]
    simp only
    unfold haulagelaw23_RouteBooks.j14
    rw [wr (by omega) (by omega)]
    have e1 : ((i : Int) - 1 + 1) = ((i + 1 : Nat) : Int) - 1 := by omega
    have e2 : (upTo r.s ((i : Int) - 2) : Int) + (atV r.s ((i : Int) - 1)).length = (upTo r.s (((i + 1 : Nat) : Int) - 2) : Int) := by
      have := upTo_step (S := r.s) ((i : Int) - 1)
      have e3 : ((i + 1 : Nat) : Int) - 2 = (i : Int) - 1 := by omega
      have e4 : (i : Int) - 1 - 1 = (i : Int) - 2 := by omega
      rw [e3, this, e4]
      omega
    rw [e1, e2]) (by
    rintro s rfl
    refine ⟨_, ?_, rfl⟩
    simp only
    unfold haulagelaw23_RouteBooks.b15
    rw [if_neg (by omega)]
    have e3 : ((a1.toNat + 2 : Nat) : Int) - 2 = a1 := by omega
    rw [e3, upTo_all g]) (a1.toNat + 2) 0 ((upTo r.s (((0 : Nat) : Int) - 2) : Int), ((0 : Nat) : Int) - 1) k rfl (by omega) (by omega)
  have e5 : (upTo r.s (((0 : Nat) : Int) - 2) : Int) = 0 := by
    have := upTo_none g
    have e6 : (((0 : Nat) : Int) - 2) = -2 := by omega
    rw [e6, this]; rfl
  rw [e5] at hx
  simpa using hx
theorem books_keys (hk : Fuel k) {r : Rou} (g : Good a1 a2 r.s) (hl : a7.length < 1000000000) :
    loop (fun (s_ : Int) => haulagelaw23_RouteBooks.b18 a2 a7 (some r) s_) k 0 = some (.inl ()) := by
  have h24 : 1099511627776 ≤ k := hk
  obtain ⟨x, hx, rfl⟩ := loop_inv (f := fun (s_ : Int) => haulagelaw23_RouteBooks.b18 a2 a7 (some r) s_) (I := fun i s => s = (i : Int)) (P := fun x => x = .inl ()) (N := a7.length) (by
    rintro i s hi rfl
    refine .inl ⟨((i + 1 : Nat) : Int), ?_, rfl⟩
    unfold haulagelaw23_RouteBooks.b18
    rw [if_pos (by omega), if_pos (by omega), bind_eq (shard_eq _ _), g.sh]
    have := jumpV_bd (h := fnvV [rd a7 (i : Int)]) g.h0 (by have := g.h1; omega)
    rw [if_neg (by omega), decide_eq_false (by omega)]
    unfold haulagelaw23_RouteBooks.j17
    rw [if_neg (by simp), wrS i (by omega)]) (by
    rintro s rfl
    refine ⟨_, ?_, rfl⟩
    unfold haulagelaw23_RouteBooks.b18
    rw [if_neg (by omega)]) a7.length 0 ((0 : Nat) : Int) k rfl (by omega) (by omega)
  exact hx
theorem counts_eq (r : Rou) : route_Route_Counts.f (some r) = some (r.s.good, r.s.hints, r.s.moved) := rfl
theorem RouteBooks_true (hk : Fuel k) (hl : a3.length < 1000000000) (hl7 : a7.length < 1000000000) : haulagelaw23_RouteBooks.f k a1 a2 a3 a7 a11 = some true := by
  have h24 : 1099511627776 ≤ k := hk
  unfold haulagelaw23_RouteBooks.f
  rw [bind_eq (known_true hk), if_pos rfl]
  by_cases c : a1 < 1 ∨ 8 < a1 ∨ a2 < 1 ∨ 64 < a2
  · rw [bind_eq (new_no c), bind_eq (num_eq _), if_neg (by simp)]; rfl
  · have s0 : 1 ≤ a1 := by omega
    have s1 : a1 ≤ 8 := by omega
    have h0 : 1 ≤ a2 := by omega
    have h1 : a2 ≤ 64 := by omega
    rw [bind_eq (new_eq s0 s1 h0 h1), bind_eq (num_eq _), if_pos rfl, bind_eq (where_eq _ _)]
    obtain ⟨r, b, mv, e, g, hm, st⟩ := books_script (a11 := a11) (a3 := a3) hk s0 s1 h0 h1 hl
    rw [bind_eq e]
    simp only
    unfold haulagelaw23_RouteBooks.j10
    rw [bind_eq (counts_eq r)]
    have fin : haulagelaw23_RouteBooks.j11 k a1 a2 a7 (some r) (!decide (r.s.moved = mv)) = some true := by
      unfold haulagelaw23_RouteBooks.j11
      rw [if_neg (by simp [hm]), bind_eq (books_lists hk g)]
      simp only
      unfold haulagelaw23_RouteBooks.j16
      rw [bind_eq (books_keys hk g hl7)]
      simp only
      unfold haulagelaw23_RouteBooks.j19
      simp
    cases b with
    | true => rw [if_pos rfl]; exact fin
    | false =>
      rw [if_neg (by simp), bind_eq (where_eq _ _), if_pos (st rfl)]
      exact fin
end
end Go.Proofs.Ytohljkjaggcapaa.G
/-! The plain law of RouteKnown. -/
namespace Go.Proofs.Ytohljkjaggcapaa.G
open Go Go.Proofs.Ytohljkjaggcapaa.RT Go.Proofs.Ytohljkjaggcapaa.JQ Go.Proofs.Ytohljkjaggcapaa.JF
set_option linter.unusedVariables false
set_option linter.unusedSimpArgs false
def A2 : RS := K1.hints1
def A3 : RS := A2.hint 0 1
def A4 : RS := A3.hint 0 0
def A5 : RS := A4.hint 0 1
def A6 : RS := A5.hint 0 2
def A7 : RS := A6.fine 0 1
theorem trail_eq (r : Rou) (s : Int) (h0 : -9223372036854775808 ≤ s) (h1 : s ≤ 9223372036854775807) : route_Route_Trail.f (some r) s = some (r.s.tr s) := by
  dsimp only [route_Route_Trail.f]; rw [if_pos ⟨h0, h1⟩]
theorem home_one (i : Int) : homeV i 1 = 0 := jumpV_one _
theorem at_one : atV (RS.new 1 3) 0 = [0, 1, 2] := by
  refine List.filter_eq_self.2 fun x hx => ?_
  obtain ⟨n, hn, rfl⟩ := List.mem_map.1 hx
  have hn : n < 3 := List.mem_range.1 hn
  refine decide_eq_true ?_
  rw [where_new (by omega) (by omega) (by omega), home_one]
theorem at_two : atV (RS.new 1 3) 1 = [] := by
  refine List.filter_eq_nil_iff.2 fun x hx => ?_
  obtain ⟨n, hn, rfl⟩ := List.mem_map.1 hx
  have hn : n < 3 := List.mem_range.1 hn
  rw [where_new (by omega) (by omega) (by omega), home_one]
  decide
theorem known_j6 : haulagelaw23_RouteKnown.j6 (some ⟨A7, 5⟩) false = some true := by
  unfold haulagelaw23_RouteKnown.j6
  rw [if_neg (by simp)]
  refine Eq.trans (bind_eq (counts_eq ⟨A7, 5⟩)) ?_
  refine Eq.trans (bind_eq (show route_Route_Counts.f none = some (0, 0, 0) from rfl)) ?_
  rw [if_pos (show A7.good = 2 by decide +kernel), if_pos (show A7.hints = 5 by decide +kernel), if_pos (show A7.moved = 4 by decide +kernel)]
  refine Eq.trans (bind_eq (show route_Route_Where.f none 0 = some (-1) from rfl)) ?_
  rw [if_pos rfl]
  refine Eq.trans (bind_eq (show route_Route_Shard.f none [] = some (-1) from rfl)) ?_
  rw [if_pos rfl]
  refine Eq.trans (bind_eq (show route_Route_Fine.f none 0 0 = some (false, none) from rfl)) ?_
  rw [if_neg (by simp)]
  refine Eq.trans (bind_eq (show route_Route_Hint.f none 0 0 = some (false, none) from rfl)) ?_
  rw [if_neg (by simp)]
  refine Eq.trans (bind_eq (show route_Route_Trail.f none 0 = some [] from rfl)) ?_
  rw [if_pos (show ((([] : List Int).length : Nat) : Int) = 0 from rfl)]
  refine Eq.trans (bind_eq (show route_Route_At.f none 0 = some [] from rfl)) ?_
  rfl
theorem known_j5 {k : Nat} (hk : Fuel k) (b : Bool) : haulagelaw23_RouteKnown.j5 k (b, some ⟨A4, 3⟩) false = some true := by
  unfold haulagelaw23_RouteKnown.j5
  rw [if_neg (by simp)]
  refine Eq.trans (bind_eq (hint_eq (r := ⟨A4, 3⟩) (s := 0) (v := 1) (by decide) (by decide) (by decide))) ?_
  refine Eq.trans (bind_eq (trail_eq ⟨A5, 4⟩ 0 (by decide) (by decide))) ?_
  refine Eq.trans (bind_eq (ints_eq hk _ _ (by simp))) ?_
  rw [if_pos (show decide (A5.tr 0 = [2, 1, 0]) = true by decide)]
  refine Eq.trans (bind_eq (hint_eq (r := ⟨A5, 4⟩) (s := 0) (v := 2) (by decide) (by decide) (by decide))) ?_
  refine Eq.trans (bind_eq (trail_eq ⟨A6, 5⟩ 0 (by decide) (by decide))) ?_
  refine Eq.trans (bind_eq (ints_eq hk _ _ (by simp))) ?_
  rw [if_pos (show decide (A6.tr 0 = [1, 0, 1]) = true by decide)]
  refine Eq.trans (bind_eq (hint_eq_no (r := ⟨A6, 5⟩) (s := 0) (v := 3) (by decide))) ?_
  rw [if_neg (by simp)]
  refine Eq.trans (bind_eq (hint_eq_no (r := ⟨A6, 5⟩) (s := 2) (v := 0) (by decide))) ?_
  rw [if_neg (by simp)]
  refine Eq.trans (bind_eq (fine_eq_no (r := ⟨A6, 5⟩) (s := 0) (v := -1) (by decide))) ?_
  rw [if_neg (by simp)]
  refine Eq.trans (bind_eq (fine_eq (r := ⟨A6, 5⟩) (s := 0) (v := 1) (by decide) (by decide))) ?_
  rw [if_pos rfl]
  refine Eq.trans (bind_eq (trail_eq ⟨A7, 6⟩ 0 (by decide) (by decide))) ?_
  rw [show (!decide (((A7.tr 0).length : Int) = 0)) = false by decide]
  exact known_j6
theorem known_j4 {k : Nat} (hk : Fuel k) : haulagelaw23_RouteKnown.j4 k false = some true := by
  unfold haulagelaw23_RouteKnown.j4
  rw [if_neg (by simp)]
  refine Eq.trans (bind_eq (new_eq (by omega) (by omega) (by omega) (by omega))) ?_
  refine Eq.trans (bind_eq (fine_eq (r := ⟨RS.new 3 2, 0⟩) (s := 0) (v := 2) (by decide) (by decide))) ?_
  refine Eq.trans (bind_eq (hint_eq_same (r := ⟨K1, 1⟩) (s := 0) (v := 2) k2_is k2_at)) ?_
  refine Eq.trans (bind_eq (hint_eq (r := ⟨A2, 1⟩) (s := 0) (v := 1) (by decide) (by decide) (by decide))) ?_
  refine Eq.trans (bind_eq (hint_eq (r := ⟨A3, 2⟩) (s := 0) (v := 0) (by decide) (by decide) (by decide))) ?_
  refine Eq.trans (bind_eq (where_eq ⟨A4, 3⟩ 0)) ?_
  rw [if_pos (show A4.where_ 0 = 0 by decide)]
  refine Eq.trans (bind_eq (trail_eq ⟨A4, 3⟩ 0 (by decide) (by decide))) ?_
  refine Eq.trans (bind_eq (ints_eq hk _ _ (by simp))) ?_
  rw [show (!decide (A4.tr 0 = [2, 1])) = false by decide]
  exact known_j5 hk _
theorem known_j3 {k : Nat} (hk : Fuel k) : haulagelaw23_RouteKnown.j3 k = some true := by
  unfold haulagelaw23_RouteKnown.j3
  refine Eq.trans (bind_eq (new_eq (by omega) (by omega) (by omega) (by omega))) ?_
  rw [bind_eq (num_eq _), if_pos rfl]
  have g := Good.new (a1 := 1) (a2 := 3) (by omega) (by omega) (by omega) (by omega)
  refine Eq.trans (bind_eq (where_eq _ 0)) ?_
  rw [if_pos (by show (RS.new 1 3).where_ 0 = 0; rw [where_new (by omega) (by omega) (by omega), home_one])]
  refine Eq.trans (bind_eq (where_eq _ 2)) ?_
  rw [if_pos (by show (RS.new 1 3).where_ 2 = 0; rw [where_new (by omega) (by omega) (by omega), home_one])]
  refine Eq.trans (bind_eq (where_eq _ 3)) ?_
  rw [if_pos (by show (RS.new 1 3).where_ 3 = -1; exact g.where_out (by omega))]
  refine Eq.trans (bind_eq (where_eq _ (-1))) ?_
  rw [if_pos (by show (RS.new 1 3).where_ (-1) = -1; exact g.where_out (by omega))]
  refine Eq.trans (bind_eq (at_eq _ 0)) ?_
  refine Eq.trans (bind_eq (ints_eq hk _ _ (by simp))) ?_
  rw [if_pos (show decide (atV (RS.new 1 3) 0 = [0, 1, 2]) = true by rw [at_one]; rfl)]
  refine Eq.trans (bind_eq (at_eq _ 1)) ?_
  rw [show (!decide (((atV (RS.new 1 3) 1).length : Int) = 0)) = false by rw [at_two]; rfl]
  exact known_j4 hk
theorem RouteKnown_true {k : Nat} (hk : Fuel k) : haulagelaw23_RouteKnown.f k = some true := by
  have h24 : 1099511627776 ≤ k := hk
  unfold haulagelaw23_RouteKnown.f
  rw [bind_eq (known_true hk), if_pos rfl]
  have hl : loop (fun (s_ : Int) => haulagelaw23_RouteKnown.b2 s_) k 0 = some (.inl ()) := by
    obtain ⟨x, hx, rfl⟩ := loop_inv (f := fun (s_ : Int) => haulagelaw23_RouteKnown.b2 s_) (I := fun i s => s = (i : Int)) (P := fun x => x = .inl ()) (N := 4) (by
      rintro i s hi rfl
      refine .inl ⟨((i + 1 : Nat) : Int), ?_, rfl⟩
      have hc : i = 0 ∨ i = 1 ∨ i = 2 ∨ i = 3 := by omega
      rcases hc with rfl | rfl | rfl | rfl <;> rfl) (by
      rintro s rfl
      exact ⟨_, rfl, rfl⟩) 4 0 ((0 : Nat) : Int) k rfl (by omega) (by omega)
    exact hx
  rw [bind_eq hl]
  exact known_j3 hk
end Go.Proofs.Ytohljkjaggcapaa.G
/- The row of 'RouteKnown' (its '..UptoSaid'): whatever the input of bulk at most 1048576, the law returns true and the input reads as it did. -/
namespace Go.Proofs.Ytohljkjaggcapaa.routeKnown
open Go.ChangeShapes Go.WideShapes Go.ChangeAt Go.RowKit
set_option linter.unusedVariables false
set_option maxRecDepth 100000 in
theorem contract (H : Type) (enc : TypeId × Value → H) (W : World) (base : Nat) (args : Array Value) (ds gs : List (DataW H)) (before : List MemPlace)
    (hval : ∀ (j : Nat) t v, Try.f7.params[j]? = some t → args[j]? = some v → Value.okWide Try.prog W .any base t v)
    (hW : DataW.Whole enc Try.prog Try.f7.params.toList Rows.routeKnownSpec.vars false W args.toList ds gs before) (hk : Rows.uptoSmall H (ds ++ gs) = true) :
    Calls Try.prog 7 args W fun e W' => ∃ v, e = .returned v ∧ Rows.routeKnownSpec.post enc Try.prog Try.f7 false true false false W args v W' := by
  have hW' := hW
  obtain ⟨p, q, hA0, hV, rfl, hfz, hnd⟩ := hW
  have hA : DataW.TrodAll enc Try.prog W 0 (fun _ => true) true Try.f7.params.toList args.toList ds p := hA0
  rw [Try.params7] at hA hval
  obtain ⟨hargs, rfl, rfl⟩ := trodAll_nil hA
  obtain rfl : args = #[] := by cases args; simp_all
  obtain ⟨rfl, rfl⟩ := trodVars_none hV
  have hb : Rows.uptoBulkAll [] ≤ 1048576 := of_decide_eq_true hk
  simp only [Rows.uptoBulkAll] at hb
  refine (G.haulagelaw23_RouteKnown.calls 1099511627776 (m := 1) (c0 := G.c0) (w0 := W) (Nat.lt_succ_self 0) (fun _ _ => Nat.lt_succ_self 0)  true (G.RouteKnown_true (k := 1099511627776) (Nat.le_refl _))).mono fun e W' ⟨c_, he, ev_, _⟩ => ?_
  subst he
  have bel : Below W.heap.size W W' := G.Ev.below ev_
  exact ⟨_, rfl, _, _, _, [], _, [], hW', trodAll_mk1 (shut_bool Try.underlying4 _), trodAll_mk0, rfl, bel.frame _, fun h => by cases h⟩
set_option maxRecDepth 100000 in
theorem lifted (os : Os) (started : os.Started) (H : Type) (enc : TypeId × Value → H) (F : Stop.Interp) :
    ReturnsInHanded {} Try.checked os 7 .any ((Rows.OpenSpec.upto Rows.routeKnownSpec).pre6 enc Try.prog Try.f7 Rows.routeKnownUptoRow.domain false) (((Rows.OpenSpec.upto Rows.routeKnownSpec).at F).post enc Try.prog Try.f7 false true false false) := by
  refine returnsInHanded_of_cond (C := Try.checked) (s := Rows.OpenSpec.upto Rows.routeKnownSpec) (k := Rows.uptoSmall) rfl G.row_own started (by kernel_rfl) Try.func7
    (OpenSpec.witness (enc := enc) (C := Try.checked) (s := Rows.OpenSpec.upto Rows.routeKnownSpec) (k := Rows.uptoSmall) rfl false ⟨#[], #[], []⟩ 8 (by kernel_rfl) (by kernel_rfl) (by kernel_rfl)
      (x := ([], [], [])) (by kernel_rfl) rfl (by kernel_rfl)) ?_
  intro W base args ds gs before hval hW _ hk _
  exact contract H enc W base args ds gs before hval hW hk
theorem over : Rows.routeKnownUptoRow.holds Try.pinned (Rows.OpenSpec.upto Rows.routeKnownSpec) :=
  OpenClaim.holds_of_cond 7 Try.f7 rfl rfl rfl rfl rfl rfl rfl ⟨rfl, rfl, rfl, rfl, rfl⟩ rfl rfl rfl rfl rfl (by kernel_rfl) Try.func7 (by kernel_rfl)
    (of_decide_eq_true (by kernel_rfl)) (by unfold Func.isWrapper; first | (rw [if_pos (by decide +kernel)]; kernel_rfl) | (rw [if_neg (by decide +kernel)]; exact ⟨rfl, rfl⟩))
    (fun os started H enc _ F => lifted os started H enc F)
theorem proved : Rows.RouteKnownUptoSaid := over
end Go.Proofs.Ytohljkjaggcapaa.routeKnown
namespace Go.Proofs.Ytohljkjaggcapaa
/-- The row, under a short name, for the claim. -/
theorem routeKnown_holds : Rows.RouteKnownUptoSaid := routeKnown.proved
end Go.Proofs.Ytohljkjaggcapaa
