/- The row of 'RouteBooks', its '..UptoSaid': whatever the input of bulk at most 1048576, the law returns true and the input reads as it did; its walk, its plain law, the row. -/
import Derived.Test.YtohljkjaggcapaaShs
import Derived.Test.YtohljkjaggcapaaHA
import Derived.Test.YtohljkjaggcapaaHB
import Derived.Maps.RangeWalk
import Derived.Test.YtohljkjaggcapaaRl
import Derived.Laws.OwnMore
import Derived.Test.YtohljkjaggcapaaRows
import Derived.WalkKit
import Derived.ProofKit
import Derived.OpenShut
import Derived.JoinedCond
import Derived.Below
import Derived.ChangeOld
/-! slices.Sort of whole numbers in the walks' own form. -/
namespace Go.Proofs.Ytohljkjaggcapaa.G
open Go Go.RowKit Go.Sort
set_option linter.unusedVariables false
set_option linter.unusedSimpArgs false
def sortI (l : List Int) : List Int := l.mergeSort fun x y => decide (x ≤ y)
theorem sortI_length (l : List Int) : (sortI l).length = l.length := List.length_mergeSort l
theorem slices_Sort.calls {m : Nat} {c0 : Nat → Nat} {w0 : World} {j1 : Nat} {A2 : Option Addr} {C3 : Nat} {a1 : List Int} (B0 : CB m c0 w0) (h4 : SL true (Kint .i64) j1 0 c0 w0 A2 C3 a1) (bj1 : j1 < m) (hs : a1.length < 4611686018427387904) :
    Calls Try.prog 27 #[.slice A2 a1.length C3] w0 (fun e w_ => ∃ (c_ : Nat → Nat), e = .returned (.tuple #[]) ∧ Ev (fun x => x = j1) c0 w0 c_ w_ ∧ CB m c_ w_ ∧ SL true (Kint .i64) j1 0 c_ w_ A2 C3 (sortI a1)) := by
  by_cases hn : a1 = []
  · subst hn
    refine (AnyM.slices_Sort_int_none Try.sortInts A2 C3 w0).mono ?_
    rintro e w' ⟨rfl, rfl⟩
    exact ⟨c0, rfl, Ev.refl, B0, by simpa [sortI] using h4⟩
  have hpos : 0 < a1.length := List.length_pos_iff.2 hn
  obtain ⟨cs, h2, h3, hl, hrow, hr⟩ := h4
  have hl : cs.length = C3 * 1 := hl
  rcases hrow with rfl | ⟨p, rfl, hat⟩
  · simp at hl; omega
  have cell : ∀ k, k < a1.length → cs[k]? = some (Value.int .i64 (a1.getD k 0)) := fun k hk => by
    have e : (cs.drop (k * 1)).take 1 = [Value.int .i64 a1[k]] := hr k hk
    have e2 := congrArg (fun l => l[0]?) e
    simp only [List.getElem?_take_of_lt (Nat.zero_lt_one), List.getElem?_drop, List.getElem?_cons_zero] at e2
    rw [Nat.mul_one, Nat.add_zero] at e2
    rw [e2, List.getD_eq_getElem?_getD, List.getElem?_eq_getElem hk]
    rfl
  have hat' := hat
  obtain ⟨b, off, cur, ty, fz, rfl, hb, hc, hcells, hfree⟩ := hat
  have hlt := lt_of_get hb
  have hH : Holds (Value.int .i64) w0 b off a1.toArray := fun k hk => by
    have hk : k < a1.length := by simpa using hk
    refine ⟨?_, ?_⟩
    · rw [← add_eq, hat'.cell (cell k hk)]
      congr 2
      rw [getElem!_pos _ k (by simpa using hk), List.getD_eq_getElem?_getD, List.getElem?_eq_getElem hk]
      rfl
    · rw [← add_eq]; exact hat'.free (by omega)
  refine (AnyM.slices_Sort_int Try.sortInts b off C3 a1 w0 hH hlt hs).mono ?_
  rintro e w' ⟨rfl, n, os, rfl⟩
  have old : ∀ k, k < w0.heap.size → b ≠ k → (grow (putRow (Value.int .i64) (Sort.ahead w0 n) b off (a1.mergeSort fun x y => decide (x ≤ y)).toArray) os).heap[k]? = w0.heap[k]? := fun k hk hne => by
    rw [heap_grow_old _ _ (by simpa [putRow, mapBlock, Sort.ahead] using hk)]
    simp [putRow, mapBlock, Sort.ahead, Array.getElem?_modify, hne]
  have new : (grow (putRow (Value.int .i64) (Sort.ahead w0 n) b off (a1.mergeSort fun x y => decide (x ≤ y)).toArray) os).heap[b]? = some (.cells (putCells (Value.int .i64) off (sortI a1).toArray cur) ty fz) := by
    rw [heap_grow_old _ _ (by simpa [putRow, mapBlock, Sort.ahead] using hlt)]
    simp [putRow, mapBlock, Sort.ahead, Array.getElem?_modify, hb, onCells, sortI]
  refine ⟨fun k => if k < w0.heap.size then c0 k else j1, rfl, ⟨rfl, rfl, rfl, by simp [grow, putRow, mapBlock, Sort.ahead], fun k hk => if_pos hk, fun k hk hm => old k hk (fun q => hm (by rw [← q]; exact hc))⟩, fun k _ => ?_, ?_⟩
  · show (if k < w0.heap.size then c0 k else j1) < m
    split
    · exact B0 k (by assumption)
    · exact bj1
  have hz : (sortI a1).length = a1.length := sortI_length a1
  have hin : off + a1.length ≤ cur.size := by
    have := hcells (a1.length - 1) (by omega)
    rw [List.getElem?_eq_getElem (by omega)] at this
    have := (Array.getElem?_eq_some_iff.1 this).1
    omega
  refine ⟨(sortI a1).map (Value.int .i64) ++ cs.drop a1.length, by rw [hz]; exact h2, h3, by simp [hz]; show a1.length + (cs.length - a1.length) = C3 * 1; omega, .inr ⟨_, rfl, b, off, _, ty, fz, rfl, new, by show (if b < w0.heap.size then c0 b else j1) = j1; rw [if_pos hlt]; exact hc, fun k hk => ?_, fun q k hk => hfree q k (by simp [hz] at hk; omega)⟩, fun k hk => ?_⟩
  · simp only [List.length_append, List.length_map, List.length_drop, hz] at hk
    simp only [putCells, Array.getElem?_mapIdx]
    by_cases c : k < a1.length
    · rw [List.getElem?_append_left (by simpa [hz] using c), List.getElem?_map, List.getElem?_eq_getElem (by omega)]
      rw [Array.getElem?_eq_getElem (by omega)]
      simp only [Option.map_some, List.size_toArray, hz]
      rw [if_pos (by omega)]
      congr 2
      have e : off + k - off = k := by omega
      rw [e, getElem!_pos _ k (by simp [hz]; exact c)]
      simp
    · rw [List.getElem?_append_right (by simpa [hz] using Nat.le_of_not_lt c), List.getElem?_drop]
      simp only [List.length_map, hz]
      have e : a1.length + (k - a1.length) = k := by omega
      rw [e, ← hcells k (by omega)]
      cases hq : cur[off + k]? with
      | none => rfl
      | some v =>
        simp only [Option.map_some, List.size_toArray, hz]
        rw [if_neg (by omega)]
  · show ((((sortI a1).map (Value.int .i64) ++ cs.drop a1.length).drop (k * 1)).take 1) = [Value.int .i64 (sortI a1)[k]]
    rw [Nat.mul_one, List.drop_append_of_le_length (by simp; omega), List.drop_eq_getElem_cons (by simpa using hk)]
    simp
end Go.Proofs.Ytohljkjaggcapaa.G
/-! At and Counts of a route, by hand: a loop over a map, whatever its order, and a sort. -/
namespace Go.Proofs.Ytohljkjaggcapaa.G
open Go Go.RowKit Go.Proofs.Ytohljkjaggcapaa.MV Go.Proofs.Ytohljkjaggcapaa.RT
set_option linter.unusedVariables false
set_option linter.unusedSimpArgs false
section
variable {P : Program} {a : Act} {N : Nat} {L : List (Nat × Value)} {D : List Deferred} {w w' : World} {v u : Value} {x y mm : Operand} {d : Option Tmp} {t e ty K : TypeId} {pos : String} {af : Array Edge} {gd : Option (Nat × Bool)} {c : Nat → Nat} {j b n : Nat} {f : Int → Option Value}
theorem r_lookup_ok (F : Fr a N L D) {k : Int} {z : Value} (hk : P.underlying K = some (.int .i64)) (ht : P.underlying t = some (.map K e)) (hz : (zeroValue e).run P w = .ok z w) (hm : ev L mm = some (.map (some b))) (hx : ev L x = some (.int .i64 k))
    (h : VMap w P K b n f) (hw : (Lit.int .i64 k).wf = true) : (execOp a.eval { dst := d, op := .lookup t mm x true, type := ty, pos := pos, after := af, guard := gd }).run P w = .ok (.value (.tuple #[(f k).getD z, .bool (f k).isSome])) w := by
  obtain ⟨D0, hD, r⟩ := h
  obtain ⟨v, ps, hrun, hv⟩ := hD.look_ok (Maps.int_keyed hk) ht hz (zd := .held z) (zp := []) rfl (Maps.keyOf_int_mk hk hw)
  rw [(r k).1 z] at hv
  simp only [MV.heldElem, Option.some.injEq, Prod.mk.injEq, DataW.held.injEq] at hv
  rw [(r k).2] at hrun
  simp [execOp, F.ev hm, F.ev hx, hrun, Result.andThen, hv.1]
theorem e_range (F : Fr a N L D) (c : Nat → Nat) (j : Nat) {D0 : DataW Value} (hk : P.underlying K = some (.int .i64)) (ht : P.underlying t = some (.map K e)) (hm : ev L x = some (.map (some b))) (h : w.ownsMap P K MV.heldElem b n D0) :
    ∃ v w', (execOp a.eval { dst := d, op := .range t x, type := ty, pos := pos, after := af, guard := gd }).run P w = .ok (.value v) w' ∧
      ∃ c' r, v = .pointer (some ⟨r, 0, none⟩) ∧ r = w.heap.size ∧ c' r = j ∧ Ev No c w c' w' ∧ w'.ranges P K MV.heldElem b r n D0 (Maps.has D0) (Maps.size D0) ∧ ∀ m, CB m c w → j < m → CB m c' w' := by
  obtain ⟨w', hrun, hr, hg, hs⟩ := h.range (Maps.int_keyed hk) ht
  refine ⟨_, w', by simp [execOp, F.ev hm, hrun, Result.andThen], cset c w.heap.size j, w.heap.size, rfl, rfl, by unfold cset; rw [if_pos rfl], ⟨hg.os, hg.tape, hg.output, hg.size, fun k hk => by unfold cset; rw [if_neg (by omega)], fun k hk _ => hg.block k hk (by simp)⟩, hr, fun m hm hj k hk => ?_⟩
  unfold cset
  split
  · exact hj
  · exact hm k (by omega)
theorem ranges_ev {M : Nat → Prop} {c' : Nat → Nat} {R : Value → Option (DataW Value × List MemPlace)} {r : Nat} {D0 : DataW Value} {left : Lit → Bool} {cnt : Nat} (h : w.ranges P K R b r n D0 left cnt) (E : Ev M c w c' w') (hb : ¬ M (c b)) (hr : ¬ M (c r)) : w'.ranges P K R b r n D0 left cnt := by
  have h1 := h.owns.lt
  have h2 := h.lt
  obtain ⟨es, clock, since, seen, c0, q1, q2, q3, q4, q5, rest⟩ := h
  exact ⟨es, clock, since, seen, c0, (E.blk b h1 hb).trans q1, q2, q3, q4, (E.blk r h2 hr).trans q5, rest⟩
theorem q_next {ops : Array Oper} {rest : List Oper} {K0 : Act → World → Prop} {dd : Nat} {it : Operand} {r cnt : Nat} {D0 : DataW Value} {left : Lit → Bool} (F : Fr a N L D) (hN : dd < N) (hk : P.underlying K = some (.int .i64)) (hx : ev L it = some (.pointer (some ⟨r, 0, none⟩))) (h : w.ranges P K MV.heldElem b r n D0 left cnt)
    (done : (∀ kl, left kl = false) → ∀ a', Fr a' N ((dd, .tuple #[.bool false]) :: L) D → wL P ops K0 rest a' w)
    (more : ∀ (x : Int) (v : Value) w' cnt' a', left (.int .i64 x) = true → (∀ zd, D0.atKey (.int .i64 x) zd = .held v) → w'.ranges P K MV.heldElem b r n D0 (fun z => left z && !z.sameKey (.int .i64 x)) cnt' → cnt' < cnt → w.grownBy w' (some r) → w'.heap.size = w.heap.size →
      (Instr.entry (.pointer (some ⟨r, 0, none⟩))).run P w' = .ok (.tuple #[.int .i64 x, v]) w' → Fr a' N ((dd, .tuple #[.bool true, .int .i64 x, v]) :: L) D → wL P ops K0 rest a' w') :
    wL P ops K0 ({ dst := some dd, op := .next it false, type := ty, pos := pos, after := af, guard := none } :: rest) a w := by
  rcases h.next (Maps.int_keyed hk) ty with ⟨h0, hl, hrun⟩ | ⟨key, v, kl, y, w', cnt', hkey, hlk, hv, hat, hrun, hrg, hlt, hgr, hsz, hen⟩
  · exact q_val F rfl rfl hN (by simp [execOp, F.ev hx, hrun, Result.andThen]) fun a' F' => done hl a' F'
  · obtain ⟨x, rfl, rfl, _⟩ := Maps.keyOf_int_inv hk hkey
    have hy : y = (.held v, []) := by simp only [MV.heldElem, Option.some.injEq] at hv; exact hv.symm
    subst hy
    exact q_val F rfl rfl hN (by simp [execOp, F.ev hx, hrun, Result.andThen]) fun a' F' => more x v w' cnt' a' hlk hat hrg hlt hgr hsz hen F'
theorem r_entry (F : Fr a N L D) (hx : ev L x = some u) (hrun : (Instr.entry u).run P w = .ok v w) : (execOp a.eval { dst := d, op := .entry x, type := ty, pos := pos, after := af, guard := gd }).run P w = .ok (.value v) w := by
  simp [execOp, F.ev hx, hrun, Result.andThen]
end
/-! ### the lists -/
theorem rising_len : ∀ {l : List Int} {lo hi : Int}, l.Pairwise (· < ·) → (∀ x ∈ l, lo ≤ x ∧ x < hi) → l.length ≤ (hi - lo).toNat
  | [], _, _, _, _ => Nat.zero_le _
  | x :: l, lo, hi, h, hb => by
    obtain ⟨h1, h2⟩ := List.pairwise_cons.1 h
    have := rising_len (lo := x + 1) (hi := hi) h2 fun y hy => ⟨by have := h1 y hy; omega, (hb y (by simp [hy])).2⟩
    have := hb x (by simp)
    simp only [List.length_cons]; omega
def homeL (S : RS) (v : Int) (i : Nat) : List Int := (List.map (fun n : Nat => (n : Int)) (List.range i)).filter fun s => decide (S.wh s = none ∧ S.where_ s = v)
theorem homeL_succ (S : RS) (v : Int) (i : Nat) : homeL S v (i + 1) = if S.wh i = none ∧ S.where_ i = v then homeL S v i ++ [(i : Int)] else homeL S v i := by
  unfold homeL
  rw [List.range_succ, List.map_append, List.filter_append]
  simp only [List.map_cons, List.map_nil, List.filter_cons, List.filter_nil]
  by_cases h : S.wh i = none ∧ S.where_ i = v
  · rw [if_pos h, if_pos (decide_eq_true h)]
  · rw [if_neg h, if_neg (by simpa using h)]; simp
theorem homeL_len (S : RS) (v : Int) (i : Nat) : (homeL S v i).length ≤ i := by
  unfold homeL; exact Nat.le_trans (List.length_filter_le _ _) (by simp)
theorem mem_homeL (S : RS) (v x : Int) (i : Nat) : x ∈ homeL S v i ↔ (0 ≤ x ∧ x < i) ∧ S.wh x = none ∧ S.where_ x = v := by
  unfold homeL
  rw [List.mem_filter, List.mem_map]
  constructor
  · rintro ⟨⟨n, hn, rfl⟩, h⟩
    exact ⟨by have := List.mem_range.1 hn; omega, of_decide_eq_true h⟩
  · rintro ⟨h, h2⟩
    exact ⟨⟨x.toNat, List.mem_range.2 (by omega), by omega⟩, decide_eq_true h2⟩
theorem homeL_nodup (S : RS) (v : Int) (i : Nat) : (homeL S v i).Nodup := by
  unfold homeL
  refine List.Pairwise.filter _ ?_
  rw [List.pairwise_map]
  exact List.pairwise_lt_range.imp (fun h => by omega)
theorem rising_eq : ∀ {l m : List Int}, l.Pairwise (· < ·) → m.Pairwise (· < ·) → (∀ x, x ∈ l ↔ x ∈ m) → l = m
  | [], [], _, _, _ => rfl
  | [], y :: m, _, _, h => by have := (h y).2 (by simp); cases this
  | x :: l, [], _, _, h => by have := (h x).1 (by simp); cases this
  | x :: l, y :: m, hl, hm, h => by
    obtain ⟨h1, h2⟩ := List.pairwise_cons.1 hl
    obtain ⟨h3, h4⟩ := List.pairwise_cons.1 hm
    have hxy : x = y := by
      rcases List.mem_cons.1 ((h x).1 (by simp)) with e | e
      · exact e
      · rcases List.mem_cons.1 ((h y).2 (by simp)) with e2 | e2
        · exact e2.symm
        · have := h3 x e; have := h1 y e2; omega
    subst hxy
    congr 1
    refine rising_eq h2 h4 fun z => ⟨fun hz => ?_, fun hz => ?_⟩
    · rcases List.mem_cons.1 ((h z).1 (by simp [hz])) with e | e
      · subst e; have := h1 z hz; omega
      · exact e
    · rcases List.mem_cons.1 ((h z).2 (by simp [hz])) with e | e
      · subst e; have := h3 z hz; omega
      · exact e
theorem sortI_rises {l : List Int} (h : l.Nodup) : (sortI l).Pairwise (· < ·) := by
  have hs : (sortI l).Pairwise (fun x y => decide (x ≤ y) = true) := List.pairwise_mergeSort (le := fun x y : Int => decide (x ≤ y)) (fun a b c h1 h2 => by simp at h1 h2 ⊢; omega) (fun a b => by simp; omega) l
  have hn : (sortI l).Nodup := (List.mergeSort_perm l _).nodup_iff.2 h
  exact (List.Pairwise.and hs hn).imp (fun {a b} hab => by have h1 := of_decide_eq_true hab.1; have h2 : a ≠ b := hab.2; omega)
theorem at_sorted {S : RS} {v : Int} {ks : List Int} (hN : 0 ≤ S.shards) (h0 : 1 ≤ S.servers) (hk : ∀ k u, S.wh k = some u → 0 ≤ k ∧ k < S.shards) (hd : ks.Nodup) (hm : ∀ x, x ∈ ks ↔ S.wh x = some v) : sortI (homeL S v S.shards.toNat ++ ks) = atV S v := by
  have hnd : (homeL S v S.shards.toNat ++ ks).Nodup := by
    refine List.nodup_append.2 ⟨homeL_nodup _ _ _, hd, fun x h1 y h2 e => ?_⟩
    subst e
    have q1 := ((mem_homeL _ _ _ _).1 h1).2.1
    rw [(hm x).1 h2] at q1
    cases q1
  refine rising_eq (sortI_rises hnd) ?_ fun x => ?_
  · unfold atV
    refine List.Pairwise.filter _ ?_
    rw [List.pairwise_map]
    exact List.pairwise_lt_range.imp (fun h => by omega)
  · have e1 : x ∈ sortI (homeL S v S.shards.toNat ++ ks) ↔ x ∈ homeL S v S.shards.toNat ++ ks := (List.mergeSort_perm _ _).mem_iff
    have e2 : x ∈ atV S v ↔ (0 ≤ x ∧ x < S.shards) ∧ S.where_ x = v := by
      unfold atV
      rw [List.mem_filter, List.mem_map]
      constructor
      · rintro ⟨⟨n, hn, rfl⟩, h⟩
        exact ⟨by have := List.mem_range.1 hn; omega, of_decide_eq_true h⟩
      · rintro ⟨h, h2⟩
        exact ⟨⟨x.toNat, List.mem_range.2 (by omega), by omega⟩, decide_eq_true h2⟩
    rw [e1, e2, List.mem_append, mem_homeL, hm]
    have hw : ∀ u, S.wh x = some u → 0 ≤ x → x < S.shards → S.where_ x = u := fun u hu i0 i1 => by
      unfold RS.where_
      rw [if_pos (by unfold RS.is; simp; omega), hu]
    constructor
    · rintro (⟨h1, h2, h3⟩ | h)
      · exact ⟨by omega, h3⟩
      · have := hk x v h
        exact ⟨this, hw v h this.1 this.2⟩
    · rintro ⟨h1, h2⟩
      cases hx : S.wh x with
      | none => exact .inl ⟨by omega, rfl, h2⟩
      | some u => right; rw [← h2, hw u hx h1.1 h1.2]
/-! ### the walk -/
theorem agm : ∀ w, (isAgg 56).run Try.prog w = .ok false w := fun _ => by kernel_rfl
theorem agi : ∀ w, (isAgg 3).run Try.prog w = .ok false w := fun _ => by kernel_rfl
theorem ffs : ∀ q w, (Instr.fieldAt 59 (.pointer (some q)) 1).run Try.prog w = .ok (.pointer (some (q.add 1))) w := fun _ _ => by kernel_rfl
theorem ffw : ∀ q w, (Instr.fieldAt 59 (.pointer (some q)) 2).run Try.prog w = .ok (.pointer (some (q.add 2))) w := fun _ _ => by kernel_rfl
theorem ff4 : ∀ q w, (Instr.fieldAt 59 (.pointer (some q)) 4).run Try.prog w = .ok (.pointer (some (q.add 4))) w := fun _ _ => by kernel_rfl
theorem ff5 : ∀ q w, (Instr.fieldAt 59 (.pointer (some q)) 5).run Try.prog w = .ok (.pointer (some (q.add 5))) w := fun _ _ => by kernel_rfl
theorem ff6 : ∀ q w, (Instr.fieldAt 59 (.pointer (some q)) 6).run Try.prog w = .ok (.pointer (some (q.add 6))) w := fun _ _ => by kernel_rfl
theorem etl : ET Try.prog 22 3 1 8 (.int .i64 0) := ⟨Try.underlying22, info_parts' (by kernel_rfl), rfl⟩
theorem rep_at {w : World} {F : Nat → Prop} {b n : Nat} {S : RS} {m1 m2 : Nat} {T : Int → Option Value} {c : Nat → Nat} {j : Nat} (h : Rep w F b n S m1 m2 T) (hc : c b = j) : AT true j c w ⟨b, 0, none⟩ [.int .i64 S.servers, .int .i64 S.shards, .map (some m1), .map (some m2), .int .i64 S.good, .int .i64 S.hints, .int .i64 S.moved] :=
  ⟨b, 0, _, _, (0, 0), rfl, h.blk, hc, fun k hk => by rw [Nat.zero_add]; unfold RS.cells; exact (Array.getElem?_toList (xs := #[Value.int .i64 S.servers, .int .i64 S.shards, .map (some m1), .map (some m2), .int .i64 S.good, .int .i64 S.hints, .int .i64 S.moved])).symm, fun _ k hk => by omega⟩
set_option maxRecDepth 100000 in
set_option maxHeartbeats 4000000 in
theorem route_Route_At.calls {m : Nat} {c0 : Nat → Nat} {w0 : World} {j4 : Nat} {p2 : Option Addr} {a1 : Option Rou} {a5 : Int} (hm0 : 0 < m) (B0 : CB m c0 w0) (h3 : RU j4 c0 w0 p2 a1) (bj4 : j4 < m) (jr : Nat) (bjr : jr < m) (r_ : List Int) (H : route_Route_At.f a1 a5 = some r_) :
    Calls Try.prog 18 #[.pointer p2, .int .i64 a5] w0 (fun e w_ => ∃ (c_ : Nat → Nat) (A0_ : Option Addr) (C0_ : Nat), e = .returned (.slice A0_ r_.length C0_) ∧ Ev (fun x => False) c0 w0 c_ w_ ∧ CB m c_ w_ ∧ SL true (Kint .i64) jr 0 c_ w_ A0_ C0_ r_) := by
  unfold route_Route_At.f at H
  obtain ⟨q, e_, H'⟩ := bind_some H
  subst e_
  clear H
  have hr := (Option.some.inj H').symm
  clear H'
  have h3' := h3
  obtain ⟨b, m1_, m2_, T_, rfl, R0, hkeys⟩ := h3'
  have hs0 := R0.s0; have hs1 := R0.s1; have hh0 := R0.h0; have hh1 := R0.h1
  clear R0
  have B := B0.mono (show m ≤ m + 3 by omega)
  have E : Ev (fun x => False ∨ m ≤ x) c0 w0 c0 w0 := Ev.refl
  refine enter (N := 64) (l := [.pointer (some ⟨b, 0, none⟩), .int .i64 a5]) Try.func18 rfl rfl (Nat.le_of_ble_eq_true rfl) fun a F => ?_
  refine wp_seq_k fun K1 hK1 => ?_
  refine reg ?_
  refine q_val F rfl rfl (by decide) (r_assign F rfl) fun a F => ?_
  refine nil ?_
  refine hK1 _ _ ?_
  refine wp_seq_k fun K2 hK2 => ?_
  refine reg ?_
  refine q_val F rfl rfl (by decide) (r_assign F rfl) fun a F => ?_
  refine nil ?_
  refine hK2 _ _ ?_
  refine wp_seq_k fun K3 hK3 => ?_
  refine wp_seq_k fun K4 hK4 => ?_
  refine reg ?_
  refine q_val F rfl rfl (by decide) (r_move F rfl) fun a F => ?_
  refine q_val F rfl rfl (by decide) (r_peql F Try.underlying24 rfl rfl) fun a F => ?_
  refine nil ?_
  refine hK4 _ _ ?_
  refine wp_cond_false (F.ev rfl) ?_
  refine wp_skip ?_
  refine hK3 _ _ ?_
  refine wp_seq_k fun K5 hK5 => ?_
  refine wp_seq_k fun K6 hK6 => ?_
  refine reg ?_
  obtain ⟨b_, m1, m2, T, eb, R, _⟩ := h3
  cases eb
  have hat := rep_at R R.fb
  refine q_val F rfl rfl (by decide) (r_move F rfl) fun a F => ?_
  refine q_val F rfl rfl (by decide) (r_nil F rfl) fun a F => ?_
  refine q_val F rfl rfl (by decide) (r_fieldAddr F rfl ffs) fun a F => ?_
  refine q_val F rfl rfl (by decide) (r_load F rfl agi (AT.cell hat (n := 1) rfl)) fun a F => ?_
  refine q_val F rfl rfl (by decide) (r_move F rfl) fun a F => ?_
  refine nil ?_
  refine hK6 _ _ ?_
  refine wp_block ?_
  have h3 : RU j4 c0 w0 (some ⟨b, 0, none⟩) (some q) := ⟨b, m1, m2, T, rfl, R, hkeys⟩
  clear hat R
  -- behind the first loop
  have J1 : ∀ (A : Option Addr) (C : Nat) (c : Nat → Nat) (w : World) (a : Act), Fr a 64 [(0, .pointer (some ⟨b, 0, none⟩)), (1, .int .i64 a5), (5, .slice A (homeL q.s a5 q.s.shards.toNat).length C)] → Ev (fun x => False ∨ m ≤ x) c0 w0 c w → CB (m + 3) c w → RU j4 c w (some ⟨b, 0, none⟩) (some q) → SL true (Kint .i64) m 0 c w A C (homeL q.s a5 q.s.shards.toNat) → K5 a w := by
    clear F E B h3
    intro A C c w a F E B h3 hS
    refine hK5 _ _ ?_
    refine wp_seq_k fun K7 hK7 => ?_
    refine wp_seq_k fun K8 hK8 => ?_
    refine reg ?_
    obtain ⟨b_, m1, m2, T, eb, R, _⟩ := h3
    cases eb
    have hat := rep_at R R.fb
    refine q_val F rfl rfl (by decide) (r_move F rfl) fun a F => ?_
    refine q_val F rfl rfl (by decide) (r_nil F rfl) fun a F => ?_
    refine q_val F rfl rfl (by decide) (r_fieldAddr F rfl ffw) fun a F => ?_
    refine q_val F rfl rfl (by decide) (r_load F rfl agm (AT.cell hat (n := 2) rfl)) fun a F => ?_
    obtain ⟨D0, hD, hDk⟩ := R.vm1
    have hcm : c m1 = j4 := R.f1
    have hDs : ∀ x, Maps.has D0 (.int .i64 x) = (q.s.wh x).isSome := fun x => by
      have := (hDk x).2
      rw [this]
      show (Option.map (Value.int .i64) (q.s.wh x)).isSome = _
      cases q.s.wh x <;> rfl
    have hDv : ∀ x z, D0.atKey (.int .i64 x) (.held z) = .held ((Option.map (Value.int .i64) (q.s.wh x)).getD z) := fun x z => (hDk x).1 z
    clear hat R
    refine q_eff F rfl rfl (by decide) (e_range F c (m + 1) Try.underlying3 Try.underlying56 rfl hD) ?_
    rintro v w1 a ⟨c1, r, rfl, er, hcr, E1, hrg, B1⟩ F
    have B := B1 _ B (by omega)
    have hcm : c1 m1 = j4 := (E1.col _ hD.lt).trans hcm
    have hS := hS.ev E1 (fun q => q.elim) (fun q => q.elim)
    have E := E.trans E1 (fun x q => q.elim)
    refine nil ?_
    refine hK8 _ _ ?_
    refine wp_block ?_
    -- behind the second loop
    have J2 : ∀ (ks : List Int) (A : Option Addr) (C : Nat) (c : Nat → Nat) (w : World) (a : Act), Fr a 64 [(5, .slice A (homeL q.s a5 q.s.shards.toNat ++ ks).length C)] → Ev (fun x => False ∨ m ≤ x) c0 w0 c w → CB (m + 3) c w → SL true (Kint .i64) m 0 c w A C (homeL q.s a5 q.s.shards.toNat ++ ks) → ks.length ≤ 64 → ks.Nodup → (∀ x, x ∈ ks ↔ q.s.wh x = some a5) → K7 a w := by
      clear F E B hS
      intro ks A C c w a F E B hS hl hn hm
      refine hK7 _ _ ?_
      refine wp_seq_k fun K9 hK9 => ?_
      refine reg ?_
      refine q_val F rfl rfl (by decide) (r_move F rfl) fun a F => ?_
      have hlen : (homeL q.s a5 q.s.shards.toNat ++ ks).length < 4611686018427387904 := by have := homeL_len q.s a5 q.s.shards.toNat; rw [List.length_append]; omega
      refine q_call F rfl rfl (by decide) (r_call F Try.func27 rfl (by kernel_rfl) rfl) (slices_Sort.calls B hS (by omega) hlen) ?_
      rintro e w1 ⟨c1, rfl, E1, B1, hS1⟩
      refine ⟨_, rfl, fun a F => ?_⟩
      have E := E.trans E1 (fun x q => by replace q : x = m := q; show False ∨ m ≤ x; omega)
      refine nil ?_
      refine hK9 _ _ ?_
      refine wp_seq_k fun K10 hK10 => ?_
      refine reg ?_
      refine q_val F rfl rfl (by decide) (r_move F rfl) fun a F => ?_
      refine q_val F rfl rfl (by decide) (r_assign F rfl) fun a F => ?_
      refine nil ?_
      refine hK10 _ _ ?_
      refine wp_ret ?_
      have es : sortI (homeL q.s a5 q.s.shards.toNat ++ ks) = r_ := hr ▸ at_sorted (by omega) hs0 hkeys hn hm
      refine out1 F rfl rfl ?_
      refine ⟨fun b_ => (fun x_ => if x_ = m then jr else if x_ < m then x_ else 0) (c1 b_), A, C, ?_, E.leave B0 (fun x_ => if x_ = m then jr else if x_ < m then x_ else 0) (by intro x_ hx_; show (if x_ = m then jr else if x_ < m then x_ else 0) = x_; ((repeat' split) <;> omega)), (fun b_ hb_ => by show (if (c1 b_) = m then jr else if (c1 b_) < m then (c1 b_) else 0) < m; ((repeat' split) <;> omega)), ?_⟩
      · rw [← es, sortI_length]
      · rw [← es]
        exact SL.rc hS1 (fun k_ hk_ => by show (if (c1 k_) = m then jr else if (c1 k_) < m then (c1 k_) else 0) = _; rw [hk_]; ((repeat' split) <;> omega)) (fun k_ hk_ => by show (if (c1 k_) = m then jr else if (c1 k_) < m then (c1 k_) else 0) = _; rw [hk_]; ((repeat' split) <;> omega))
    refine loop_fuel (I := fun n a w => ∃ (left : Lit → Bool) (ks : List Int) (A : Option Addr) (C : Nat) (c : Nat → Nat), Fr a 64 [(1, .int .i64 a5), (5, .slice A (homeL q.s a5 q.s.shards.toNat ++ ks).length C), (48, .pointer (some ⟨r, 0, none⟩))] ∧ Ev (fun x => False ∨ m ≤ x) c0 w0 c w ∧ CB (m + 3) c w ∧ w.ranges Try.prog 3 MV.heldElem m1 r q.n D0 left n ∧ c m1 = j4 ∧ c r = m + 1 ∧ SL true (Kint .i64) m 0 c w A C (homeL q.s a5 q.s.shards.toNat ++ ks) ∧ ks.Nodup ∧ (∀ x, x ∈ ks ↔ (q.s.wh x = some a5 ∧ left (.int .i64 x) = false)) ∧ (∀ kl, left kl = true → Maps.has D0 kl = true)) (k := Maps.size D0)
      ⟨Maps.has D0, [], A, C, c1, F.sub ⟨rfl, by rw [List.append_nil]; rfl, rfl, trivial⟩, E, B, hrg, hcm, hcr, by rw [List.append_nil]; exact hS, List.nodup_nil, fun x => ⟨fun h => (by cases h), fun h => (by have := hDs x; rw [h.1, h.2] at this; cases this)⟩, fun kl h => h⟩ ?_
    clear F E B hS hrg hcm hcr E1 B1
    intro n X hX a w ⟨left, ks, A, C, c, F, E, B, hrg, hcm, hcr, hS, hn, hm, hh⟩
    have hlen : ks.length ≤ 64 := by
      have e := sortI_length ks
      have := rising_len (lo := 0) (hi := 64) (sortI_rises hn) fun x hx => by
        have := hkeys x a5 ((hm x).1 ((List.mergeSort_perm ks _).mem_iff.1 hx)).1
        omega
      omega
    refine wp_seq_k fun K11 hK11 => ?_
    refine reg ?_
    refine q_next F (by decide) Try.underlying3 rfl hrg ?_ ?_
    · intro hl a F
      refine q_val F rfl rfl (by decide) (r_extract F rfl rfl) fun a F => ?_
      refine nil ?_
      refine hK11 _ _ ?_
      refine wp_seq_k fun K12 hK12 => ?_
      refine wp_cond_false (F.ev rfl) ?_
      refine wp_exit ?_
      repeat (first | refine thenE ?_ | refine inbE ?_)
      exact J2 ks A C c w a (F.sub ⟨rfl, trivial⟩) E B hS hlen hn fun x => ⟨fun h => ((hm x).1 h).1, fun h => (hm x).2 ⟨h, hl _⟩⟩
    · intro x v w1 cnt1 a hlx hat hrg1 hlt hgr hsz hen F
      have E1 : Ev (fun x => x = m + 1) c w c w1 := ⟨hgr.os, hgr.tape, hgr.output, hgr.size, fun _ _ => rfl, fun k hk hm => hgr.block k hk (fun e => hm (by injection e with e; rw [e]; exact hcr))⟩
      obtain ⟨u, hu⟩ : ∃ u, q.s.wh x = some u := by
        have h1 := hh _ hlx
        rw [hDs x] at h1
        cases e : q.s.wh x with
        | none => rw [e] at h1; cases h1
        | some u => exact ⟨u, rfl⟩
      have hv : v = .int .i64 u := by
        have h1 := hat (.held undef)
        rw [hDv x undef, hu] at h1
        injection h1 with h1
        exact h1.symm
      subst hv
      have B := B.size hsz
      have hS := hS.ev E1 (by show ¬ (m = m + 1); omega) (by show ¬ (0 = m + 1); omega)
      have E := E.trans E1 (fun x q => by replace q : x = m + 1 := q; show False ∨ m ≤ x; omega)
      refine q_val F rfl rfl (by decide) (r_extract F rfl rfl) fun a F => ?_
      refine nil ?_
      refine hK11 _ _ ?_
      refine wp_seq_k fun K12 hK12 => ?_
      refine wp_cond_true (F.ev rfl) ?_
      refine wp_skip ?_
      refine hK12 _ _ ?_
      refine wp_block ?_
      refine wp_seq_k fun K13 hK13 => ?_
      refine reg ?_
      refine q_val F rfl rfl (by decide) (r_entry F rfl hen) fun a F => ?_
      refine q_val F rfl rfl (by decide) (r_extract F rfl rfl) fun a F => ?_
      refine q_val F rfl rfl (by decide) (r_extract F rfl rfl) fun a F => ?_
      refine q_val F rfl rfl (by decide) (r_assign F rfl) fun a F => ?_
      refine q_val F rfl rfl (by decide) (r_assign F rfl) fun a F => ?_
      refine nil ?_
      refine hK13 _ _ ?_
      refine wp_seq_k fun K14 hK14 => ?_
      refine reg ?_
      refine q_val F rfl rfl (by decide) (r_move F rfl) fun a F => ?_
      refine q_val F rfl rfl (by decide) (r_move F rfl) fun a F => ?_
      refine q_val F rfl rfl (by decide) (r_eql F rfl rfl) fun a F => ?_
      refine nil ?_
      refine hK14 _ _ ?_
      have hleft : ∀ y, (left (.int .i64 y) && !(Lit.int .i64 y).sameKey (.int .i64 x)) = false ↔ left (.int .i64 y) = false ∨ y = x := fun y => by
        by_cases e : y = x
        · subst e
          rw [WideAt.sameKey_self (show WideAt.IsKeyLit (.int .i64 y) from trivial)]
          simp
        · have : (Lit.int .i64 y).sameKey (.int .i64 x) = false := by
            cases hs : (Lit.int .i64 y).sameKey (.int .i64 x)
            · rfl
            · have := WideAt.sameKey_eq hs; injection this with _ h; exact absurd h e
          rw [this]; simp [e]
      have hh' : ∀ kl, (left kl && !kl.sameKey (.int .i64 x)) = true → Maps.has D0 kl = true := fun kl h => hh kl (by simp only [Bool.and_eq_true] at h; exact h.1)
      by_cases c1 : u = a5
      · refine wp_cond_true ((F.ev rfl).trans (congrArg Value.bool (decide_eq_true c1))) ?_
        subst c1
        refine reg ?_
        refine q_val F rfl rfl (by decide) (r_move F rfl) fun a F => ?_
        refine q_val F rfl rfl (by decide) (r_move F rfl) fun a F => ?_
        refine q_eff F rfl rfl (by decide) (e_buildSlice (n := 1) (e := 3) (c := c) (k := Kint .i64) (i := 0) F [(0, .int .i64 x)] [.int .i64 x] ([x] : List Int) (by exact ⟨rfl, rfl, trivial⟩) (fun w => by kernel_rfl) rfl (by decide) rfl ⟨rfl, trivial⟩ (fun q => q) (m + 2)) ?_
        rintro v w2 a ⟨c2, A2, C2, rfl, E2, h2, B2⟩ F
        have B := B2 _ B (by omega)
        have hS := hS.ev E2 (fun q => q.elim) (fun q => q.elim)
        have hrg2 := ranges_ev hrg1 E2 (fun q => q.elim) (fun q => q.elim)
        have hcm2 : c2 m1 = j4 := (E2.col _ hrg1.owns.lt).trans hcm
        have hcr2 : c2 r = m + 1 := (E2.col _ hrg1.lt).trans hcr
        have E := E.trans E2 (fun x q => q.elim)
        have hl1 : (homeL q.s u q.s.shards.toNat ++ ks).length + 1 ≤ 1000 := by have := homeL_len q.s u q.s.shards.toNat; rw [List.length_append]; omega
        refine q_eff F rfl rfl (by decide) (e_append (k := Kint .i64) (xs := homeL q.s u q.s.shards.toNat ++ ks) (ys := [x]) (c := c2) (j := m) (i := 0) F etl rfl rfl hS h2 (by simp only [List.length_cons, List.length_nil]; omega) (by unfold maxLen; simp only [List.length_cons, List.length_nil]; omega) (by omega)) ?_
        rintro v w3 a ⟨c3, A3, C3, rfl, E3, h3, B3⟩ F
        have B := B3 _ B (by omega)
        have hrg3 := ranges_ev hrg2 E3 (by show ¬ (c2 m1 = m); omega) (by show ¬ (c2 r = m); omega)
        have hcm3 : c3 m1 = j4 := (E3.col _ hrg2.owns.lt).trans hcm2
        have hcr3 : c3 r = m + 1 := (E3.col _ hrg2.lt).trans hcr2
        have E := E.trans E3 (fun x q => by replace q : x = m := q; show False ∨ m ≤ x; omega)
        refine q_val F rfl rfl (by decide) (r_assign F rfl) fun a F => ?_
        refine nil ?_
        rw [List.append_assoc] at h3
        refine hX _ _ _ hlt ⟨_, ks ++ [x], A3, C3, c3, F.sub ⟨rfl, by rw [← List.append_assoc]; rfl, rfl, trivial⟩, E, B, hrg3, hcm3, hcr3, h3, ?_, fun y => ?_, hh'⟩
        · refine List.nodup_append.2 ⟨hn, by simp, fun y h1 z h2 e => ?_⟩
          simp only [List.mem_singleton] at h2
          subst h2; subst e
          have := ((hm y).1 h1).2
          rw [hlx] at this; cases this
        · rw [List.mem_append, hm, List.mem_singleton, hleft]
          constructor
          · rintro (⟨h1, h2⟩ | rfl)
            · exact ⟨h1, .inl h2⟩
            · exact ⟨hu, .inr rfl⟩
          · rintro ⟨h1, h2 | h2⟩
            · exact .inl ⟨h1, h2⟩
            · exact .inr h2
      · refine wp_cond_false ((F.ev rfl).trans (congrArg Value.bool (decide_eq_false c1))) ?_
        refine wp_skip ?_
        refine hX _ _ _ hlt ⟨_, ks, A, C, c, F.sub ⟨rfl, rfl, rfl, trivial⟩, E, B, hrg1, hcm, hcr, hS, hn, fun y => ?_, hh'⟩
        rw [hm, hleft]
        constructor
        · rintro ⟨h1, h2⟩; exact ⟨h1, .inl h2⟩
        · rintro ⟨h1, h2 | h2⟩
          · exact ⟨h1, h2⟩
          · subst h2; rw [hu] at h1; exact absurd (Option.some.inj h1) c1
  refine loop_fuel (I := fun n a w => ∃ (i : Nat) (A : Option Addr) (C : Nat) (c : Nat → Nat), Fr a 64 [(0, .pointer (some ⟨b, 0, none⟩)), (1, .int .i64 a5), (5, .slice A (homeL q.s a5 i).length C), (17, .int .i64 q.s.shards), (18, .int .i64 i)] ∧ Ev (fun x => False ∨ m ≤ x) c0 w0 c w ∧ CB (m + 3) c w ∧ RU j4 c w (some ⟨b, 0, none⟩) (some q) ∧ SL true (Kint .i64) m 0 c w A C (homeL q.s a5 i) ∧ (i : Int) ≤ q.s.shards ∧ n = q.s.shards.toNat - i) (k := q.s.shards.toNat) ⟨0, none, 0, c0, F.sub ⟨rfl, rfl, rfl, rfl, rfl, trivial⟩, E, B, h3, SL.nil, by omega, by omega⟩ ?_
  clear F E B h3
  intro n X hX a w ⟨i, A, C, c, F, E, B, h3, hS, hi, en⟩
  refine wp_seq_k fun K7 hK7 => ?_
  refine reg ?_
  refine q_val F rfl rfl (by decide) (r_lss F rfl rfl) fun a F => ?_
  refine nil ?_
  refine hK7 _ _ ?_
  refine wp_seq_k fun K8 hK8 => ?_
  by_cases hb : (i : Int) < q.s.shards
  · refine wp_cond_true ((F.ev rfl).trans (congrArg Value.bool (decide_eq_true hb))) ?_
    refine wp_skip ?_
    refine hK8 _ _ ?_
    refine wp_seq_k fun K9 hK9 => ?_
    refine wp_block ?_
    refine wp_seq_k fun K10 hK10 => ?_
    refine reg ?_
    refine q_val F rfl rfl (by decide) (r_move F rfl) fun a F => ?_
    refine q_val F rfl rfl (by decide) (r_assign F rfl) fun a F => ?_
    refine nil ?_
    refine hK10 _ _ ?_
    refine wp_seq_k fun K11 hK11 => ?_
    refine reg ?_
    have h3' := h3
    obtain ⟨b_, m1, m2, T, eb, R, _⟩ := h3'
    cases eb
    have hat := rep_at R R.fb
    refine q_val F rfl rfl (by decide) (r_move F rfl) fun a F => ?_
    refine q_val F rfl rfl (by decide) (r_nil F rfl) fun a F => ?_
    refine q_val F rfl rfl (by decide) (r_fieldAddr F rfl ffw) fun a F => ?_
    refine q_val F rfl rfl (by decide) (r_load F rfl agm (AT.cell hat (n := 2) rfl)) fun a F => ?_
    refine q_val F rfl rfl (by decide) (r_move F rfl) fun a F => ?_
    refine q_val F rfl rfl (by decide) (r_lookup_ok F Try.underlying3 Try.underlying56 (zeroInt _) rfl rfl R.vm1 (fits_wf (by omega))) fun a F => ?_
    refine q_val F rfl rfl (by decide) (r_move F rfl) fun a F => ?_
    refine q_val F rfl rfl (by decide) (r_extract F rfl rfl) fun a F => ?_
    refine q_val F rfl rfl (by decide) (r_extract F rfl rfl) fun a F => ?_
    refine q_val F rfl rfl (by decide) (r_assign F rfl) fun a F => ?_
    refine q_val F rfl rfl (by decide) (r_assign F rfl) fun a F => ?_
    refine nil ?_
    refine hK11 _ _ ?_
    clear hat R
    -- behind the round
    have J3 : ∀ (A : Option Addr) (C : Nat) (c : Nat → Nat) (w : World) (a : Act), Fr a 64 [(0, .pointer (some ⟨b, 0, none⟩)), (1, .int .i64 a5), (5, .slice A (homeL q.s a5 (i + 1)).length C), (17, .int .i64 q.s.shards), (18, .int .i64 i)] → Ev (fun x => False ∨ m ≤ x) c0 w0 c w → CB (m + 3) c w → RU j4 c w (some ⟨b, 0, none⟩) (some q) → SL true (Kint .i64) m 0 c w A C (homeL q.s a5 (i + 1)) → K9 a w := by
      clear F E B h3 hS
      intro A C c w a F E B h3 hS
      refine hK9 _ _ ?_
      refine reg ?_
      refine q_val F rfl rfl (by decide) (r_add F rfl rfl) fun a F => ?_
      refine q_val F rfl rfl (by decide) (r_move F rfl) fun a F => ?_
      refine nil ?_
      have ew : IntKind.i64.wrap ((i : Int) + 1) = ((i + 1 : Nat) : Int) := by rw [IntKind.wrap_i64]; omega
      rw [ew] at F
      exact hX _ _ _ (show q.s.shards.toNat - (i + 1) < n by omega) ⟨i + 1, A, C, c, F.sub ⟨rfl, rfl, rfl, rfl, rfl, trivial⟩, E, B, h3, hS, by omega, rfl⟩
    refine wp_seq_k fun K12 hK12 => ?_
    refine reg ?_
    refine q_val F rfl rfl (by decide) (r_move F rfl) fun a F => ?_
    refine q_val F rfl rfl (by decide) (r_not F rfl) fun a F => ?_
    refine q_val F rfl rfl (by decide) (r_move F rfl) fun a F => ?_
    cases hw : q.s.wh i with
    | none =>
      rw [hw] at F
      have hb1 : (!(Option.map (Value.int .i64) (none : Option Int)).isSome) = true := rfl
      refine q_yes F rfl (by decide) rfl hb1 ?_
      refine q_val F rfl rfl (by decide) (r_move F rfl) fun a F => ?_
      refine q_yes F rfl (by decide) rfl hb1 ?_
      refine q_val F rfl rfl (by decide) (r_move F rfl) fun a F => ?_
      refine q_yes F rfl (by decide) rfl hb1 ?_
      refine q_call F rfl rfl (by decide) (r_call F Try.func14 rfl (by kernel_rfl) rfl) (route_Route_Where.calls (m := m + 3) (by omega) B h3 (by omega) _ rfl) ?_
      rintro e w1 ⟨c1, rfl, E1, B1⟩
      refine ⟨_, rfl, fun a F => ?_⟩
      have B := B1
      have h3 := h3.ev E1 (fun q => q) (fun q => q)
      have hS := hS.ev E1 (fun q => q) (fun q => q)
      have E := E.trans E1 (fun x q => q.elim)
      refine q_yes F rfl (by decide) rfl hb1 ?_
      refine q_val F rfl rfl (by decide) (r_move F rfl) fun a F => ?_
      refine q_yes F rfl (by decide) rfl hb1 ?_
      refine q_val F rfl rfl (by decide) (r_eql F rfl rfl) fun a F => ?_
      refine q_val F rfl rfl (by decide) (r_pick_t F rfl hb1 rfl) fun a F => ?_
      refine nil ?_
      refine hK12 _ _ ?_
      by_cases hb2 : q.s.where_ i = a5
      · refine wp_cond_true ((F.ev rfl).trans (congrArg Value.bool (decide_eq_true hb2))) ?_
        have eL := homeL_succ q.s a5 i
        rw [if_pos ⟨hw, hb2⟩] at eL
        refine reg ?_
        refine q_val F rfl rfl (by decide) (r_move F rfl) fun a F => ?_
        refine q_val F rfl rfl (by decide) (r_move F rfl) fun a F => ?_
        refine q_eff F rfl rfl (by decide) (e_buildSlice (n := 1) (e := 3) (c := c1) (k := Kint .i64) (i := 0) F [(0, .int .i64 i)] [.int .i64 i] ([(i : Int)] : List Int) (by exact ⟨rfl, rfl, trivial⟩) (fun w => by kernel_rfl) rfl (by decide) rfl ⟨rfl, trivial⟩ (fun q => q) (m + 2)) ?_
        rintro v w2 a ⟨c2, A2, C2, rfl, E2, h2, B2⟩ F
        have B := B2 _ B (by omega)
        have h3 := h3.ev E2 (fun q => q.elim) (fun q => q.elim)
        have hS := hS.ev E2 (fun q => q.elim) (fun q => q.elim)
        have E := E.trans E2 (fun x q => q.elim)
        have hl1 := homeL_len q.s a5 i
        refine q_eff F rfl rfl (by decide) (e_append (k := Kint .i64) (xs := homeL q.s a5 i) (ys := [(i : Int)]) (c := c2) (j := m) (i := 0) F etl rfl rfl hS h2 (by simp only [List.length_cons, List.length_nil]; omega) (by unfold maxLen; simp only [List.length_cons, List.length_nil]; omega) (by omega)) ?_
        rintro v w4 a ⟨c4, A4, C4, rfl, E4, h4, B4⟩ F
        have B := B4 _ B (by omega)
        have h3 := h3.ev E4 (by show ¬ (j4 = m); omega) (by show ¬ (0 = m); omega)
        have E := E.trans E4 (fun x q => by replace q : x = m := q; show False ∨ m ≤ x; omega)
        refine q_val F rfl rfl (by decide) (r_assign F rfl) fun a F => ?_
        refine nil ?_
        rw [← eL] at h4
        exact J3 A4 C4 c4 w4 a (F.sub ⟨rfl, rfl, by rw [eL]; rfl, rfl, rfl, trivial⟩) E B h3 h4
      · refine wp_cond_false ((F.ev rfl).trans (congrArg Value.bool (decide_eq_false hb2))) ?_
        refine wp_skip ?_
        have eL := homeL_succ q.s a5 i
        rw [if_neg (fun h => hb2 h.2)] at eL
        exact J3 A C c1 w1 a (F.sub ⟨rfl, rfl, by rw [eL]; rfl, rfl, rfl, trivial⟩) E B h3 (by rw [eL]; exact hS)
    | some u =>
      rw [hw] at F
      have hb1 : (!(Option.map (Value.int .i64) (some u : Option Int)).isSome) = !true := rfl
      refine q_no F rfl (by decide) rfl hb1 (by decide) fun a F => ?_
      refine q_no F rfl (by decide) rfl hb1 (by decide) fun a F => ?_
      refine q_no F rfl (by decide) rfl hb1 (by decide) fun a F => ?_
      refine q_no F rfl (by decide) rfl hb1 (by decide) fun a F => ?_
      refine q_no F rfl (by decide) rfl hb1 (by decide) fun a F => ?_
      refine q_val F rfl rfl (by decide) (r_pick_f F rfl rfl rfl) fun a F => ?_
      refine nil ?_
      refine hK12 _ _ ?_
      refine wp_cond_false (F.ev rfl) ?_
      refine wp_skip ?_
      have eL := homeL_succ q.s a5 i
      rw [if_neg (fun h => by rw [hw] at h; cases h.1)] at eL
      exact J3 A C c w a (F.sub ⟨rfl, rfl, by rw [eL]; rfl, rfl, rfl, trivial⟩) E B h3 (by rw [eL]; exact hS)
  · refine wp_cond_false ((F.ev rfl).trans (congrArg Value.bool (decide_eq_false hb))) ?_
    refine wp_exit ?_
    repeat (first | refine thenE ?_ | refine inbE ?_)
    have ei : i = q.s.shards.toNat := by omega
    subst ei
    exact J1 A C c w a (F.sub ⟨rfl, rfl, rfl, trivial⟩) E B h3 hS
set_option maxRecDepth 100000 in
set_option maxHeartbeats 2000000 in
theorem route_Route_Counts.calls {m : Nat} {c0 : Nat → Nat} {w0 : World} {j4 : Nat} {p2 : Option Addr} {a1 : Option Rou} (hm0 : 0 < m) (B0 : CB m c0 w0) (h3 : RU j4 c0 w0 p2 a1) (bj4 : j4 < m) (r : Int × Int × Int) (H : route_Route_Counts.f a1 = some r) :
    Calls Try.prog 22 #[.pointer p2] w0 (fun e w_ => ∃ (c_ : Nat → Nat), e = .returned (.tuple #[.int .i64 r.1, .int .i64 r.2.1, .int .i64 r.2.2]) ∧ Ev (fun x => False) c0 w0 c_ w_ ∧ CB m c_ w_) := by
  unfold route_Route_Counts.f at H
  obtain ⟨q, e_, H'⟩ := bind_some H
  subst e_
  clear H
  have hr := Option.some.inj H'
  subst hr
  clear H'
  obtain ⟨b, m1, m2, T, rfl, R, hkeys⟩ := h3
  have hat := rep_at R R.fb
  refine enter (N := 19) (l := [.pointer (some ⟨b, 0, none⟩)]) Try.func22 rfl rfl (Nat.le_of_ble_eq_true rfl) fun a F => ?_
  refine wp_seq_k fun K1 hK1 => ?_
  refine reg ?_
  refine q_val F rfl rfl (by decide) (r_assign F rfl) fun a F => ?_
  refine q_val F rfl rfl (by decide) (r_assign F rfl) fun a F => ?_
  refine q_val F rfl rfl (by decide) (r_assign F rfl) fun a F => ?_
  refine nil ?_
  refine hK1 _ _ ?_
  refine wp_seq_k fun K2 hK2 => ?_
  refine wp_seq_k fun K3 hK3 => ?_
  refine reg ?_
  refine q_val F rfl rfl (by decide) (r_move F rfl) fun a F => ?_
  refine q_val F rfl rfl (by decide) (r_peql F Try.underlying24 rfl rfl) fun a F => ?_
  refine nil ?_
  refine hK3 _ _ ?_
  refine wp_cond_false (F.ev rfl) ?_
  refine wp_skip ?_
  refine hK2 _ _ ?_
  refine wp_seq_k fun K4 hK4 => ?_
  refine regD (SB No c0 w0) 15 (.q 0 (.q 1 (.q 2 (.q 3 (.q 4 (.q 5 (.q 6 (.q 7 (.q 8 (.q 9 (.q 10 (.q 11 (.q 12 (.q 13 (.q 14 .nil))))))))))))))) Try_hm (by decide +kernel) ?_
  intro w1 w1_ w2_ w3_ w4_
  have ER : Ev No c0 w0 c0 w1 := Ev.same w1_ w2_ w3_ w4_
  have B := B0.same w1_
  refine d_q F rfl rfl rfl (by decide) (fun wq hS => r_move F rfl) ER.sb fun a F => ?_
  refine d_q F rfl rfl rfl (by decide) (fun wq hS => r_nil F rfl) ER.sb fun a F => ?_
  refine d_q F rfl rfl rfl (by decide) (fun wq hS => r_fieldAddr F rfl ff4) ER.sb fun a F => ?_
  refine d_q F rfl rfl rfl (by decide) (fun wq hS => r_load F rfl agi (AT.cell (AT.sb hat hS (fun q => q.elim)) (n := 4) rfl)) ER.sb fun a F => ?_
  refine d_q F rfl rfl rfl (by decide) (fun wq hS => r_move F rfl) ER.sb fun a F => ?_
  refine d_q F rfl rfl rfl (by decide) (fun wq hS => r_nil F rfl) ER.sb fun a F => ?_
  refine d_q F rfl rfl rfl (by decide) (fun wq hS => r_fieldAddr F rfl ff5) ER.sb fun a F => ?_
  refine d_q F rfl rfl rfl (by decide) (fun wq hS => r_load F rfl agi (AT.cell (AT.sb hat hS (fun q => q.elim)) (n := 5) rfl)) ER.sb fun a F => ?_
  refine d_q F rfl rfl rfl (by decide) (fun wq hS => r_move F rfl) ER.sb fun a F => ?_
  refine d_q F rfl rfl rfl (by decide) (fun wq hS => r_nil F rfl) ER.sb fun a F => ?_
  refine d_q F rfl rfl rfl (by decide) (fun wq hS => r_fieldAddr F rfl ff6) ER.sb fun a F => ?_
  refine d_q F rfl rfl rfl (by decide) (fun wq hS => r_load F rfl agi (AT.cell (AT.sb hat hS (fun q => q.elim)) (n := 6) rfl)) ER.sb fun a F => ?_
  refine d_q F rfl rfl rfl (by decide) (fun wq hS => r_assign F rfl) ER.sb fun a F => ?_
  refine d_q F rfl rfl rfl (by decide) (fun wq hS => r_assign F rfl) ER.sb fun a F => ?_
  refine d_q F rfl rfl rfl (by decide) (fun wq hS => r_assign F rfl) ER.sb fun a F => ?_
  refine d_nil ?_
  refine hK4 _ _ ?_
  refine wp_ret ?_
  refine out3 F rfl rfl rfl rfl ?_
  exact ⟨c0, rfl, ER.mono (fun _ q => q.elim), B⟩
end Go.Proofs.Ytohljkjaggcapaa.G
namespace Go.Proofs.Ytohljkjaggcapaa.G
open Go Go.RowKit
set_option linter.unusedVariables false
set_option linter.unusedSimpArgs false
set_option maxRecDepth 100000 in
set_option maxHeartbeats 4000000 in
theorem haulagelaw23_num.calls {m : Nat} {c0 : Nat → Nat} {w0 : World} {a1 : Int} (hm0 : 0 < m) (B0 : CB m c0 w0) (r : Int) (H : haulagelaw23_num.f a1 = some r) : Calls Try.prog 11 #[.int .i64 a1] w0 (fun e w_ => ∃ (c_ : Nat → Nat), e = .returned (.int .i64 r) ∧ Ev (fun x => False) c0 w0 c_ w_ ∧ CB m c_ w_) := by
  unfold haulagelaw23_num.f at H
  have B := B0.mono (show m ≤ m + 1 by omega)
  have E : Ev (fun x => False ∨ m ≤ x) c0 w0 c0 w0 := Ev.refl
  refine enter (N := 4) (l := [.int .i64 a1]) Try.func11 rfl rfl (Nat.le_of_ble_eq_true rfl) fun a F => ?_
  refine wp_seq_k fun K2 hK2 => ?_
  refine reg ?_
  refine q_val F rfl rfl (by decide) (r_assign F rfl) fun a F => ?_
  refine nil ?_
  refine hK2 _ _ ?_
  refine wp_seq_k fun K3 hK3 => ?_
  refine reg ?_
  refine q_val F rfl rfl (by decide) (r_move F rfl) fun a F => ?_
  refine q_val F rfl rfl (by decide) (r_assign F rfl) fun a F => ?_
  refine nil ?_
  refine hK3 _ _ ?_
  refine wp_ret ?_
  have H := Option.some.inj H
  subst H
  refine out1 F rfl rfl ?_
  exact ⟨fun b_ => (fun x_ => if x_ < m then x_ else 0) (c0 b_), rfl, E.leave B0 (fun x_ => if x_ < m then x_ else 0) (by intro x_ hx_; show (if x_ < m then x_ else 0) = x_; ((repeat' split) <;> omega)), (fun b_ hb_ => by show (if (c0 b_) < m then (c0 b_) else 0) < m; ((repeat' split) <;> omega))⟩
end Go.Proofs.Ytohljkjaggcapaa.G
namespace Go.Proofs.Ytohljkjaggcapaa.G
open Go Go.RowKit
set_option linter.unusedVariables false
set_option linter.unusedSimpArgs false
set_option maxRecDepth 100000 in
set_option maxHeartbeats 4000000 in
theorem haulagelaw23_ints.calls (k : Nat) {m : Nat} {c0 : Nat → Nat} {w0 : World} {A2 : Option Addr} {C3 : Nat} {A6 : Option Addr} {C7 : Nat} {a1 : List Int} {a5 : List Int} (hm0 : 0 < m) (B0 : CB m c0 w0) (h4 : SL false (Kint .i64) 0 0 c0 w0 A2 C3 a1) (h8 : SL false (Kint .i64) 0 0 c0 w0 A6 C7 a5) (r : Bool) (H : haulagelaw23_ints.f k a1 a5 = some r) : Calls Try.prog 15 #[.slice A2 a1.length C3, .slice A6 a5.length C7] w0 (fun e w_ => ∃ (c_ : Nat → Nat), e = .returned (.bool r) ∧ Ev (fun x => False) c0 w0 c_ w_ ∧ CB m c_ w_) := by
  unfold haulagelaw23_ints.f at H
  have B := B0.mono (show m ≤ m + 1 by omega)
  have E : Ev (fun x => False ∨ m ≤ x) c0 w0 c0 w0 := Ev.refl
  refine enter (N := 26) (l := [.slice A2 a1.length C3, .slice A6 a5.length C7]) Try.func15 rfl rfl (Nat.le_of_ble_eq_true rfl) fun a F => ?_
  refine wp_seq_k fun K9 hK9 => ?_
  refine reg ?_
  refine q_val F rfl rfl (by decide) (r_assign F rfl) fun a F => ?_
  refine nil ?_
  refine hK9 _ _ ?_
  refine wp_seq_k fun K10 hK10 => ?_
  refine wp_seq_k fun K11 hK11 => ?_
  refine reg ?_
  refine q_val F rfl rfl (by decide) (r_move F rfl) fun a F => ?_
  refine q_val F rfl rfl (by decide) (r_lensl F Try.underlying22 rfl) fun a F => ?_
  refine q_val F rfl rfl (by decide) (r_move F rfl) fun a F => ?_
  refine q_val F rfl rfl (by decide) (r_lensl F Try.underlying22 rfl) fun a F => ?_
  refine q_val F rfl rfl (by decide) (r_neq F rfl rfl) fun a F => ?_
  refine nil ?_
  refine hK11 _ _ ?_
  by_cases hb12 : (a1.length : Int) = (a5.length : Int)
  · have H := (if_pos hb12).symm.trans H
    refine wp_cond_false ((F.ev rfl).trans (congrArg Value.bool (congrArg not (decide_eq_true hb12)))) ?_
    refine wp_skip ?_
    refine hK10 _ _ ?_
    refine wp_seq_k fun K14 hK14 => ?_
    refine wp_seq_k fun K15 hK15 => ?_
    refine reg ?_
    refine q_val F rfl rfl (by decide) (r_assign F rfl) fun a F => ?_
    refine nil ?_
    refine hK15 _ _ ?_
    refine wp_block ?_
    obtain ⟨x26, HL, HR25⟩ := bind_some H
    have J53 : ∀ (c54 : Nat → Nat) (w55 : World) (a : Act), Fr a 26 [] → Ev (fun x => False ∨ m ≤ x) c0 w0 c54 w55 → CB (m + 1) c54 w55 → haulagelaw23_ints.j2 = some r → K14 a w55 := by
      intro c54 w55 a  F E B  H
      unfold haulagelaw23_ints.j2 at H
      refine hK14 _ _ ?_
      refine wp_seq_k fun K56 hK56 => ?_
      refine reg ?_
      refine q_val F rfl rfl (by decide) (r_assign F rfl) fun a F => ?_
      refine nil ?_
      refine hK56 _ _ ?_
      refine wp_ret ?_
      have H := Option.some.inj H
      subst H
      refine out1 F rfl rfl ?_
      exact ⟨fun b_ => (fun x_ => if x_ < m then x_ else 0) (c54 b_), rfl, E.leave B0 (fun x_ => if x_ < m then x_ else 0) (by intro x_ hx_; show (if x_ < m then x_ else 0) = x_; ((repeat' split) <;> omega)), (fun b_ hb_ => by show (if (c54 b_) < m then (c54 b_) else 0) < m; ((repeat' split) <;> omega))⟩
    refine loop_fuel (I := fun n a w => ∃ (i16 : Int) (c : Nat → Nat), Fr a 26 [(0, .slice A2 a1.length C3), (1, .slice A6 a5.length C7), (5, .int .i64 i16)] ∧ Ev (fun x => False ∨ m ≤ x) c0 w0 c w ∧ CB (m + 1) c w ∧ SL false (Kint .i64) 0 0 c w A2 C3 a1 ∧ SL false (Kint .i64) 0 0 c w A6 C7 a5 ∧ loop (fun (s_ : Int) => haulagelaw23_ints.b1 a1 a5 s_) n i16 = some x26) (k := k) ⟨0, c0, F.sub ⟨rfl, rfl, rfl, trivial⟩, E, B, h4, h8, HL⟩ ?_
    clear HL H E F B
    intro n23 X19 hX19 a w18 ⟨i16, c17, F, E, B, h4, h8, HL⟩
    obtain ⟨n24, ctl22, rfl, HB, HN20, HD21⟩ := loop_some HL
    have H : haulagelaw23_ints.b1 a1 a5 i16 = some ctl22 := HB
    clear HB HL
    unfold haulagelaw23_ints.b1 at H
    refine wp_seq_k fun K27 hK27 => ?_
    refine wp_seq_k fun K28 hK28 => ?_
    refine reg ?_
    refine q_val F rfl rfl (by decide) (r_move F rfl) fun a F => ?_
    refine q_val F rfl rfl (by decide) (r_move F rfl) fun a F => ?_
    refine q_val F rfl rfl (by decide) (r_lensl F Try.underlying22 rfl) fun a F => ?_
    refine q_val F rfl rfl (by decide) (r_lss F rfl rfl) fun a F => ?_
    refine nil ?_
    refine hK28 _ _ ?_
    by_cases hb29 : i16 < (a1.length : Int)
    · have H := (if_pos hb29).symm.trans H
      refine wp_cond_true ((F.ev rfl).trans (congrArg Value.bool (decide_eq_true hb29))) ?_
      refine wp_skip ?_
      refine hK27 _ _ ?_
      refine wp_seq_k fun K30 hK30 => ?_
      refine wp_block ?_
      refine wp_seq_k fun K31 hK31 => ?_
      refine regD (SB No c17 w18) 9 (.q 0 (.q 1 (.q 2 (.q 3 (.q 4 (.q 5 (.q 6 (.q 7 (.q 8 .nil))))))))) Try_hm (by decide +kernel) ?_
      intro w32 w1_ w2_ w3_ w4_
      have E33 : Ev No c17 w18 c17 w32 := Ev.same w1_ w2_ w3_ w4_
      have B := B.same w1_
      have zh4 := h4
      have zh8 := h8
      have ER : Ev No c17 w18 c17 w32 := Ev.same w1_ w2_ w3_ w4_
      have h4 := SL.ev h4 E33 (fun q => q.elim) (fun q => q.elim)
      have h8 := SL.ev h8 E33 (fun q => q.elim) (fun q => q.elim)
      have E := E.trans E33 (fun x q => q.elim)
      refine d_q F rfl rfl rfl (by decide) (fun wq hS => r_move F rfl) ER.sb fun a F => ?_
      refine d_q F rfl rfl rfl (by decide) (fun wq hS => r_move F rfl) ER.sb fun a F => ?_
      obtain ⟨g34, H⟩ := ifN H
      obtain ⟨ad35, cs36, e37, h38, r39⟩ := SL.at zh4 i16 g34.1 g34.2
      obtain rfl : cs36 = [.int .i64 (rd a1 i16)] := r39
      obtain ⟨qa40, qqa40⟩ : ∃ q, q = (ad35.add (i16.toNat * 1)) := ⟨_, rfl⟩
      have h38 : AT false 0 c17 w18 qa40 [.int .i64 (rd a1 i16)] := by rw [qqa40]; exact h38
      have zh38 := h38
      have h38 := AT.ev h38 ER (fun q => q.elim)
      refine d_q F rfl rfl rfl (by decide) (fun wq hS => r_indexAddr' F Try.underlying22 sz_3 rfl rfl g34.1 g34.2 e37 qqa40) ER.sb fun a F => ?_
      refine d_q F rfl rfl rfl (by decide) (fun wq hS => r_load F rfl ag_3 (AT.cell0 (AT.sb zh38 hS (fun q => q.elim)) rfl)) ER.sb fun a F => ?_
      refine d_q F rfl rfl rfl (by decide) (fun wq hS => r_move F rfl) ER.sb fun a F => ?_
      refine d_q F rfl rfl rfl (by decide) (fun wq hS => r_move F rfl) ER.sb fun a F => ?_
      obtain ⟨g42, H⟩ := ifN H
      obtain ⟨ad43, cs44, e45, h46, r47⟩ := SL.at zh8 i16 g42.1 g42.2
      obtain rfl : cs44 = [.int .i64 (rd a5 i16)] := r47
      obtain ⟨qa48, qqa48⟩ : ∃ q, q = (ad43.add (i16.toNat * 1)) := ⟨_, rfl⟩
      have h46 : AT false 0 c17 w18 qa48 [.int .i64 (rd a5 i16)] := by rw [qqa48]; exact h46
      have zh46 := h46
      have h46 := AT.ev h46 ER (fun q => q.elim)
      refine d_q F rfl rfl rfl (by decide) (fun wq hS => r_indexAddr' F Try.underlying22 sz_3 rfl rfl g42.1 g42.2 e45 qqa48) ER.sb fun a F => ?_
      refine d_q F rfl rfl rfl (by decide) (fun wq hS => r_load F rfl ag_3 (AT.cell0 (AT.sb zh46 hS (fun q => q.elim)) rfl)) ER.sb fun a F => ?_
      refine d_q F rfl rfl rfl (by decide) (fun wq hS => r_neq F rfl rfl) ER.sb fun a F => ?_
      refine d_nil ?_
      refine hK31 _ _ ?_
      by_cases hb50 : (rd a1 i16) = (rd a5 i16)
      · have H := (if_pos hb50).symm.trans H
        refine wp_cond_false ((F.ev rfl).trans (congrArg Value.bool (congrArg not (decide_eq_true hb50)))) ?_
        refine wp_skip ?_
        refine hK30 _ _ ?_
        refine reg ?_
        refine q_val F rfl rfl (by decide) (r_move F rfl) fun a F => ?_
        refine q_val F rfl rfl (by decide) (r_add F rfl rfl) fun a F => ?_
        refine q_val F rfl rfl (by decide) (r_assign F rfl) fun a F => ?_
        refine nil ?_
        have H := HN20 _ (Option.some.inj H).symm
        exact hX19 _ _ _ (Nat.lt_succ_self _) ⟨(IntKind.i64.wrap (i16 + 1)), c17, F.sub ⟨rfl, rfl, rfl, trivial⟩, E, B, h4, h8, H⟩
      · have H := (if_neg hb50).symm.trans H
        refine wp_cond_true ((F.ev rfl).trans (congrArg Value.bool (congrArg not (decide_eq_false hb50)))) ?_
        refine wp_seq_k fun K51 hK51 => ?_
        refine reg ?_
        refine q_val F rfl rfl (by decide) (r_assign F rfl) fun a F => ?_
        refine nil ?_
        refine hK51 _ _ ?_
        refine wp_ret ?_
        refine inbR ?_
        refine thenR ?_
        refine thenR ?_
        refine inbR ?_
        refine thenR ?_
        have hx_ := HD21 _ (Option.some.inj H).symm
        have H := HR25
        rw [← hx_] at H
        replace H : some false = some r := H
        have H := Option.some.inj H
        subst H
        refine out1 F rfl rfl ?_
        exact ⟨fun b_ => (fun x_ => if x_ < m then x_ else 0) (c17 b_), rfl, E.leave B0 (fun x_ => if x_ < m then x_ else 0) (by intro x_ hx_; show (if x_ < m then x_ else 0) = x_; ((repeat' split) <;> omega)), (fun b_ hb_ => by show (if (c17 b_) < m then (c17 b_) else 0) < m; ((repeat' split) <;> omega))⟩
    · have H := (if_neg hb29).symm.trans H
      refine wp_cond_false ((F.ev rfl).trans (congrArg Value.bool (decide_eq_false hb29))) ?_
      refine wp_exit ?_
      refine thenE ?_
      refine thenE ?_
      refine inbE ?_
      have hx_ := HD21 _ (Option.some.inj H).symm
      have H := HR25
      rw [← hx_] at H
      exact J53 c17 w18 a  (F.sub trivial) E B  H
  · have H := (if_neg hb12).symm.trans H
    refine wp_cond_true ((F.ev rfl).trans (congrArg Value.bool (congrArg not (decide_eq_false hb12)))) ?_
    refine wp_seq_k fun K13 hK13 => ?_
    refine reg ?_
    refine q_val F rfl rfl (by decide) (r_assign F rfl) fun a F => ?_
    refine nil ?_
    refine hK13 _ _ ?_
    refine wp_ret ?_
    refine thenR ?_
    have H := Option.some.inj H
    subst H
    refine out1 F rfl rfl ?_
    exact ⟨fun b_ => (fun x_ => if x_ < m then x_ else 0) (c0 b_), rfl, E.leave B0 (fun x_ => if x_ < m then x_ else 0) (by intro x_ hx_; show (if x_ < m then x_ else 0) = x_; ((repeat' split) <;> omega)), (fun b_ hb_ => by show (if (c0 b_) < m then (c0 b_) else 0) < m; ((repeat' split) <;> omega))⟩
end Go.Proofs.Ytohljkjaggcapaa.G
namespace Go.Proofs.Ytohljkjaggcapaa.G
open Go Go.RowKit
set_option linter.unusedVariables false
set_option linter.unusedSimpArgs false
set_option maxRecDepth 100000 in
set_option maxHeartbeats 4000000 in
theorem haulagelaw23_known.calls (k : Nat) {m : Nat} {c0 : Nat → Nat} {w0 : World} (hm0 : 0 < m) (B0 : CB m c0 w0) (r : Bool) (H : haulagelaw23_known.f k = some r) : Calls Try.prog 9 #[] w0 (fun e w_ => ∃ (c_ : Nat → Nat), e = .returned (.bool r) ∧ Ev (fun x => False) c0 w0 c_ w_ ∧ CB m c_ w_) := by
  unfold haulagelaw23_known.f at H
  have B := B0.mono (show m ≤ m + 2 by omega)
  have E : Ev (fun x => False ∨ m ≤ x) c0 w0 c0 w0 := Ev.refl
  refine enter (N := 42) (l := []) Try.func9 rfl rfl (Nat.le_of_ble_eq_true rfl) fun a F => ?_
  refine wp_seq_k fun K1 hK1 => ?_
  refine reg ?_
  refine q_val F rfl rfl (by decide) (r_assign F rfl) fun a F => ?_
  refine nil ?_
  refine hK1 _ _ ?_
  refine wp_seq_k fun K2 hK2 => ?_
  refine reg ?_
  obtain ⟨t3, q4, H⟩ := bind_some H
  refine q_call F rfl rfl (by decide) (r_call F Try.func10 rfl (by kernel_rfl) rfl) (route_New.calls (m := m + 2) (by omega) B (m + 1) (by omega) _ q4) ?_
  rintro e w6 ⟨c5, p9, rfl, E7, B8, h10⟩
  refine ⟨_, rfl, fun a F => ?_⟩
  have B := B8
  have E := E.trans E7 (fun x q => q.elim)
  refine q_val F rfl rfl (by decide) (r_move F rfl) fun a F => ?_
  refine q_val F rfl rfl (by decide) (r_extract F rfl rfl) fun a F => ?_
  refine q_val F rfl rfl (by decide) (r_extract F rfl rfl) fun a F => ?_
  refine q_val F rfl rfl (by decide) (r_assign F rfl) fun a F => ?_
  refine q_val F rfl rfl (by decide) (r_assign F rfl) fun a F => ?_
  refine nil ?_
  refine hK2 _ _ ?_
  refine wp_seq_k fun K12 hK12 => ?_
  refine wp_seq_k fun K13 hK13 => ?_
  have J23 : ∀ (c24 : Nat → Nat) (w25 : World) (a : Act) (b22 : Bool), Fr a 42 [(1, .pointer p9), (16, .bool b22)] → Ev (fun x => False ∨ m ≤ x) c0 w0 c24 w25 → CB (m + 2) c24 w25 → RU (m + 1) c24 w25 p9 t3.1 → haulagelaw23_known.j1 k t3 b22 = some r → K13 a w25 := by
    intro c24 w25 a b22 F E B h10 H
    unfold haulagelaw23_known.j1 at H
    refine hK13 _ _ ?_
    by_cases hb26 : b22 = true
    · have H := (if_pos hb26).symm.trans H
      refine wp_cond_true ((F.ev rfl).trans (congrArg Value.bool hb26)) ?_
      refine wp_seq_k fun K27 hK27 => ?_
      refine reg ?_
      refine q_val F rfl rfl (by decide) (r_assign F rfl) fun a F => ?_
      refine nil ?_
      refine hK27 _ _ ?_
      refine wp_ret ?_
      refine thenR ?_
      have H := Option.some.inj H
      subst H
      refine out1 F rfl rfl ?_
      exact ⟨fun b_ => (fun x_ => if x_ < m then x_ else 0) (c24 b_), rfl, E.leave B0 (fun x_ => if x_ < m then x_ else 0) (by intro x_ hx_; show (if x_ < m then x_ else 0) = x_; ((repeat' split) <;> omega)), (fun b_ hb_ => by show (if (c24 b_) < m then (c24 b_) else 0) < m; ((repeat' split) <;> omega))⟩
    · have H := (if_neg hb26).symm.trans H
      refine wp_cond_false ((F.ev rfl).trans (congrArg Value.bool (bfalse hb26))) ?_
      refine wp_skip ?_
      refine hK12 _ _ ?_
      refine wp_seq_k fun K28 hK28 => ?_
      refine reg ?_
      refine q_val F rfl rfl (by decide) (r_move F rfl) fun a F => ?_
      obtain ⟨t29, q30, H⟩ := bind_some H
      refine q_call F rfl rfl (by decide) (r_call F Try.func12 rfl (by kernel_rfl) rfl) (route_Route_Fine.calls (m := m + 2) (by omega) B h10 (by omega) _ q30) ?_
      rintro e w32 ⟨c31, rfl, E33, B34, h35⟩
      refine ⟨_, rfl, fun a F => ?_⟩
      have B := B34
      have E := E.trans E33 (fun x q => by replace q : x = m + 1 := q; show False ∨ m ≤ x; omega)
      refine q_val F rfl rfl (by decide) (r_assign F rfl) fun a F => ?_
      refine nil ?_
      refine hK28 _ _ ?_
      refine wp_seq_k fun K37 hK37 => ?_
      refine reg ?_
      refine q_val F rfl rfl (by decide) (r_move F rfl) fun a F => ?_
      obtain ⟨t38, q39, H⟩ := bind_some H
      refine q_call F rfl rfl (by decide) (r_call F Try.func13 rfl (by kernel_rfl) rfl) (route_Route_Hint.calls (m := m + 2) (by omega) B h35 (by omega) _ q39) ?_
      rintro e w41 ⟨c40, rfl, E42, B43, h44⟩
      refine ⟨_, rfl, fun a F => ?_⟩
      have B := B43
      have E := E.trans E42 (fun x q => by replace q : x = m + 1 := q; show False ∨ m ≤ x; omega)
      refine q_val F rfl rfl (by decide) (r_assign F rfl) fun a F => ?_
      refine nil ?_
      refine hK37 _ _ ?_
      refine wp_seq_k fun K46 hK46 => ?_
      refine reg ?_
      refine q_val F rfl rfl (by decide) (r_move F rfl) fun a F => ?_
      obtain ⟨t47, q48, H⟩ := bind_some H
      refine q_call F rfl rfl (by decide) (r_call F Try.func13 rfl (by kernel_rfl) rfl) (route_Route_Hint.calls (m := m + 2) (by omega) B h44 (by omega) _ q48) ?_
      rintro e w50 ⟨c49, rfl, E51, B52, h53⟩
      refine ⟨_, rfl, fun a F => ?_⟩
      have B := B52
      have E := E.trans E51 (fun x q => by replace q : x = m + 1 := q; show False ∨ m ≤ x; omega)
      refine q_val F rfl rfl (by decide) (r_assign F rfl) fun a F => ?_
      refine nil ?_
      refine hK46 _ _ ?_
      refine wp_seq_k fun K55 hK55 => ?_
      refine reg ?_
      refine q_val F rfl rfl (by decide) (r_move F rfl) fun a F => ?_
      refine q_val F rfl rfl (by decide) (r_move F rfl) fun a F => ?_
      by_cases hb56 : t29.1 = true
      · have H := (if_pos hb56).symm.trans H
        refine q_yes F rfl (by decide) rfl hb56 ?_
        refine q_val F rfl rfl (by decide) (r_move F rfl) fun a F => ?_
        refine q_yes F rfl (by decide) rfl hb56 ?_
        refine q_val F rfl rfl (by decide) (r_not F rfl) fun a F => ?_
        refine q_val F rfl rfl (by decide) (r_pick_t F rfl hb56 rfl) fun a F => ?_
        refine q_val F rfl rfl (by decide) (r_move F rfl) fun a F => ?_
        by_cases hb57 : t38.1 = true
        · have H := (if_pos hb57).symm.trans H
          refine q_no F rfl (by decide) rfl (congrArg not hb57) (by decide) fun a F => ?_
          refine q_val F rfl rfl (by decide) (r_pick_f F rfl (congrArg not hb57) rfl) fun a F => ?_
          refine q_val F rfl rfl (by decide) (r_move F rfl) fun a F => ?_
          refine q_no F rfl (by decide) rfl rfl (by decide) fun a F => ?_
          refine q_no F rfl (by decide) rfl rfl (by decide) fun a F => ?_
          refine q_no F rfl (by decide) rfl rfl (by decide) fun a F => ?_
          refine q_val F rfl rfl (by decide) (r_pick_f F rfl rfl rfl) fun a F => ?_
          refine q_val F rfl rfl (by decide) (r_move F rfl) fun a F => ?_
          refine q_no F rfl (by decide) rfl rfl (by decide) fun a F => ?_
          refine q_no F rfl (by decide) rfl rfl (by decide) fun a F => ?_
          refine q_no F rfl (by decide) rfl rfl (by decide) fun a F => ?_
          refine q_no F rfl (by decide) rfl rfl (by decide) fun a F => ?_
          refine q_val F rfl rfl (by decide) (r_pick_f F rfl rfl rfl) fun a F => ?_
          refine q_val F rfl rfl (by decide) (r_assign F rfl) fun a F => ?_
          refine nil ?_
          refine hK55 _ _ ?_
          refine wp_ret ?_
          have H := Option.some.inj H
          subst H
          refine out1 F rfl rfl ?_
          exact ⟨fun b_ => (fun x_ => if x_ < m then x_ else 0) (c49 b_), rfl, E.leave B0 (fun x_ => if x_ < m then x_ else 0) (by intro x_ hx_; show (if x_ < m then x_ else 0) = x_; ((repeat' split) <;> omega)), (fun b_ hb_ => by show (if (c49 b_) < m then (c49 b_) else 0) < m; ((repeat' split) <;> omega))⟩
        · have H := (if_neg hb57).symm.trans H
          refine q_yes F rfl (by decide) rfl (congrArg not (bfalse hb57)) ?_
          refine q_val F rfl rfl (by decide) (r_move F rfl) fun a F => ?_
          refine q_val F rfl rfl (by decide) (r_pick_t F rfl (congrArg not (bfalse hb57)) rfl) fun a F => ?_
          refine q_val F rfl rfl (by decide) (r_move F rfl) fun a F => ?_
          by_cases hb58 : t47.1 = true
          · have H := (if_pos hb58).symm.trans H
            refine q_yes F rfl (by decide) rfl hb58 ?_
            refine q_val F rfl rfl (by decide) (r_move F rfl) fun a F => ?_
            obtain ⟨t59, q60, H⟩ := bind_some H
            refine q_yes F rfl (by decide) rfl hb58 ?_
            refine q_call F rfl rfl (by decide) (r_call F Try.func14 rfl (by kernel_rfl) rfl) (route_Route_Where.calls (m := m + 2) (by omega) B h53 (by omega) _ q60) ?_
            rintro e w62 ⟨c61, rfl, E63, B64⟩
            refine ⟨_, rfl, fun a F => ?_⟩
            have B := B64
            have h53 := RU.ev h53 E63 (fun q => q.elim) (fun q => q.elim)
            have E := E.trans E63 (fun x q => q.elim)
            refine q_yes F rfl (by decide) rfl hb58 ?_
            refine q_val F rfl rfl (by decide) (r_eql F rfl rfl) fun a F => ?_
            refine q_val F rfl rfl (by decide) (r_pick_t F rfl hb58 rfl) fun a F => ?_
            refine q_val F rfl rfl (by decide) (r_move F rfl) fun a F => ?_
            by_cases hb66 : t59 = 1
            · have H := (if_pos hb66).symm.trans H
              refine q_yes F rfl (by decide) rfl (decide_eq_true hb66) ?_
              refine q_val F rfl rfl (by decide) (r_move F rfl) fun a F => ?_
              obtain ⟨t67, q68, H⟩ := bind_some H
              refine q_yes F rfl (by decide) rfl (decide_eq_true hb66) ?_
              refine q_call F rfl rfl (by decide) (r_call F Try.func16 rfl (by kernel_rfl) rfl) (route_Route_Trail.calls (m := m + 2) (by omega) B h53 (by omega) 0 (by omega) _ q68) ?_
              rintro e w70 ⟨c69, A73, C74, rfl, E71, B72, h75⟩
              refine ⟨_, rfl, fun a F => ?_⟩
              have B := B72
              have h53 := RU.ev h53 E71 (fun q => q.elim) (fun q => q.elim)
              have E := E.trans E71 (fun x q => q.elim)
              refine q_yes F rfl (by decide) rfl (decide_eq_true hb66) ?_
              refine q_eff F rfl rfl (by decide) (e_buildSlice (n := 1) (e := 3) (c := c69) (k := (Kint .i64)) (i := 0) F [(0, .int .i64 2)] [.int .i64 2] ([2] : List Int) (by exact ⟨rfl, rfl, trivial⟩) (fun w => by kernel_rfl) rfl (by decide) rfl ⟨rfl, trivial⟩ (fun q => q) 0) ?_
              rintro v w78 a ⟨c77, A79, C80, rfl, E81, h82, B83⟩ F
              have B := B83 _ B (by omega)
              have h53 := RU.ev h53 E81 (fun q => q.elim) (fun q => q.elim)
              have h75 := SL.ev h75 E81 (fun q => q.elim) (fun q => q.elim)
              have E := E.trans E81 (fun x q => q.elim)
              obtain ⟨t84, q85, H⟩ := bind_some H
              refine q_yes F rfl (by decide) rfl (decide_eq_true hb66) ?_
              refine q_call F rfl rfl (by decide) (r_call F Try.func15 rfl (by kernel_rfl) rfl) (haulagelaw23_ints.calls k (m := m + 2) (by omega) B h75.r h82.r _ q85) ?_
              rintro e w87 ⟨c86, rfl, E88, B89⟩
              refine ⟨_, rfl, fun a F => ?_⟩
              have B := B89
              have h53 := RU.ev h53 E88 (fun q => q.elim) (fun q => q.elim)
              have h75 := SL.ev h75 E88 (fun q => q.elim) (fun q => q.elim)
              have h82 := SL.ev h82 E88 (fun q => q.elim) (fun q => q.elim)
              have E := E.trans E88 (fun x q => q.elim)
              refine q_val F rfl rfl (by decide) (r_pick_t F rfl (decide_eq_true hb66) rfl) fun a F => ?_
              refine q_val F rfl rfl (by decide) (r_assign F rfl) fun a F => ?_
              refine nil ?_
              refine hK55 _ _ ?_
              refine wp_ret ?_
              have H := Option.some.inj H
              subst H
              refine out1 F rfl rfl ?_
              exact ⟨fun b_ => (fun x_ => if x_ < m then x_ else 0) (c86 b_), rfl, E.leave B0 (fun x_ => if x_ < m then x_ else 0) (by intro x_ hx_; show (if x_ < m then x_ else 0) = x_; ((repeat' split) <;> omega)), (fun b_ hb_ => by show (if (c86 b_) < m then (c86 b_) else 0) < m; ((repeat' split) <;> omega))⟩
            · have H := (if_neg hb66).symm.trans H
              refine q_no F rfl (by decide) rfl (decide_eq_false hb66) (by decide) fun a F => ?_
              refine q_no F rfl (by decide) rfl (decide_eq_false hb66) (by decide) fun a F => ?_
              refine q_no F rfl (by decide) rfl (decide_eq_false hb66) (by decide) fun a F => ?_
              refine q_no F rfl (by decide) rfl (decide_eq_false hb66) (by decide) fun a F => ?_
              refine q_val F rfl rfl (by decide) (r_pick_f F rfl (decide_eq_false hb66) rfl) fun a F => ?_
              refine q_val F rfl rfl (by decide) (r_assign F rfl) fun a F => ?_
              refine nil ?_
              refine hK55 _ _ ?_
              refine wp_ret ?_
              have H := Option.some.inj H
              subst H
              refine out1 F rfl rfl ?_
              exact ⟨fun b_ => (fun x_ => if x_ < m then x_ else 0) (c61 b_), rfl, E.leave B0 (fun x_ => if x_ < m then x_ else 0) (by intro x_ hx_; show (if x_ < m then x_ else 0) = x_; ((repeat' split) <;> omega)), (fun b_ hb_ => by show (if (c61 b_) < m then (c61 b_) else 0) < m; ((repeat' split) <;> omega))⟩
          · have H := (if_neg hb58).symm.trans H
            refine q_no F rfl (by decide) rfl (bfalse hb58) (by decide) fun a F => ?_
            refine q_no F rfl (by decide) rfl (bfalse hb58) (by decide) fun a F => ?_
            refine q_no F rfl (by decide) rfl (bfalse hb58) (by decide) fun a F => ?_
            refine q_val F rfl rfl (by decide) (r_pick_f F rfl (bfalse hb58) rfl) fun a F => ?_
            refine q_val F rfl rfl (by decide) (r_move F rfl) fun a F => ?_
            refine q_no F rfl (by decide) rfl rfl (by decide) fun a F => ?_
            refine q_no F rfl (by decide) rfl rfl (by decide) fun a F => ?_
            refine q_no F rfl (by decide) rfl rfl (by decide) fun a F => ?_
            refine q_no F rfl (by decide) rfl rfl (by decide) fun a F => ?_
            refine q_val F rfl rfl (by decide) (r_pick_f F rfl rfl rfl) fun a F => ?_
            refine q_val F rfl rfl (by decide) (r_assign F rfl) fun a F => ?_
            refine nil ?_
            refine hK55 _ _ ?_
            refine wp_ret ?_
            have H := Option.some.inj H
            subst H
            refine out1 F rfl rfl ?_
            exact ⟨fun b_ => (fun x_ => if x_ < m then x_ else 0) (c49 b_), rfl, E.leave B0 (fun x_ => if x_ < m then x_ else 0) (by intro x_ hx_; show (if x_ < m then x_ else 0) = x_; ((repeat' split) <;> omega)), (fun b_ hb_ => by show (if (c49 b_) < m then (c49 b_) else 0) < m; ((repeat' split) <;> omega))⟩
      · have H := (if_neg hb56).symm.trans H
        refine q_no F rfl (by decide) rfl (bfalse hb56) (by decide) fun a F => ?_
        refine q_no F rfl (by decide) rfl (bfalse hb56) (by decide) fun a F => ?_
        refine q_val F rfl rfl (by decide) (r_pick_f F rfl (bfalse hb56) rfl) fun a F => ?_
        refine q_val F rfl rfl (by decide) (r_move F rfl) fun a F => ?_
        refine q_no F rfl (by decide) rfl rfl (by decide) fun a F => ?_
        refine q_val F rfl rfl (by decide) (r_pick_f F rfl rfl rfl) fun a F => ?_
        refine q_val F rfl rfl (by decide) (r_move F rfl) fun a F => ?_
        refine q_no F rfl (by decide) rfl rfl (by decide) fun a F => ?_
        refine q_no F rfl (by decide) rfl rfl (by decide) fun a F => ?_
        refine q_no F rfl (by decide) rfl rfl (by decide) fun a F => ?_
        refine q_val F rfl rfl (by decide) (r_pick_f F rfl rfl rfl) fun a F => ?_
        refine q_val F rfl rfl (by decide) (r_move F rfl) fun a F => ?_
        refine q_no F rfl (by decide) rfl rfl (by decide) fun a F => ?_
        refine q_no F rfl (by decide) rfl rfl (by decide) fun a F => ?_
        refine q_no F rfl (by decide) rfl rfl (by decide) fun a F => ?_
        refine q_no F rfl (by decide) rfl rfl (by decide) fun a F => ?_
        refine q_val F rfl rfl (by decide) (r_pick_f F rfl rfl rfl) fun a F => ?_
        refine q_val F rfl rfl (by decide) (r_assign F rfl) fun a F => ?_
        refine nil ?_
        refine hK55 _ _ ?_
        refine wp_ret ?_
        have H := Option.some.inj H
        subst H
        refine out1 F rfl rfl ?_
        exact ⟨fun b_ => (fun x_ => if x_ < m then x_ else 0) (c49 b_), rfl, E.leave B0 (fun x_ => if x_ < m then x_ else 0) (by intro x_ hx_; show (if x_ < m then x_ else 0) = x_; ((repeat' split) <;> omega)), (fun b_ hb_ => by show (if (c49 b_) < m then (c49 b_) else 0) < m; ((repeat' split) <;> omega))⟩
  refine reg ?_
  refine q_val F rfl rfl (by decide) (r_move F rfl) fun a F => ?_
  obtain ⟨t14, q15, H⟩ := bind_some H
  refine q_call F rfl rfl (by decide) (r_call F Try.func11 rfl (by kernel_rfl) rfl) (haulagelaw23_num.calls (m := m + 2) (by omega) B _ q15) ?_
  rintro e w17 ⟨c16, rfl, E18, B19⟩
  refine ⟨_, rfl, fun a F => ?_⟩
  have B := B19
  have h10 := RU.ev h10 E18 (fun q => q.elim) (fun q => q.elim)
  have E := E.trans E18 (fun x q => q.elim)
  refine q_val F rfl rfl (by decide) (r_neq F rfl rfl) fun a F => ?_
  refine q_val F rfl rfl (by decide) (r_move F rfl) fun a F => ?_
  by_cases hb21 : t14 = 0
  · have H := (if_pos hb21).symm.trans H
    refine q_yes F rfl (by decide) rfl (congrArg not (decide_eq_true hb21)) ?_
    refine q_val F rfl rfl (by decide) (r_move F rfl) fun a F => ?_
    refine q_yes F rfl (by decide) rfl (congrArg not (decide_eq_true hb21)) ?_
    refine q_val F rfl rfl (by decide) (r_peqlA F Try.underlying24 rfl rfl (RU.isNone h10)) fun a F => ?_
    refine q_val F rfl rfl (by decide) (r_pick_f F rfl (congrArg not (decide_eq_true hb21)) rfl) fun a F => ?_
    refine nil ?_
    exact J23 c16 w17 a (Option.isNone t3.1) (F.sub ⟨rfl, rfl, trivial⟩) E B h10 H
  · have H := (if_neg hb21).symm.trans H
    refine q_no F rfl (by decide) rfl (congrArg not (decide_eq_false hb21)) (by decide) fun a F => ?_
    refine q_no F rfl (by decide) rfl (congrArg not (decide_eq_false hb21)) (by decide) fun a F => ?_
    refine q_val F rfl rfl (by decide) (r_pick_t F rfl (congrArg not (decide_eq_false hb21)) rfl) fun a F => ?_
    refine nil ?_
    exact J23 c16 w17 a true (F.sub ⟨rfl, rfl, trivial⟩) E B h10 H
end Go.Proofs.Ytohljkjaggcapaa.G
namespace Go.Proofs.Ytohljkjaggcapaa.G
open Go Go.RowKit
set_option linter.unusedVariables false
set_option linter.unusedSimpArgs false
set_option maxRecDepth 100000 in
set_option maxHeartbeats 4000000 in
theorem haulagelaw23_RouteBooks.calls (k : Nat) {m : Nat} {c0 : Nat → Nat} {w0 : World} {A4 : Option Addr} {C5 : Nat} {A8 : Option Addr} {C9 : Nat} {a1 : Int} {a2 : Int} {a3 : List haulagelaw23_Op} {a7 : List (List Int)} {a11 : Int} (hm0 : 0 < m) (B0 : CB m c0 w0) (h6 : SL false K_haulagelaw23_Op 0 0 c0 w0 A4 C5 a3) (h10 : SL false (Kslice (Kint .u8)) 0 0 c0 w0 A8 C9 a7) (r : Bool) (H : haulagelaw23_RouteBooks.f k a1 a2 a3 a7 a11 = some r) : Calls Try.prog 8 #[.int .i64 a1, .int .i64 a2, .slice A4 a3.length C5, .slice A8 a7.length C9, .int .i64 a11] w0 (fun e w_ => ∃ (c_ : Nat → Nat), e = .returned (.bool r) ∧ Ev (fun x => False) c0 w0 c_ w_ ∧ CB m c_ w_) := by
  unfold haulagelaw23_RouteBooks.f at H
  have B := B0.mono (show m ≤ m + 3 by omega)
  have E : Ev (fun x => False ∨ m ≤ x) c0 w0 c0 w0 := Ev.refl
  refine enter (N := 226) (l := [.int .i64 a1, .int .i64 a2, .slice A4 a3.length C5, .slice A8 a7.length C9, .int .i64 a11]) Try.func8 rfl rfl (Nat.le_of_ble_eq_true rfl) fun a F => ?_
  refine wp_seq_k fun K12 hK12 => ?_
  refine reg ?_
  refine q_val F rfl rfl (by decide) (r_assign F rfl) fun a F => ?_
  refine nil ?_
  refine hK12 _ _ ?_
  refine wp_seq_k fun K13 hK13 => ?_
  refine wp_seq_k fun K14 hK14 => ?_
  refine reg ?_
  obtain ⟨t15, q16, H⟩ := bind_some H
  refine q_call F rfl rfl (by decide) (r_call F Try.func9 rfl (by kernel_rfl) rfl) (haulagelaw23_known.calls k (m := m + 3) (by omega) B _ q16) ?_
  rintro e w18 ⟨c17, rfl, E19, B20⟩
  refine ⟨_, rfl, fun a F => ?_⟩
  have B := B20
  have h6 := SL.ev h6 E19 (fun q => q.elim) (fun q => q.elim)
  have h10 := SL.ev h10 E19 (fun q => q.elim) (fun q => q.elim)
  have E := E.trans E19 (fun x q => q.elim)
  refine q_val F rfl rfl (by decide) (r_not F rfl) fun a F => ?_
  refine nil ?_
  refine hK14 _ _ ?_
  by_cases hb22 : t15 = true
  · have H := (if_pos hb22).symm.trans H
    refine wp_cond_false ((F.ev rfl).trans (congrArg Value.bool (congrArg not hb22))) ?_
    refine wp_skip ?_
    refine hK13 _ _ ?_
    refine wp_seq_k fun K24 hK24 => ?_
    refine reg ?_
    refine q_val F rfl rfl (by decide) (r_move F rfl) fun a F => ?_
    refine q_val F rfl rfl (by decide) (r_move F rfl) fun a F => ?_
    obtain ⟨t25, q26, H⟩ := bind_some H
    refine q_call F rfl rfl (by decide) (r_call F Try.func10 rfl (by kernel_rfl) rfl) (route_New.calls (m := m + 3) (by omega) B (m + 1) (by omega) _ q26) ?_
    rintro e w28 ⟨c27, p31, rfl, E29, B30, h32⟩
    refine ⟨_, rfl, fun a F => ?_⟩
    have B := B30
    have h6 := SL.ev h6 E29 (fun q => q.elim) (fun q => q.elim)
    have h10 := SL.ev h10 E29 (fun q => q.elim) (fun q => q.elim)
    have E := E.trans E29 (fun x q => q.elim)
    refine q_val F rfl rfl (by decide) (r_move F rfl) fun a F => ?_
    refine q_val F rfl rfl (by decide) (r_extract F rfl rfl) fun a F => ?_
    refine q_val F rfl rfl (by decide) (r_extract F rfl rfl) fun a F => ?_
    refine q_val F rfl rfl (by decide) (r_assign F rfl) fun a F => ?_
    refine q_val F rfl rfl (by decide) (r_assign F rfl) fun a F => ?_
    refine nil ?_
    refine hK24 _ _ ?_
    refine wp_seq_k fun K34 hK34 => ?_
    refine wp_seq_k fun K35 hK35 => ?_
    refine reg ?_
    refine q_val F rfl rfl (by decide) (r_move F rfl) fun a F => ?_
    obtain ⟨t36, q37, H⟩ := bind_some H
    refine q_call F rfl rfl (by decide) (r_call F Try.func11 rfl (by kernel_rfl) rfl) (haulagelaw23_num.calls (m := m + 3) (by omega) B _ q37) ?_
    rintro e w39 ⟨c38, rfl, E40, B41⟩
    refine ⟨_, rfl, fun a F => ?_⟩
    have B := B41
    have h6 := SL.ev h6 E40 (fun q => q.elim) (fun q => q.elim)
    have h10 := SL.ev h10 E40 (fun q => q.elim) (fun q => q.elim)
    have h32 := RU.ev h32 E40 (fun q => q.elim) (fun q => q.elim)
    have E := E.trans E40 (fun x q => q.elim)
    refine q_val F rfl rfl (by decide) (r_neq F rfl rfl) fun a F => ?_
    refine nil ?_
    refine hK35 _ _ ?_
    by_cases hb43 : t36 = 0
    · have H := (if_pos hb43).symm.trans H
      refine wp_cond_false ((F.ev rfl).trans (congrArg Value.bool (congrArg not (decide_eq_true hb43)))) ?_
      refine wp_skip ?_
      refine hK34 _ _ ?_
      refine wp_seq_k fun K45 hK45 => ?_
      refine reg ?_
      refine q_val F rfl rfl (by decide) (r_move F rfl) fun a F => ?_
      refine q_val F rfl rfl (by decide) (r_move F rfl) fun a F => ?_
      obtain ⟨t46, q47, H⟩ := bind_some H
      refine q_call F rfl rfl (by decide) (r_call F Try.func14 rfl (by kernel_rfl) rfl) (route_Route_Where.calls (m := m + 3) (by omega) B h32 (by omega) _ q47) ?_
      rintro e w49 ⟨c48, rfl, E50, B51⟩
      refine ⟨_, rfl, fun a F => ?_⟩
      have B := B51
      have h6 := SL.ev h6 E50 (fun q => q.elim) (fun q => q.elim)
      have h10 := SL.ev h10 E50 (fun q => q.elim) (fun q => q.elim)
      have h32 := RU.ev h32 E50 (fun q => q.elim) (fun q => q.elim)
      have E := E.trans E50 (fun x q => q.elim)
      refine q_val F rfl rfl (by decide) (r_assign F rfl) fun a F => ?_
      refine nil ?_
      refine hK45 _ _ ?_
      refine wp_seq_k fun K53 hK53 => ?_
      refine reg ?_
      refine q_val F rfl rfl (by decide) (r_assign F rfl) fun a F => ?_
      refine nil ?_
      refine hK53 _ _ ?_
      refine wp_seq_k fun K54 hK54 => ?_
      refine reg ?_
      refine q_val F rfl rfl (by decide) (r_assign F rfl) fun a F => ?_
      refine nil ?_
      refine hK54 _ _ ?_
      refine wp_seq_k fun K55 hK55 => ?_
      refine wp_seq_k fun K56 hK56 => ?_
      refine reg ?_
      refine q_val F rfl rfl (by decide) (r_assign F rfl) fun a F => ?_
      refine nil ?_
      refine hK56 _ _ ?_
      refine wp_block ?_
      obtain ⟨x198, HL, HR197⟩ := bind_some H
      have J309 : ∀ (c310 : Nat → Nat) (w311 : World) (a : Act) (o306 : Option Rou) (b307 : Bool) (i308 : Int), Fr a 226 [(0, .int .i64 a1), (1, .int .i64 a2), (3, .slice A8 a7.length C9), (4, .int .i64 a11), (11, .pointer p31), (13, .int .i64 t46), (14, .bool b307), (15, .int .i64 i308)] → Ev (fun x => False ∨ m ≤ x) c0 w0 c310 w311 → CB (m + 3) c310 w311 → SL false (Kslice (Kint .u8)) 0 0 c310 w311 A8 C9 a7 → RU (m + 1) c310 w311 p31 o306 → haulagelaw23_RouteBooks.j10 k a1 a2 a7 a11 t46 o306 b307 i308 = some r → K55 a w311 := by
        intro c310 w311 a o306 b307 i308 F E B h10 h305 H
        unfold haulagelaw23_RouteBooks.j10 at H
        refine hK55 _ _ ?_
        refine wp_seq_k fun K312 hK312 => ?_
        refine reg ?_
        refine q_val F rfl rfl (by decide) (r_move F rfl) fun a F => ?_
        obtain ⟨t313, q314, H⟩ := bind_some H
        refine q_call F rfl rfl (by decide) (r_call F Try.func22 rfl (by kernel_rfl) rfl) (route_Route_Counts.calls (m := m + 3) (by omega) B h305 (by omega) _ q314) ?_
        rintro e w316 ⟨c315, rfl, E317, B318⟩
        refine ⟨_, rfl, fun a F => ?_⟩
        have B := B318
        have h10 := SL.ev h10 E317 (fun q => q.elim) (fun q => q.elim)
        have h305 := RU.ev h305 E317 (fun q => q.elim) (fun q => q.elim)
        have E := E.trans E317 (fun x q => q.elim)
        refine q_val F rfl rfl (by decide) (r_move F rfl) fun a F => ?_
        refine q_val F rfl rfl (by decide) (r_extract F rfl rfl) fun a F => ?_
        refine q_val F rfl rfl (by decide) (r_extract F rfl rfl) fun a F => ?_
        refine q_val F rfl rfl (by decide) (r_extract F rfl rfl) fun a F => ?_
        refine q_val F rfl rfl (by decide) (r_assign F rfl) fun a F => ?_
        refine q_val F rfl rfl (by decide) (r_assign F rfl) fun a F => ?_
        refine q_val F rfl rfl (by decide) (r_assign F rfl) fun a F => ?_
        refine nil ?_
        refine hK312 _ _ ?_
        refine wp_seq_k fun K320 hK320 => ?_
        refine wp_seq_k fun K321 hK321 => ?_
        have J332 : ∀ (c333 : Nat → Nat) (w334 : World) (a : Act) (b331 : Bool), Fr a 226 [(0, .int .i64 a1), (1, .int .i64 a2), (3, .slice A8 a7.length C9), (11, .pointer p31), (163, .bool b331)] → Ev (fun x => False ∨ m ≤ x) c0 w0 c333 w334 → CB (m + 3) c333 w334 → SL false (Kslice (Kint .u8)) 0 0 c333 w334 A8 C9 a7 → RU (m + 1) c333 w334 p31 o306 → haulagelaw23_RouteBooks.j11 k a1 a2 a7 o306 b331 = some r → K321 a w334 := by
          intro c333 w334 a b331 F E B h10 h305 H
          unfold haulagelaw23_RouteBooks.j11 at H
          refine hK321 _ _ ?_
          by_cases hb335 : b331 = true
          · have H := (if_pos hb335).symm.trans H
            refine wp_cond_true ((F.ev rfl).trans (congrArg Value.bool hb335)) ?_
            refine wp_seq_k fun K336 hK336 => ?_
            refine reg ?_
            refine q_val F rfl rfl (by decide) (r_assign F rfl) fun a F => ?_
            refine nil ?_
            refine hK336 _ _ ?_
            refine wp_ret ?_
            refine thenR ?_
            have H := Option.some.inj H
            subst H
            refine out1 F rfl rfl ?_
            exact ⟨fun b_ => (fun x_ => if x_ < m then x_ else 0) (c333 b_), rfl, E.leave B0 (fun x_ => if x_ < m then x_ else 0) (by intro x_ hx_; show (if x_ < m then x_ else 0) = x_; ((repeat' split) <;> omega)), (fun b_ hb_ => by show (if (c333 b_) < m then (c333 b_) else 0) < m; ((repeat' split) <;> omega))⟩
          · have H := (if_neg hb335).symm.trans H
            refine wp_cond_false ((F.ev rfl).trans (congrArg Value.bool (bfalse hb335))) ?_
            refine wp_skip ?_
            refine hK320 _ _ ?_
            refine wp_seq_k fun K337 hK337 => ?_
            refine reg ?_
            refine q_val F rfl rfl (by decide) (r_assign F rfl) fun a F => ?_
            refine nil ?_
            refine hK337 _ _ ?_
            refine wp_seq_k fun K338 hK338 => ?_
            refine wp_seq_k fun K339 hK339 => ?_
            refine reg ?_
            refine q_val F rfl rfl (by decide) (r_assign F rfl) fun a F => ?_
            refine nil ?_
            refine hK339 _ _ ?_
            refine wp_block ?_
            obtain ⟨x351, HL, HR350⟩ := bind_some H
            have J436 : ∀ (c437 : Nat → Nat) (w438 : World) (a : Act) (i435 : Int), Fr a 226 [(1, .int .i64 a2), (3, .slice A8 a7.length C9), (11, .pointer p31), (23, .int .i64 i435)] → Ev (fun x => False ∨ m ≤ x) c0 w0 c437 w438 → CB (m + 3) c437 w438 → SL false (Kslice (Kint .u8)) 0 0 c437 w438 A8 C9 a7 → RU (m + 1) c437 w438 p31 o306 → haulagelaw23_RouteBooks.j16 k a2 a7 o306 i435 = some r → K338 a w438 := by
              intro c437 w438 a i435 F E B h10 h305 H
              unfold haulagelaw23_RouteBooks.j16 at H
              refine hK338 _ _ ?_
              refine wp_seq_k fun K439 hK439 => ?_
              refine wp_seq_k fun K440 hK440 => ?_
              refine reg ?_
              refine q_val F rfl rfl (by decide) (r_assign F rfl) fun a F => ?_
              refine nil ?_
              refine hK440 _ _ ?_
              refine wp_block ?_
              obtain ⟨x451, HL, HR450⟩ := bind_some H
              have J484 : ∀ (c485 : Nat → Nat) (w486 : World) (a : Act), Fr a 226 [(1, .int .i64 a2), (23, .int .i64 i435)] → Ev (fun x => False ∨ m ≤ x) c0 w0 c485 w486 → CB (m + 3) c485 w486 → haulagelaw23_RouteBooks.j19 a2 i435 = some r → K439 a w486 := by
                intro c485 w486 a  F E B  H
                unfold haulagelaw23_RouteBooks.j19 at H
                refine hK439 _ _ ?_
                refine wp_seq_k fun K487 hK487 => ?_
                refine reg ?_
                refine q_val F rfl rfl (by decide) (r_move F rfl) fun a F => ?_
                refine q_val F rfl rfl (by decide) (r_move F rfl) fun a F => ?_
                refine q_val F rfl rfl (by decide) (r_eql F rfl rfl) fun a F => ?_
                refine q_val F rfl rfl (by decide) (r_assign F rfl) fun a F => ?_
                refine nil ?_
                refine hK487 _ _ ?_
                refine wp_ret ?_
                have H := Option.some.inj H
                subst H
                refine out1 F rfl rfl ?_
                exact ⟨fun b_ => (fun x_ => if x_ < m then x_ else 0) (c485 b_), rfl, E.leave B0 (fun x_ => if x_ < m then x_ else 0) (by intro x_ hx_; show (if x_ < m then x_ else 0) = x_; ((repeat' split) <;> omega)), (fun b_ hb_ => by show (if (c485 b_) < m then (c485 b_) else 0) < m; ((repeat' split) <;> omega))⟩
              refine loop_fuel (I := fun n a w => ∃ (i441 : Int) (c : Nat → Nat), Fr a 226 [(1, .int .i64 a2), (3, .slice A8 a7.length C9), (11, .pointer p31), (23, .int .i64 i435), (27, .int .i64 i441)] ∧ Ev (fun x => False ∨ m ≤ x) c0 w0 c w ∧ CB (m + 3) c w ∧ SL false (Kslice (Kint .u8)) 0 0 c w A8 C9 a7 ∧ RU (m + 1) c w p31 o306 ∧ loop (fun (s_ : Int) => haulagelaw23_RouteBooks.b18 a2 a7 o306 s_) n i441 = some x451) (k := k) ⟨0, c437, F.sub ⟨rfl, rfl, rfl, rfl, rfl, trivial⟩, E, B, h10, h305, HL⟩ ?_
              clear HL H E F B
              intro n448 X444 hX444 a w443 ⟨i441, c442, F, E, B, h10, h305, HL⟩
              obtain ⟨n449, ctl447, rfl, HB, HN445, HD446⟩ := loop_some HL
              have H : haulagelaw23_RouteBooks.b18 a2 a7 o306 i441 = some ctl447 := HB
              clear HB HL
              unfold haulagelaw23_RouteBooks.b18 at H
              refine wp_seq_k fun K452 hK452 => ?_
              refine wp_seq_k fun K453 hK453 => ?_
              refine reg ?_
              refine q_val F rfl rfl (by decide) (r_move F rfl) fun a F => ?_
              refine q_val F rfl rfl (by decide) (r_move F rfl) fun a F => ?_
              refine q_val F rfl rfl (by decide) (r_lensl F Try.underlying34 rfl) fun a F => ?_
              refine q_val F rfl rfl (by decide) (r_lss F rfl rfl) fun a F => ?_
              refine nil ?_
              refine hK453 _ _ ?_
              by_cases hb454 : i441 < (a7.length : Int)
              · have H := (if_pos hb454).symm.trans H
                refine wp_cond_true ((F.ev rfl).trans (congrArg Value.bool (decide_eq_true hb454))) ?_
                refine wp_skip ?_
                refine hK452 _ _ ?_
                refine wp_seq_k fun K455 hK455 => ?_
                refine wp_block ?_
                refine wp_seq_k fun K456 hK456 => ?_
                refine reg ?_
                refine q_val F rfl rfl (by decide) (r_move F rfl) fun a F => ?_
                refine q_val F rfl rfl (by decide) (r_move F rfl) fun a F => ?_
                refine q_val F rfl rfl (by decide) (r_move F rfl) fun a F => ?_
                obtain ⟨g457, H⟩ := ifN H
                obtain ⟨ad458, cs459, e460, h461, r462⟩ := SL.at h10 i441 g457.1 g457.2
                obtain ⟨A463, C464, rfl, h465⟩ := r462
                have h465 := SL.fl (i' := 0) h465 (fun q => q)
                obtain ⟨qa466, qqa466⟩ : ∃ q, q = (ad458.add (i441.toNat * 1)) := ⟨_, rfl⟩
                have h461 : AT false 0 c442 w443 qa466 [.slice A463 (rd a7 i441).length C464] := by rw [qqa466]; exact h461
                refine q_val F rfl rfl (by decide) (r_indexAddr' F Try.underlying34 sz_36 rfl rfl g457.1 g457.2 e460 qqa466) fun a F => ?_
                refine q_val F rfl rfl (by decide) (r_load F rfl ag_36 (AT.cell0 h461 rfl)) fun a F => ?_
                obtain ⟨t468, q469, H⟩ := bind_some H
                refine q_call F rfl rfl (by decide) (r_call F Try.func17 rfl (by kernel_rfl) rfl) (route_Route_Shard.calls (m := m + 3) (by omega) B h305 h465 (by omega) (by omega) _ q469) ?_
                rintro e w471 ⟨c470, rfl, E472, B473⟩
                refine ⟨_, rfl, fun a F => ?_⟩
                have B := B473
                have h10 := SL.ev h10 E472 (fun q => q.elim) (fun q => q.elim)
                have h305 := RU.ev h305 E472 (fun q => q.elim) (fun q => q.elim)
                have h465 := SL.ev h465 E472 (fun q => q.elim) (fun q => q.elim)
                have h461 := AT.ev h461 E472 (fun q => q.elim)
                have E := E.trans E472 (fun x q => q.elim)
                refine q_val F rfl rfl (by decide) (r_assign F rfl) fun a F => ?_
                refine nil ?_
                refine hK456 _ _ ?_
                refine wp_seq_k fun K475 hK475 => ?_
                have J478 : ∀ (c479 : Nat → Nat) (w480 : World) (a : Act) (b477 : Bool), Fr a 226 [(1, .int .i64 a2), (3, .slice A8 a7.length C9), (11, .pointer p31), (23, .int .i64 i435), (27, .int .i64 i441), (222, .bool b477)] → Ev (fun x => False ∨ m ≤ x) c0 w0 c479 w480 → CB (m + 3) c479 w480 → SL false (Kslice (Kint .u8)) 0 0 c479 w480 A8 C9 a7 → RU (m + 1) c479 w480 p31 o306 → haulagelaw23_RouteBooks.j17 i441 b477 = some ctl447 → K475 a w480 := by
                  intro c479 w480 a b477 F E B h10 h305 H
                  unfold haulagelaw23_RouteBooks.j17 at H
                  refine hK475 _ _ ?_
                  by_cases hb481 : b477 = true
                  · have H := (if_pos hb481).symm.trans H
                    refine wp_cond_true ((F.ev rfl).trans (congrArg Value.bool hb481)) ?_
                    refine wp_seq_k fun K482 hK482 => ?_
                    refine reg ?_
                    refine q_val F rfl rfl (by decide) (r_assign F rfl) fun a F => ?_
                    refine nil ?_
                    refine hK482 _ _ ?_
                    refine wp_ret ?_
                    refine inbR ?_
                    refine thenR ?_
                    refine thenR ?_
                    refine inbR ?_
                    refine thenR ?_
                    have hx_ := HD446 _ (Option.some.inj H).symm
                    have H := HR450
                    rw [← hx_] at H
                    replace H : some false = some r := H
                    have H := Option.some.inj H
                    subst H
                    refine out1 F rfl rfl ?_
                    exact ⟨fun b_ => (fun x_ => if x_ < m then x_ else 0) (c479 b_), rfl, E.leave B0 (fun x_ => if x_ < m then x_ else 0) (by intro x_ hx_; show (if x_ < m then x_ else 0) = x_; ((repeat' split) <;> omega)), (fun b_ hb_ => by show (if (c479 b_) < m then (c479 b_) else 0) < m; ((repeat' split) <;> omega))⟩
                  · have H := (if_neg hb481).symm.trans H
                    refine wp_cond_false ((F.ev rfl).trans (congrArg Value.bool (bfalse hb481))) ?_
                    refine wp_skip ?_
                    refine hK455 _ _ ?_
                    refine reg ?_
                    refine q_val F rfl rfl (by decide) (r_move F rfl) fun a F => ?_
                    refine q_val F rfl rfl (by decide) (r_add F rfl rfl) fun a F => ?_
                    refine q_val F rfl rfl (by decide) (r_assign F rfl) fun a F => ?_
                    refine nil ?_
                    have H := HN445 _ (Option.some.inj H).symm
                    exact hX444 _ _ _ (Nat.lt_succ_self _) ⟨(IntKind.i64.wrap (i441 + 1)), c479, F.sub ⟨rfl, rfl, rfl, rfl, rfl, trivial⟩, E, B, h10, h305, H⟩
                refine reg ?_
                refine q_val F rfl rfl (by decide) (r_move F rfl) fun a F => ?_
                refine q_val F rfl rfl (by decide) (r_lss F rfl rfl) fun a F => ?_
                refine q_val F rfl rfl (by decide) (r_move F rfl) fun a F => ?_
                by_cases hb476 : t468 < 0
                · have H := (if_pos hb476).symm.trans H
                  refine q_no F rfl (by decide) rfl (decide_eq_true hb476) (by decide) fun a F => ?_
                  refine q_no F rfl (by decide) rfl (decide_eq_true hb476) (by decide) fun a F => ?_
                  refine q_no F rfl (by decide) rfl (decide_eq_true hb476) (by decide) fun a F => ?_
                  refine q_val F rfl rfl (by decide) (r_pick_t F rfl (decide_eq_true hb476) rfl) fun a F => ?_
                  refine nil ?_
                  exact J478 c470 w471 a true (F.sub ⟨rfl, rfl, rfl, rfl, rfl, rfl, trivial⟩) E B h10 h305 H
                · have H := (if_neg hb476).symm.trans H
                  refine q_yes F rfl (by decide) rfl (decide_eq_false hb476) ?_
                  refine q_val F rfl rfl (by decide) (r_move F rfl) fun a F => ?_
                  refine q_yes F rfl (by decide) rfl (decide_eq_false hb476) ?_
                  refine q_val F rfl rfl (by decide) (r_move F rfl) fun a F => ?_
                  refine q_yes F rfl (by decide) rfl (decide_eq_false hb476) ?_
                  refine q_val F rfl rfl (by decide) (r_geq F rfl rfl) fun a F => ?_
                  refine q_val F rfl rfl (by decide) (r_pick_f F rfl (decide_eq_false hb476) rfl) fun a F => ?_
                  refine nil ?_
                  exact J478 c470 w471 a (decide (a2 ≤ t468)) (F.sub ⟨rfl, rfl, rfl, rfl, rfl, rfl, trivial⟩) E B h10 h305 H
              · have H := (if_neg hb454).symm.trans H
                refine wp_cond_false ((F.ev rfl).trans (congrArg Value.bool (decide_eq_false hb454))) ?_
                refine wp_exit ?_
                refine thenE ?_
                refine thenE ?_
                refine inbE ?_
                have hx_ := HD446 _ (Option.some.inj H).symm
                have H := HR450
                rw [← hx_] at H
                exact J484 c442 w443 a  (F.sub ⟨rfl, rfl, trivial⟩) E B  H
            refine loop_fuel (I := fun n a w => ∃ (i340 : Int) (i341 : Int) (c : Nat → Nat), Fr a 226 [(0, .int .i64 a1), (1, .int .i64 a2), (3, .slice A8 a7.length C9), (11, .pointer p31), (23, .int .i64 i340), (24, .int .i64 i341)] ∧ Ev (fun x => False ∨ m ≤ x) c0 w0 c w ∧ CB (m + 3) c w ∧ SL false (Kslice (Kint .u8)) 0 0 c w A8 C9 a7 ∧ RU (m + 1) c w p31 o306 ∧ loop (fun (s_ : Int × Int) => haulagelaw23_RouteBooks.b15 k a1 o306 s_.1 s_.2) n (i340, i341) = some x351) (k := k) ⟨0, (-1), c333, F.sub ⟨rfl, rfl, rfl, rfl, rfl, rfl, trivial⟩, E, B, h10, h305, HL⟩ ?_
            clear HL H E F B
            intro n348 X344 hX344 a w343 ⟨i340, i341, c342, F, E, B, h10, h305, HL⟩
            obtain ⟨n349, ctl347, rfl, HB, HN345, HD346⟩ := loop_some HL
            have H : haulagelaw23_RouteBooks.b15 k a1 o306 i340 i341 = some ctl347 := HB
            clear HB HL
            unfold haulagelaw23_RouteBooks.b15 at H
            refine wp_seq_k fun K352 hK352 => ?_
            refine wp_seq_k fun K353 hK353 => ?_
            refine reg ?_
            refine q_val F rfl rfl (by decide) (r_move F rfl) fun a F => ?_
            refine q_val F rfl rfl (by decide) (r_move F rfl) fun a F => ?_
            refine q_val F rfl rfl (by decide) (r_leq F rfl rfl) fun a F => ?_
            refine nil ?_
            refine hK353 _ _ ?_
            by_cases hb354 : i341 ≤ a1
            · have H := (if_pos hb354).symm.trans H
              refine wp_cond_true ((F.ev rfl).trans (congrArg Value.bool (decide_eq_true hb354))) ?_
              refine wp_skip ?_
              refine hK352 _ _ ?_
              refine wp_seq_k fun K355 hK355 => ?_
              refine wp_block ?_
              refine wp_seq_k fun K356 hK356 => ?_
              refine reg ?_
              refine q_val F rfl rfl (by decide) (r_move F rfl) fun a F => ?_
              refine q_val F rfl rfl (by decide) (r_move F rfl) fun a F => ?_
              obtain ⟨t357, q358, H⟩ := bind_some H
              refine q_call F rfl rfl (by decide) (r_call F Try.func18 rfl (by kernel_rfl) rfl) (route_Route_At.calls (m := m + 3) (by omega) B h305 (by omega) 0 (by omega) _ q358) ?_
              rintro e w360 ⟨c359, A363, C364, rfl, E361, B362, h365⟩
              refine ⟨_, rfl, fun a F => ?_⟩
              have B := B362
              have h10 := SL.ev h10 E361 (fun q => q.elim) (fun q => q.elim)
              have h305 := RU.ev h305 E361 (fun q => q.elim) (fun q => q.elim)
              have E := E.trans E361 (fun x q => q.elim)
              refine q_val F rfl rfl (by decide) (r_assign F rfl) fun a F => ?_
              refine nil ?_
              refine hK356 _ _ ?_
              refine wp_seq_k fun K367 hK367 => ?_
              refine reg ?_
              refine q_val F rfl rfl (by decide) (r_assign F rfl) fun a F => ?_
              refine nil ?_
              refine hK367 _ _ ?_
              refine wp_block ?_
              obtain ⟨x379, HL, HR378⟩ := bind_some H
              have J430 : ∀ (c431 : Nat → Nat) (w432 : World) (a : Act) (i429 : Int), Fr a 226 [(0, .int .i64 a1), (1, .int .i64 a2), (3, .slice A8 a7.length C9), (11, .pointer p31), (23, .int .i64 i429), (24, .int .i64 i341)] → Ev (fun x => False ∨ m ≤ x) c0 w0 c431 w432 → CB (m + 3) c431 w432 → SL false (Kslice (Kint .u8)) 0 0 c431 w432 A8 C9 a7 → RU (m + 1) c431 w432 p31 o306 → haulagelaw23_RouteBooks.j14 i341 i429 = some ctl347 → K355 a w432 := by
                intro c431 w432 a i429 F E B h10 h305 H
                unfold haulagelaw23_RouteBooks.j14 at H
                refine hK355 _ _ ?_
                refine reg ?_
                refine q_val F rfl rfl (by decide) (r_move F rfl) fun a F => ?_
                refine q_val F rfl rfl (by decide) (r_add F rfl rfl) fun a F => ?_
                refine q_val F rfl rfl (by decide) (r_assign F rfl) fun a F => ?_
                refine nil ?_
                have H := HN345 _ (Option.some.inj H).symm
                exact hX344 _ _ _ (Nat.lt_succ_self _) ⟨i429, (IntKind.i64.wrap (i341 + 1)), c431, F.sub ⟨rfl, rfl, rfl, rfl, rfl, rfl, trivial⟩, E, B, h10, h305, H⟩
              refine loop_fuel (I := fun n a w => ∃ (i368 : Int) (i369 : Int) (c : Nat → Nat), Fr a 226 [(0, .int .i64 a1), (1, .int .i64 a2), (3, .slice A8 a7.length C9), (11, .pointer p31), (23, .int .i64 i368), (24, .int .i64 i341), (25, .slice A363 t357.length C364), (26, .int .i64 i369)] ∧ Ev (fun x => False ∨ m ≤ x) c0 w0 c w ∧ CB (m + 3) c w ∧ SL false (Kslice (Kint .u8)) 0 0 c w A8 C9 a7 ∧ RU (m + 1) c w p31 o306 ∧ SL true (Kint .i64) 0 0 c w A363 C364 t357 ∧ loop (fun (s_ : Int × Int) => haulagelaw23_RouteBooks.b13 o306 i341 t357 s_.1 s_.2) n (i368, i369) = some x379) (k := k) ⟨i340, 0, c359, F.sub ⟨rfl, rfl, rfl, rfl, rfl, rfl, rfl, rfl, trivial⟩, E, B, h10, h305, h365, HL⟩ ?_
              clear HL H E F B
              intro n376 X372 hX372 a w371 ⟨i368, i369, c370, F, E, B, h10, h305, h365, HL⟩
              obtain ⟨n377, ctl375, rfl, HB, HN373, HD374⟩ := loop_some HL
              have H : haulagelaw23_RouteBooks.b13 o306 i341 t357 i368 i369 = some ctl375 := HB
              clear HB HL
              unfold haulagelaw23_RouteBooks.b13 at H
              refine wp_seq_k fun K380 hK380 => ?_
              refine wp_seq_k fun K381 hK381 => ?_
              refine reg ?_
              refine q_val F rfl rfl (by decide) (r_move F rfl) fun a F => ?_
              refine q_val F rfl rfl (by decide) (r_move F rfl) fun a F => ?_
              refine q_val F rfl rfl (by decide) (r_lensl F Try.underlying22 rfl) fun a F => ?_
              refine q_val F rfl rfl (by decide) (r_lss F rfl rfl) fun a F => ?_
              refine nil ?_
              refine hK381 _ _ ?_
              by_cases hb382 : i369 < (t357.length : Int)
              · have H := (if_pos hb382).symm.trans H
                refine wp_cond_true ((F.ev rfl).trans (congrArg Value.bool (decide_eq_true hb382))) ?_
                refine wp_skip ?_
                refine hK380 _ _ ?_
                refine wp_seq_k fun K383 hK383 => ?_
                refine wp_block ?_
                refine wp_seq_k fun K384 hK384 => ?_
                refine wp_seq_k fun K385 hK385 => ?_
                have J422 : ∀ (c423 : Nat → Nat) (w424 : World) (a : Act) (b421 : Bool), Fr a 226 [(0, .int .i64 a1), (1, .int .i64 a2), (3, .slice A8 a7.length C9), (11, .pointer p31), (23, .int .i64 i368), (24, .int .i64 i341), (25, .slice A363 t357.length C364), (26, .int .i64 i369), (201, .bool b421)] → Ev (fun x => False ∨ m ≤ x) c0 w0 c423 w424 → CB (m + 3) c423 w424 → SL false (Kslice (Kint .u8)) 0 0 c423 w424 A8 C9 a7 → RU (m + 1) c423 w424 p31 o306 → SL true (Kint .i64) 0 0 c423 w424 A363 C364 t357 → haulagelaw23_RouteBooks.j12 i368 i369 b421 = some ctl375 → K385 a w424 := by
                  intro c423 w424 a b421 F E B h10 h305 h365 H
                  unfold haulagelaw23_RouteBooks.j12 at H
                  refine hK385 _ _ ?_
                  by_cases hb425 : b421 = true
                  · have H := (if_pos hb425).symm.trans H
                    refine wp_cond_true ((F.ev rfl).trans (congrArg Value.bool hb425)) ?_
                    refine wp_seq_k fun K426 hK426 => ?_
                    refine reg ?_
                    refine q_val F rfl rfl (by decide) (r_assign F rfl) fun a F => ?_
                    refine nil ?_
                    refine hK426 _ _ ?_
                    refine wp_ret ?_
                    refine thenR ?_
                    refine inbR ?_
                    refine thenR ?_
                    refine thenR ?_
                    refine inbR ?_
                    refine inbR ?_
                    refine thenR ?_
                    refine thenR ?_
                    refine inbR ?_
                    refine thenR ?_
                    have hx_ := HD374 _ (Option.some.inj H).symm
                    have H := HR378
                    rw [← hx_] at H
                    replace H : some (.done (.inr false)) = some ctl347 := H
                    have hx_ := HD346 _ (Option.some.inj H).symm
                    have H := HR350
                    rw [← hx_] at H
                    replace H : some false = some r := H
                    have H := Option.some.inj H
                    subst H
                    refine out1 F rfl rfl ?_
                    exact ⟨fun b_ => (fun x_ => if x_ < m then x_ else 0) (c423 b_), rfl, E.leave B0 (fun x_ => if x_ < m then x_ else 0) (by intro x_ hx_; show (if x_ < m then x_ else 0) = x_; ((repeat' split) <;> omega)), (fun b_ hb_ => by show (if (c423 b_) < m then (c423 b_) else 0) < m; ((repeat' split) <;> omega))⟩
                  · have H := (if_neg hb425).symm.trans H
                    refine wp_cond_false ((F.ev rfl).trans (congrArg Value.bool (bfalse hb425))) ?_
                    refine wp_skip ?_
                    refine hK384 _ _ ?_
                    refine reg ?_
                    refine q_val F rfl rfl (by decide) (r_move F rfl) fun a F => ?_
                    refine q_val F rfl rfl (by decide) (r_add F rfl rfl) fun a F => ?_
                    refine q_val F rfl rfl (by decide) (r_assign F rfl) fun a F => ?_
                    refine nil ?_
                    refine hK383 _ _ ?_
                    refine reg ?_
                    refine q_val F rfl rfl (by decide) (r_move F rfl) fun a F => ?_
                    refine q_val F rfl rfl (by decide) (r_add F rfl rfl) fun a F => ?_
                    refine q_val F rfl rfl (by decide) (r_assign F rfl) fun a F => ?_
                    refine nil ?_
                    have H := HN373 _ (Option.some.inj H).symm
                    exact hX372 _ _ _ (Nat.lt_succ_self _) ⟨(IntKind.i64.wrap (i368 + 1)), (IntKind.i64.wrap (i369 + 1)), c423, F.sub ⟨rfl, rfl, rfl, rfl, rfl, rfl, rfl, rfl, trivial⟩, E, B, h10, h305, h365, H⟩
                refine regD (SB No c370 w371) 24 (.q 0 (.q 1 (.q 2 (.q 3 (.q 4 (.q 6 (.e 5 (.q 7 (.q 8 (.q 9 (.q 10 (.q 11 (.q 12 (.q 13 (.q 14 (.q 15 (.q 16 (.q 17 (.q 18 (.q 19 (.q 20 (.q 21 (.q 22 (.q 23 .nil)))))))))))))))))))))))) Try_hm (by decide +kernel) ?_
                intro w386 w1_ w2_ w3_ w4_
                have E387 : Ev No c370 w371 c370 w386 := Ev.same w1_ w2_ w3_ w4_
                have B := B.same w1_
                have zh10 := h10
                have zh305 := h305
                have zh365 := h365
                have ER : Ev No c370 w371 c370 w386 := Ev.same w1_ w2_ w3_ w4_
                have h10 := SL.ev h10 E387 (fun q => q.elim) (fun q => q.elim)
                have h305 := RU.ev h305 E387 (fun q => q.elim) (fun q => q.elim)
                have h365 := SL.ev h365 E387 (fun q => q.elim) (fun q => q.elim)
                have E := E.trans E387 (fun x q => q.elim)
                refine d_q F rfl rfl rfl (by decide) (fun wq hS => r_move F rfl) ER.sb fun a F => ?_
                refine d_q F rfl rfl rfl (by decide) (fun wq hS => r_move F rfl) ER.sb fun a F => ?_
                refine d_q F rfl rfl rfl (by decide) (fun wq hS => r_move F rfl) ER.sb fun a F => ?_
                obtain ⟨g388, H⟩ := ifN H
                obtain ⟨ad389, cs390, e391, h392, r393⟩ := SL.at zh365 i369 g388.1 g388.2
                obtain rfl : cs390 = [.int .i64 (rd t357 i369)] := r393
                obtain ⟨qa394, qqa394⟩ : ∃ q, q = (ad389.add (i369.toNat * 1)) := ⟨_, rfl⟩
                have h392 : AT true 0 c370 w371 qa394 [.int .i64 (rd t357 i369)] := by rw [qqa394]; exact h392
                have zh392 := h392
                have h392 := AT.ev h392 ER (fun q => q.elim)
                refine d_q F rfl rfl rfl (by decide) (fun wq hS => r_indexAddr' F Try.underlying22 sz_3 rfl rfl g388.1 g388.2 e391 qqa394) ER.sb fun a F => ?_
                refine d_q F rfl rfl rfl (by decide) (fun wq hS => r_load F rfl ag_3 (AT.cell0 (AT.sb zh392 hS (fun q => q.elim)) rfl)) ER.sb fun a F => ?_
                refine d_q F rfl rfl rfl (by decide) (fun wq hS => r_move F rfl) ER.sb fun a F => ?_
                refine d_e ?_
                obtain ⟨t396, q397, H⟩ := bind_some H
                refine o_call F rfl (wanted_none rfl) rfl (by decide) (r_call F Try.func14 rfl (by kernel_rfl) rfl) (route_Route_Where.calls (m := m + 3) (by omega) B h305 (by omega) _ q397) ?_
                rintro e w399 ⟨c398, rfl, E400, B401⟩
                refine ⟨_, rfl, fun a F => ?_⟩
                have B := B401
                have ER := ER.trans E400 (fun x q => q.elim)
                have h10 := SL.ev h10 E400 (fun q => q.elim) (fun q => q.elim)
                have h305 := RU.ev h305 E400 (fun q => q.elim) (fun q => q.elim)
                have h365 := SL.ev h365 E400 (fun q => q.elim) (fun q => q.elim)
                have h392 := AT.ev h392 E400 (fun q => q.elim)
                have E := E.trans E400 (fun x q => q.elim)
                refine ⟨fun _ => ER.sb, ?_⟩
                refine d_q F rfl rfl rfl (by decide) (fun wq hS => r_neq F rfl rfl) ER.sb fun a F => ?_
                refine d_q F rfl rfl rfl (by decide) (fun wq hS => r_move F rfl) ER.sb fun a F => ?_
                by_cases hb403 : t396 = i341
                · have H := (if_pos hb403).symm.trans H
                  refine d_qy F rfl rfl rfl (by decide) rfl (congrArg not (decide_eq_true hb403)) rfl (by decide) (fun wq hS => r_move F rfl) ER.sb fun a F => ?_
                  refine d_qy F rfl rfl rfl (by decide) rfl (congrArg not (decide_eq_true hb403)) rfl (by decide) (fun wq hS => r_gtr F rfl rfl) ER.sb fun a F => ?_
                  refine d_qy F rfl rfl rfl (by decide) rfl (congrArg not (decide_eq_true hb403)) rfl (by decide) (fun wq hS => r_move F rfl) ER.sb fun a F => ?_
                  by_cases hb404 : 0 < i369
                  · have H := (if_pos hb404).symm.trans H
                    refine d_qy F rfl rfl rfl (by decide) rfl (decide_eq_true hb404) rfl (by decide) (fun wq hS => r_move F rfl) ER.sb fun a F => ?_
                    refine d_qy F rfl rfl rfl (by decide) rfl (decide_eq_true hb404) rfl (by decide) (fun wq hS => r_move F rfl) ER.sb fun a F => ?_
                    obtain ⟨g405, H⟩ := ifN H
                    obtain ⟨ad406, cs407, e408, h409, r410⟩ := SL.at zh365 i369 g405.1 g405.2
                    obtain rfl : cs407 = [.int .i64 (rd t357 i369)] := r410
                    obtain ⟨qa411, qqa411⟩ : ∃ q, q = (ad406.add (i369.toNat * 1)) := ⟨_, rfl⟩
                    have h409 : AT true 0 c370 w371 qa411 [.int .i64 (rd t357 i369)] := by rw [qqa411]; exact h409
                    have zh409 := h409
                    have h409 := AT.ev h409 ER (fun q => q.elim)
                    refine d_qy F rfl rfl rfl (by decide) rfl (decide_eq_true hb404) rfl (by decide) (fun wq hS => r_indexAddr' F Try.underlying22 sz_3 rfl rfl g405.1 g405.2 e408 qqa411) ER.sb fun a F => ?_
                    refine d_qy F rfl rfl rfl (by decide) rfl (decide_eq_true hb404) rfl (by decide) (fun wq hS => r_load F rfl ag_3 (AT.cell0 (AT.sb zh409 hS (fun q => q.elim)) rfl)) ER.sb fun a F => ?_
                    refine d_qy F rfl rfl rfl (by decide) rfl (decide_eq_true hb404) rfl (by decide) (fun wq hS => r_move F rfl) ER.sb fun a F => ?_
                    refine d_qy F rfl rfl rfl (by decide) rfl (decide_eq_true hb404) rfl (by decide) (fun wq hS => r_move F rfl) ER.sb fun a F => ?_
                    refine d_qy F rfl rfl rfl (by decide) rfl (decide_eq_true hb404) rfl (by decide) (fun wq hS => r_sub F rfl rfl) ER.sb fun a F => ?_
                    obtain ⟨g413, H⟩ := ifN H
                    obtain ⟨ad414, cs415, e416, h417, r418⟩ := SL.at zh365 (IntKind.i64.wrap (i369 - 1)) g413.1 g413.2
                    obtain rfl : cs415 = [.int .i64 (rd t357 (IntKind.i64.wrap (i369 - 1)))] := r418
                    obtain ⟨qa419, qqa419⟩ : ∃ q, q = (ad414.add ((IntKind.i64.wrap (i369 - 1)).toNat * 1)) := ⟨_, rfl⟩
                    have h417 : AT true 0 c370 w371 qa419 [.int .i64 (rd t357 (IntKind.i64.wrap (i369 - 1)))] := by rw [qqa419]; exact h417
                    have zh417 := h417
                    have h417 := AT.ev h417 ER (fun q => q.elim)
                    refine d_qy F rfl rfl rfl (by decide) rfl (decide_eq_true hb404) rfl (by decide) (fun wq hS => r_indexAddr' F Try.underlying22 sz_3 rfl rfl g413.1 g413.2 e416 qqa419) ER.sb fun a F => ?_
                    refine d_qy F rfl rfl rfl (by decide) rfl (decide_eq_true hb404) rfl (by decide) (fun wq hS => r_load F rfl ag_3 (AT.cell0 (AT.sb zh417 hS (fun q => q.elim)) rfl)) ER.sb fun a F => ?_
                    refine d_qy F rfl rfl rfl (by decide) rfl (decide_eq_true hb404) rfl (by decide) (fun wq hS => r_leq F rfl rfl) ER.sb fun a F => ?_
                    refine d_qy F rfl rfl rfl (by decide) rfl (congrArg not (decide_eq_true hb403)) rfl (by decide) (fun wq hS => r_pick_t F rfl (decide_eq_true hb404) rfl) ER.sb fun a F => ?_
                    refine d_q F rfl rfl rfl (by decide) (fun wq hS => r_pick_f F rfl (congrArg not (decide_eq_true hb403)) rfl) ER.sb fun a F => ?_
                    refine d_nil ?_
                    exact J422 c398 w399 a (decide ((rd t357 i369) ≤ (rd t357 (IntKind.i64.wrap (i369 - 1))))) (F.sub ⟨rfl, rfl, rfl, rfl, rfl, rfl, rfl, rfl, rfl, trivial⟩) E B h10 h305 h365 H
                  · have H := (if_neg hb404).symm.trans H
                    refine d_qn F rfl rfl rfl (by decide) rfl (decide_eq_false hb404) rfl (by decide) ER.sb fun a F => ?_
                    refine d_qn F rfl rfl rfl (by decide) rfl (decide_eq_false hb404) rfl (by decide) ER.sb fun a F => ?_
                    refine d_qn F rfl rfl rfl (by decide) rfl (decide_eq_false hb404) rfl (by decide) ER.sb fun a F => ?_
                    refine d_qn F rfl rfl rfl (by decide) rfl (decide_eq_false hb404) rfl (by decide) ER.sb fun a F => ?_
                    refine d_qn F rfl rfl rfl (by decide) rfl (decide_eq_false hb404) rfl (by decide) ER.sb fun a F => ?_
                    refine d_qn F rfl rfl rfl (by decide) rfl (decide_eq_false hb404) rfl (by decide) ER.sb fun a F => ?_
                    refine d_qn F rfl rfl rfl (by decide) rfl (decide_eq_false hb404) rfl (by decide) ER.sb fun a F => ?_
                    refine d_qn F rfl rfl rfl (by decide) rfl (decide_eq_false hb404) rfl (by decide) ER.sb fun a F => ?_
                    refine d_qn F rfl rfl rfl (by decide) rfl (decide_eq_false hb404) rfl (by decide) ER.sb fun a F => ?_
                    refine d_qn F rfl rfl rfl (by decide) rfl (decide_eq_false hb404) rfl (by decide) ER.sb fun a F => ?_
                    refine d_qy F rfl rfl rfl (by decide) rfl (congrArg not (decide_eq_true hb403)) rfl (by decide) (fun wq hS => r_pick_f F rfl (decide_eq_false hb404) rfl) ER.sb fun a F => ?_
                    refine d_q F rfl rfl rfl (by decide) (fun wq hS => r_pick_f F rfl (congrArg not (decide_eq_true hb403)) rfl) ER.sb fun a F => ?_
                    refine d_nil ?_
                    exact J422 c398 w399 a false (F.sub ⟨rfl, rfl, rfl, rfl, rfl, rfl, rfl, rfl, rfl, trivial⟩) E B h10 h305 h365 H
                · have H := (if_neg hb403).symm.trans H
                  refine d_qn F rfl rfl rfl (by decide) rfl (congrArg not (decide_eq_false hb403)) rfl (by decide) ER.sb fun a F => ?_
                  refine d_qn F rfl rfl rfl (by decide) rfl (congrArg not (decide_eq_false hb403)) rfl (by decide) ER.sb fun a F => ?_
                  refine d_qn F rfl rfl rfl (by decide) rfl (congrArg not (decide_eq_false hb403)) rfl (by decide) ER.sb fun a F => ?_
                  refine d_qnu F rfl rfl rfl (by decide) rfl rfl (by decide) ER.sb fun a F => ?_
                  refine d_qnu F rfl rfl rfl (by decide) rfl rfl (by decide) ER.sb fun a F => ?_
                  refine d_qnu F rfl rfl rfl (by decide) rfl rfl (by decide) ER.sb fun a F => ?_
                  refine d_qnu F rfl rfl rfl (by decide) rfl rfl (by decide) ER.sb fun a F => ?_
                  refine d_qnu F rfl rfl rfl (by decide) rfl rfl (by decide) ER.sb fun a F => ?_
                  refine d_qnu F rfl rfl rfl (by decide) rfl rfl (by decide) ER.sb fun a F => ?_
                  refine d_qnu F rfl rfl rfl (by decide) rfl rfl (by decide) ER.sb fun a F => ?_
                  refine d_qnu F rfl rfl rfl (by decide) rfl rfl (by decide) ER.sb fun a F => ?_
                  refine d_qnu F rfl rfl rfl (by decide) rfl rfl (by decide) ER.sb fun a F => ?_
                  refine d_qnu F rfl rfl rfl (by decide) rfl rfl (by decide) ER.sb fun a F => ?_
                  refine d_qn F rfl rfl rfl (by decide) rfl (congrArg not (decide_eq_false hb403)) rfl (by decide) ER.sb fun a F => ?_
                  refine d_q F rfl rfl rfl (by decide) (fun wq hS => r_pick_t F rfl (congrArg not (decide_eq_false hb403)) rfl) ER.sb fun a F => ?_
                  refine d_nil ?_
                  exact J422 c398 w399 a true (F.sub ⟨rfl, rfl, rfl, rfl, rfl, rfl, rfl, rfl, rfl, trivial⟩) E B h10 h305 h365 H
              · have H := (if_neg hb382).symm.trans H
                refine wp_cond_false ((F.ev rfl).trans (congrArg Value.bool (decide_eq_false hb382))) ?_
                refine wp_exit ?_
                refine thenE ?_
                refine thenE ?_
                refine inbE ?_
                have hx_ := HD374 _ (Option.some.inj H).symm
                have H := HR378
                rw [← hx_] at H
                exact J430 c370 w371 a i368 (F.sub ⟨rfl, rfl, rfl, rfl, rfl, rfl, trivial⟩) E B h10 h305 H
            · have H := (if_neg hb354).symm.trans H
              refine wp_cond_false ((F.ev rfl).trans (congrArg Value.bool (decide_eq_false hb354))) ?_
              refine wp_exit ?_
              refine thenE ?_
              refine thenE ?_
              refine inbE ?_
              have hx_ := HD346 _ (Option.some.inj H).symm
              have H := HR350
              rw [← hx_] at H
              exact J436 c342 w343 a i340 (F.sub ⟨rfl, rfl, rfl, rfl, trivial⟩) E B h10 h305 H
        refine reg ?_
        refine q_val F rfl rfl (by decide) (r_move F rfl) fun a F => ?_
        refine q_val F rfl rfl (by decide) (r_not F rfl) fun a F => ?_
        refine q_val F rfl rfl (by decide) (r_move F rfl) fun a F => ?_
        by_cases hb322 : b307 = true
        · have H := (if_pos hb322).symm.trans H
          refine q_no F rfl (by decide) rfl (congrArg not hb322) (by decide) fun a F => ?_
          refine q_no F rfl (by decide) rfl (congrArg not hb322) (by decide) fun a F => ?_
          refine q_no F rfl (by decide) rfl (congrArg not hb322) (by decide) fun a F => ?_
          refine q_no F rfl (by decide) rfl (congrArg not hb322) (by decide) fun a F => ?_
          refine q_no F rfl (by decide) rfl (congrArg not hb322) (by decide) fun a F => ?_
          refine q_val F rfl rfl (by decide) (r_pick_f F rfl (congrArg not hb322) rfl) fun a F => ?_
          refine q_val F rfl rfl (by decide) (r_move F rfl) fun a F => ?_
          refine q_yes F rfl (by decide) rfl rfl ?_
          refine q_val F rfl rfl (by decide) (r_move F rfl) fun a F => ?_
          refine q_yes F rfl (by decide) rfl rfl ?_
          refine q_val F rfl rfl (by decide) (r_move F rfl) fun a F => ?_
          refine q_yes F rfl (by decide) rfl rfl ?_
          refine q_val F rfl rfl (by decide) (r_neq F rfl rfl) fun a F => ?_
          refine q_val F rfl rfl (by decide) (r_pick_f F rfl rfl rfl) fun a F => ?_
          refine nil ?_
          exact J332 c315 w316 a (!decide (t313.2.2 = i308)) (F.sub ⟨rfl, rfl, rfl, rfl, rfl, trivial⟩) E B h10 h305 H
        · have H := (if_neg hb322).symm.trans H
          refine q_yes F rfl (by decide) rfl (congrArg not (bfalse hb322)) ?_
          refine q_val F rfl rfl (by decide) (r_move F rfl) fun a F => ?_
          refine q_yes F rfl (by decide) rfl (congrArg not (bfalse hb322)) ?_
          refine q_val F rfl rfl (by decide) (r_move F rfl) fun a F => ?_
          obtain ⟨t323, q324, H⟩ := bind_some H
          refine q_yes F rfl (by decide) rfl (congrArg not (bfalse hb322)) ?_
          refine q_call F rfl rfl (by decide) (r_call F Try.func14 rfl (by kernel_rfl) rfl) (route_Route_Where.calls (m := m + 3) (by omega) B h305 (by omega) _ q324) ?_
          rintro e w326 ⟨c325, rfl, E327, B328⟩
          refine ⟨_, rfl, fun a F => ?_⟩
          have B := B328
          have h10 := SL.ev h10 E327 (fun q => q.elim) (fun q => q.elim)
          have h305 := RU.ev h305 E327 (fun q => q.elim) (fun q => q.elim)
          have E := E.trans E327 (fun x q => q.elim)
          refine q_yes F rfl (by decide) rfl (congrArg not (bfalse hb322)) ?_
          refine q_val F rfl rfl (by decide) (r_move F rfl) fun a F => ?_
          refine q_yes F rfl (by decide) rfl (congrArg not (bfalse hb322)) ?_
          refine q_val F rfl rfl (by decide) (r_neq F rfl rfl) fun a F => ?_
          refine q_val F rfl rfl (by decide) (r_pick_t F rfl (congrArg not (bfalse hb322)) rfl) fun a F => ?_
          refine q_val F rfl rfl (by decide) (r_move F rfl) fun a F => ?_
          by_cases hb330 : t323 = t46
          · have H := (if_pos hb330).symm.trans H
            refine q_yes F rfl (by decide) rfl (congrArg not (decide_eq_true hb330)) ?_
            refine q_val F rfl rfl (by decide) (r_move F rfl) fun a F => ?_
            refine q_yes F rfl (by decide) rfl (congrArg not (decide_eq_true hb330)) ?_
            refine q_val F rfl rfl (by decide) (r_move F rfl) fun a F => ?_
            refine q_yes F rfl (by decide) rfl (congrArg not (decide_eq_true hb330)) ?_
            refine q_val F rfl rfl (by decide) (r_neq F rfl rfl) fun a F => ?_
            refine q_val F rfl rfl (by decide) (r_pick_f F rfl (congrArg not (decide_eq_true hb330)) rfl) fun a F => ?_
            refine nil ?_
            exact J332 c325 w326 a (!decide (t313.2.2 = i308)) (F.sub ⟨rfl, rfl, rfl, rfl, rfl, trivial⟩) E B h10 h305 H
          · have H := (if_neg hb330).symm.trans H
            refine q_no F rfl (by decide) rfl (congrArg not (decide_eq_false hb330)) (by decide) fun a F => ?_
            refine q_no F rfl (by decide) rfl (congrArg not (decide_eq_false hb330)) (by decide) fun a F => ?_
            refine q_no F rfl (by decide) rfl (congrArg not (decide_eq_false hb330)) (by decide) fun a F => ?_
            refine q_val F rfl rfl (by decide) (r_pick_t F rfl (congrArg not (decide_eq_false hb330)) rfl) fun a F => ?_
            refine nil ?_
            exact J332 c325 w326 a true (F.sub ⟨rfl, rfl, rfl, rfl, rfl, trivial⟩) E B h10 h305 H
      refine loop_fuel (I := fun n a w => ∃ (o185 : Option Rou) (b186 : Bool) (i187 : Int) (i188 : Int) (c : Nat → Nat), Fr a 226 [(0, .int .i64 a1), (1, .int .i64 a2), (2, .slice A4 a3.length C5), (3, .slice A8 a7.length C9), (4, .int .i64 a11), (11, .pointer p31), (13, .int .i64 t46), (14, .bool b186), (15, .int .i64 i187), (16, .int .i64 i188)] ∧ Ev (fun x => False ∨ m ≤ x) c0 w0 c w ∧ CB (m + 3) c w ∧ SL false K_haulagelaw23_Op 0 0 c w A4 C5 a3 ∧ SL false (Kslice (Kint .u8)) 0 0 c w A8 C9 a7 ∧ RU (m + 1) c w p31 o185 ∧ loop (fun (s_ : (Option Rou) × Bool × Int × Int) => haulagelaw23_RouteBooks.b9 a1 a3 a11 s_.1 s_.2.1 s_.2.2.1 s_.2.2.2) n (o185, b186, i187, i188) = some x198) (k := k) ⟨t25.1, false, 0, 0, c48, F.sub ⟨rfl, rfl, rfl, rfl, rfl, rfl, rfl, rfl, rfl, rfl, trivial⟩, E, B, h6, h10, h32, HL⟩ ?_
      clear HL H E F B
      intro n195 X191 hX191 a w190 ⟨o185, b186, i187, i188, c189, F, E, B, h6, h10, h184, HL⟩
      obtain ⟨n196, ctl194, rfl, HB, HN192, HD193⟩ := loop_some HL
      have H : haulagelaw23_RouteBooks.b9 a1 a3 a11 o185 b186 i187 i188 = some ctl194 := HB
      clear HB HL
      unfold haulagelaw23_RouteBooks.b9 at H
      refine wp_seq_k fun K199 hK199 => ?_
      refine wp_seq_k fun K200 hK200 => ?_
      refine reg ?_
      refine q_val F rfl rfl (by decide) (r_move F rfl) fun a F => ?_
      refine q_val F rfl rfl (by decide) (r_move F rfl) fun a F => ?_
      refine q_val F rfl rfl (by decide) (r_lensl F Try.underlying38 rfl) fun a F => ?_
      refine q_val F rfl rfl (by decide) (r_lss F rfl rfl) fun a F => ?_
      refine nil ?_
      refine hK200 _ _ ?_
      by_cases hb201 : i188 < (a3.length : Int)
      · have H := (if_pos hb201).symm.trans H
        refine wp_cond_true ((F.ev rfl).trans (congrArg Value.bool (decide_eq_true hb201))) ?_
        refine wp_skip ?_
        refine hK199 _ _ ?_
        refine wp_seq_k fun K202 hK202 => ?_
        refine wp_block ?_
        refine wp_seq_k fun K203 hK203 => ?_
        refine reg ?_
        refine q_val F rfl rfl (by decide) (r_move F rfl) fun a F => ?_
        refine q_val F rfl rfl (by decide) (r_move F rfl) fun a F => ?_
        obtain ⟨g204, H⟩ := ifN H
        obtain ⟨ad205, cs206, e207, h208, r209⟩ := SL.at h6 i188 g204.1 g204.2
        obtain ⟨A210, C211, rfl, h212⟩ := r209
        have h212 := SL.fl (i' := 0) h212 (fun q => q)
        obtain ⟨qa213, qqa213⟩ : ∃ q, q = (ad205.add (i188.toNat * 5)) := ⟨_, rfl⟩
        have h208 : AT false 0 c189 w190 qa213 [.int .i64 ((rd a3 i188).Who), .int .i64 ((rd a3 i188).Kind), .int .i64 ((rd a3 i188).Shard), .int .i64 ((rd a3 i188).Server), .slice A210 ((rd a3 i188).Key).length C211] := by rw [qqa213]; exact h208
        refine q_val F rfl rfl (by decide) (r_indexAddr' F Try.underlying38 sz_40 rfl rfl g204.1 g204.2 e207 qqa213) fun a F => ?_
        refine q_val F rfl rfl (by decide) (r_loads (cs := [.int .i64 ((rd a3 i188).Who), .int .i64 ((rd a3 i188).Kind), .int .i64 ((rd a3 i188).Shard), .int .i64 ((rd a3 i188).Server), .slice A210 ((rd a3 i188).Key).length C211]) F rfl ag_40 sz_40 h208) fun a F => ?_
        refine q_eff F rfl rfl (by decide) (e_alloc F zv_40 c189 (m + 2)) ?_
        rintro v w216 a ⟨c215, qa88, rfl, E217, h90, B218⟩ F
        have B := B218 _ B (by omega)
        have h6 := SL.ev h6 E217 (fun q => q.elim) (fun q => q.elim)
        have h10 := SL.ev h10 E217 (fun q => q.elim) (fun q => q.elim)
        have h184 := RU.ev h184 E217 (fun q => q.elim) (fun q => q.elim)
        have h212 := SL.ev h212 E217 (fun q => q.elim) (fun q => q.elim)
        have h208 := AT.ev h208 E217 (fun q => q.elim)
        have E := E.trans E217 (fun x q => q.elim)
        have h90 : AT true (m + 2) c215 w216 qa88 [.int .i64 0, .int .i64 0, .int .i64 0, .int .i64 0, .slice none 0 0] := h90
        refine q_eff0 F rfl rfl (e_storeN0 (us := [.int .i64 ((rd a3 i188).Who), .int .i64 ((rd a3 i188).Kind), .int .i64 ((rd a3 i188).Shard), .int .i64 ((rd a3 i188).Server), .slice A210 ((rd a3 i188).Key).length C211]) F rfl rfl sz_40 h90 (Nat.le_of_ble_eq_true rfl) (one_all rfl)) ?_
        rintro w219 a ⟨E220, h90, Z221⟩ F
        have B := B.size Z221
        have h6 := SL.ev h6 E220 (by show ¬ (0 = m + 2); omega) (by show ¬ (0 = m + 2); omega)
        have h10 := SL.ev h10 E220 (by show ¬ (0 = m + 2); omega) (by show ¬ (0 = m + 2); omega)
        have h184 := RU.ev h184 E220 (by show ¬ (m + 1 = m + 2); omega) (by show ¬ (0 = m + 2); omega)
        have h212 := SL.ev h212 E220 (by show ¬ (0 = m + 2); omega) (by show ¬ (0 = m + 2); omega)
        have h208 := AT.ev h208 E220 (by show ¬ (0 = m + 2); omega)
        have E := E.trans E220 (fun x q => by replace q : x = m + 2 := q; show False ∨ m ≤ x; omega)
        have h90 : AT true (m + 2) c215 w219 qa88 [.int .i64 ((rd a3 i188).Who), .int .i64 ((rd a3 i188).Kind), .int .i64 ((rd a3 i188).Shard), .int .i64 ((rd a3 i188).Server), .slice A210 ((rd a3 i188).Key).length C211] := h90
        refine nil ?_
        refine hK203 _ _ ?_
        refine wp_seq_k fun K222 hK222 => ?_
        refine reg ?_
        refine q_val F rfl rfl (by decide) (r_move F rfl) fun a F => ?_
        refine q_val F rfl rfl (by decide) (r_fieldAddr F rfl ff_40_2) fun a F => ?_
        refine q_val F rfl rfl (by decide) (r_load F rfl ag_3 (AT.cell h90 rfl)) fun a F => ?_
        obtain ⟨t97, q98, H⟩ := bind_some H
        refine q_call F rfl rfl (by decide) (r_call F Try.func14 rfl (by kernel_rfl) rfl) (route_Route_Where.calls (m := m + 3) (by omega) B h184 (by omega) _ q98) ?_
        rintro e w224 ⟨c223, rfl, E225, B226⟩
        refine ⟨_, rfl, fun a F => ?_⟩
        have B := B226
        have h6 := SL.ev h6 E225 (fun q => q.elim) (fun q => q.elim)
        have h10 := SL.ev h10 E225 (fun q => q.elim) (fun q => q.elim)
        have h184 := RU.ev h184 E225 (fun q => q.elim) (fun q => q.elim)
        have h212 := SL.ev h212 E225 (fun q => q.elim) (fun q => q.elim)
        have h208 := AT.ev h208 E225 (fun q => q.elim)
        have h90 := AT.ev h90 E225 (fun q => q.elim)
        have E := E.trans E225 (fun x q => q.elim)
        refine q_val F rfl rfl (by decide) (r_assign F rfl) fun a F => ?_
        refine nil ?_
        refine hK222 _ _ ?_
        refine wp_seq_k fun K228 hK228 => ?_
        refine reg ?_
        refine q_val F rfl rfl (by decide) (r_assign F rfl) fun a F => ?_
        refine nil ?_
        refine hK228 _ _ ?_
        refine wp_seq_k fun K229 hK229 => ?_
        have J270 : ∀ (c271 : Nat → Nat) (w272 : World) (a : Act) (o267 : Option Rou) (i268 : Int) (b269 : Bool), Fr a 226 [(0, .int .i64 a1), (1, .int .i64 a2), (2, .slice A4 a3.length C5), (3, .slice A8 a7.length C9), (4, .int .i64 a11), (11, .pointer p31), (13, .int .i64 t46), (14, .bool b186), (15, .int .i64 i268), (16, .int .i64 i188), (17, .pointer (some qa88)), (18, .int .i64 t97), (19, .bool b269)] → Ev (fun x => False ∨ m ≤ x) c0 w0 c271 w272 → CB (m + 3) c271 w272 → AT true (m + 2) c271 w272 qa88 [.int .i64 ((rd a3 i188).Who), .int .i64 ((rd a3 i188).Kind), .int .i64 ((rd a3 i188).Shard), .int .i64 ((rd a3 i188).Server), .slice A210 ((rd a3 i188).Key).length C211] → SL false K_haulagelaw23_Op 0 0 c271 w272 A4 C5 a3 → SL false (Kslice (Kint .u8)) 0 0 c271 w272 A8 C9 a7 → SL false (Kint .u8) 0 0 c271 w272 A210 C211 ((rd a3 i188).Key) → RU (m + 1) c271 w272 p31 o267 → haulagelaw23_RouteBooks.j7 a1 a3 a11 t97 b186 i188 o267 i268 b269 = some ctl194 → K229 a w272 := by
          intro c271 w272 a o267 i268 b269 F E B h90 h6 h10 h212 h266 H
          unfold haulagelaw23_RouteBooks.j7 at H
          refine hK229 _ _ ?_
          refine wp_seq_k fun K273 hK273 => ?_
          refine wp_seq_k fun K274 hK274 => ?_
          have J292 : ∀ (c293 : Nat → Nat) (w294 : World) (a : Act) (b291 : Bool), Fr a 226 [(0, .int .i64 a1), (1, .int .i64 a2), (2, .slice A4 a3.length C5), (3, .slice A8 a7.length C9), (4, .int .i64 a11), (11, .pointer p31), (13, .int .i64 t46), (14, .bool b186), (15, .int .i64 i268), (16, .int .i64 i188), (17, .pointer (some qa88)), (19, .bool b269), (133, .bool b291)] → Ev (fun x => False ∨ m ≤ x) c0 w0 c293 w294 → CB (m + 3) c293 w294 → AT true (m + 2) c293 w294 qa88 [.int .i64 ((rd a3 i188).Who), .int .i64 ((rd a3 i188).Kind), .int .i64 ((rd a3 i188).Shard), .int .i64 ((rd a3 i188).Server), .slice A210 ((rd a3 i188).Key).length C211] → SL false K_haulagelaw23_Op 0 0 c293 w294 A4 C5 a3 → SL false (Kslice (Kint .u8)) 0 0 c293 w294 A8 C9 a7 → RU (m + 1) c293 w294 p31 o267 → SL false (Kint .u8) 0 0 c293 w294 A210 C211 ((rd a3 i188).Key) → haulagelaw23_RouteBooks.j8 a3 a11 b186 i188 o267 i268 b269 b291 = some ctl194 → K274 a w294 := by
            intro c293 w294 a b291 F E B h90 h6 h10 h266 h212 H
            unfold haulagelaw23_RouteBooks.j8 at H
            refine hK274 _ _ ?_
            by_cases hb295 : b291 = true
            · have H := (if_pos hb295).symm.trans H
              refine wp_cond_true ((F.ev rfl).trans (congrArg Value.bool hb295)) ?_
              refine wp_seq_k fun K296 hK296 => ?_
              refine reg ?_
              refine q_val F rfl rfl (by decide) (r_assign F rfl) fun a F => ?_
              refine nil ?_
              refine hK296 _ _ ?_
              refine wp_ret ?_
              refine thenR ?_
              refine inbR ?_
              refine thenR ?_
              refine thenR ?_
              refine inbR ?_
              refine thenR ?_
              have hx_ := HD193 _ (Option.some.inj H).symm
              have H := HR197
              rw [← hx_] at H
              replace H : some false = some r := H
              have H := Option.some.inj H
              subst H
              refine out1 F rfl rfl ?_
              exact ⟨fun b_ => (fun x_ => if x_ < m then x_ else 0) (c293 b_), rfl, E.leave B0 (fun x_ => if x_ < m then x_ else 0) (by intro x_ hx_; show (if x_ < m then x_ else 0) = x_; ((repeat' split) <;> omega)), (fun b_ hb_ => by show (if (c293 b_) < m then (c293 b_) else 0) < m; ((repeat' split) <;> omega))⟩
            · have H := (if_neg hb295).symm.trans H
              refine wp_cond_false ((F.ev rfl).trans (congrArg Value.bool (bfalse hb295))) ?_
              refine wp_skip ?_
              refine hK273 _ _ ?_
              refine reg ?_
              refine q_val F rfl rfl (by decide) (r_move F rfl) fun a F => ?_
              refine q_val F rfl rfl (by decide) (r_move F rfl) fun a F => ?_
              by_cases hb297 : b186 = true
              · have H := (if_pos hb297).symm.trans H
                refine q_no F rfl (by decide) rfl hb297 (by decide) fun a F => ?_
                refine q_no F rfl (by decide) rfl hb297 (by decide) fun a F => ?_
                refine q_nu F rfl (by decide) rfl (by decide) fun a F => ?_
                refine q_nu F rfl (by decide) rfl (by decide) fun a F => ?_
                refine q_nu F rfl (by decide) rfl (by decide) fun a F => ?_
                refine q_nu F rfl (by decide) rfl (by decide) fun a F => ?_
                refine q_no F rfl (by decide) rfl hb297 (by decide) fun a F => ?_
                refine q_val F rfl rfl (by decide) (r_pick_t F rfl hb297 rfl) fun a F => ?_
                refine q_val F rfl rfl (by decide) (r_assign F rfl) fun a F => ?_
                refine nil ?_
                refine hK202 _ _ ?_
                refine reg ?_
                refine q_val F rfl rfl (by decide) (r_move F rfl) fun a F => ?_
                refine q_val F rfl rfl (by decide) (r_add F rfl rfl) fun a F => ?_
                refine q_val F rfl rfl (by decide) (r_assign F rfl) fun a F => ?_
                refine nil ?_
                have H := HN192 _ (Option.some.inj H).symm
                exact hX191 _ _ _ (Nat.lt_succ_self _) ⟨o267, true, i268, (IntKind.i64.wrap (i188 + 1)), c293, F.sub ⟨rfl, rfl, rfl, rfl, rfl, rfl, rfl, rfl, rfl, rfl, trivial⟩, E, B, h6, h10, h266, H⟩
              · have H := (if_neg hb297).symm.trans H
                refine q_yes F rfl (by decide) rfl (bfalse hb297) ?_
                refine q_val F rfl rfl (by decide) (r_move F rfl) fun a F => ?_
                refine q_yes F rfl (by decide) rfl (bfalse hb297) ?_
                refine q_val F rfl rfl (by decide) (r_move F rfl) fun a F => ?_
                by_cases hb298 : b269 = true
                · have H := (if_pos hb298).symm.trans H
                  refine q_yes F rfl (by decide) rfl hb298 ?_
                  refine q_val F rfl rfl (by decide) (r_fieldAddr F rfl ff_40_2) fun a F => ?_
                  refine q_yes F rfl (by decide) rfl hb298 ?_
                  refine q_val F rfl rfl (by decide) (r_load F rfl ag_3 (AT.cell h90 rfl)) fun a F => ?_
                  refine q_yes F rfl (by decide) rfl hb298 ?_
                  refine q_val F rfl rfl (by decide) (r_move F rfl) fun a F => ?_
                  refine q_yes F rfl (by decide) rfl hb298 ?_
                  refine q_val F rfl rfl (by decide) (r_eql F rfl rfl) fun a F => ?_
                  refine q_yes F rfl (by decide) rfl (bfalse hb297) ?_
                  refine q_val F rfl rfl (by decide) (r_pick_t F rfl hb298 rfl) fun a F => ?_
                  refine q_val F rfl rfl (by decide) (r_pick_f F rfl (bfalse hb297) rfl) fun a F => ?_
                  refine q_val F rfl rfl (by decide) (r_assign F rfl) fun a F => ?_
                  refine nil ?_
                  refine hK202 _ _ ?_
                  refine reg ?_
                  refine q_val F rfl rfl (by decide) (r_move F rfl) fun a F => ?_
                  refine q_val F rfl rfl (by decide) (r_add F rfl rfl) fun a F => ?_
                  refine q_val F rfl rfl (by decide) (r_assign F rfl) fun a F => ?_
                  refine nil ?_
                  have H := HN192 _ (Option.some.inj H).symm
                  exact hX191 _ _ _ (Nat.lt_succ_self _) ⟨o267, (decide (((rd a3 i188).Shard) = a11)), i268, (IntKind.i64.wrap (i188 + 1)), c293, F.sub ⟨rfl, rfl, rfl, rfl, rfl, rfl, rfl, rfl, rfl, rfl, trivial⟩, E, B, h6, h10, h266, H⟩
                · have H := (if_neg hb298).symm.trans H
                  refine q_no F rfl (by decide) rfl (bfalse hb298) (by decide) fun a F => ?_
                  refine q_no F rfl (by decide) rfl (bfalse hb298) (by decide) fun a F => ?_
                  refine q_no F rfl (by decide) rfl (bfalse hb298) (by decide) fun a F => ?_
                  refine q_no F rfl (by decide) rfl (bfalse hb298) (by decide) fun a F => ?_
                  refine q_yes F rfl (by decide) rfl (bfalse hb297) ?_
                  refine q_val F rfl rfl (by decide) (r_pick_f F rfl (bfalse hb298) rfl) fun a F => ?_
                  refine q_val F rfl rfl (by decide) (r_pick_f F rfl (bfalse hb297) rfl) fun a F => ?_
                  refine q_val F rfl rfl (by decide) (r_assign F rfl) fun a F => ?_
                  refine nil ?_
                  refine hK202 _ _ ?_
                  refine reg ?_
                  refine q_val F rfl rfl (by decide) (r_move F rfl) fun a F => ?_
                  refine q_val F rfl rfl (by decide) (r_add F rfl rfl) fun a F => ?_
                  refine q_val F rfl rfl (by decide) (r_assign F rfl) fun a F => ?_
                  refine nil ?_
                  have H := HN192 _ (Option.some.inj H).symm
                  exact hX191 _ _ _ (Nat.lt_succ_self _) ⟨o267, false, i268, (IntKind.i64.wrap (i188 + 1)), c293, F.sub ⟨rfl, rfl, rfl, rfl, rfl, rfl, rfl, rfl, rfl, rfl, trivial⟩, E, B, h6, h10, h266, H⟩
          refine regD (SB No c271 w272) 33 (.q 0 (.q 1 (.q 2 (.q 3 (.q 4 (.q 6 (.q 7 (.e 5 (.q 8 (.q 9 (.q 10 (.q 11 (.q 12 (.q 13 (.q 14 (.q 15 (.q 16 (.q 17 (.q 18 (.q 19 (.q 20 (.q 21 (.q 22 (.q 23 (.q 24 (.q 25 (.q 26 (.q 27 (.q 29 (.e 28 (.q 30 (.q 31 (.q 32 .nil))))))))))))))))))))))))))))))))) Try_hm (by decide +kernel) ?_
          intro w275 w1_ w2_ w3_ w4_
          have E276 : Ev No c271 w272 c271 w275 := Ev.same w1_ w2_ w3_ w4_
          have B := B.same w1_
          have zh90 := h90
          have zh6 := h6
          have zh10 := h10
          have zh212 := h212
          have zh266 := h266
          have ER : Ev No c271 w272 c271 w275 := Ev.same w1_ w2_ w3_ w4_
          have h90 := AT.ev h90 E276 (fun q => q.elim)
          have h6 := SL.ev h6 E276 (fun q => q.elim) (fun q => q.elim)
          have h10 := SL.ev h10 E276 (fun q => q.elim) (fun q => q.elim)
          have h212 := SL.ev h212 E276 (fun q => q.elim) (fun q => q.elim)
          have h266 := RU.ev h266 E276 (fun q => q.elim) (fun q => q.elim)
          have E := E.trans E276 (fun x q => q.elim)
          refine d_q F rfl rfl rfl (by decide) (fun wq hS => r_move F rfl) ER.sb fun a F => ?_
          refine d_q F rfl rfl rfl (by decide) (fun wq hS => r_move F rfl) ER.sb fun a F => ?_
          by_cases hb277 : b269 = true
          · have H := (if_pos hb277).symm.trans H
            refine d_qy F rfl rfl rfl (by decide) rfl hb277 rfl (by decide) (fun wq hS => r_move F rfl) ER.sb fun a F => ?_
            refine d_qy F rfl rfl rfl (by decide) rfl hb277 rfl (by decide) (fun wq hS => r_fieldAddr F rfl ff_40_2) ER.sb fun a F => ?_
            refine d_qy F rfl rfl rfl (by decide) rfl hb277 rfl (by decide) (fun wq hS => r_load F rfl ag_3 (AT.cell (AT.sb zh90 hS (fun q => q.elim)) rfl)) ER.sb fun a F => ?_
            refine d_qy F rfl rfl rfl (by decide) rfl hb277 rfl (by decide) (fun wq hS => r_fieldAddr F rfl ff_40_3) ER.sb fun a F => ?_
            refine d_qy F rfl rfl rfl (by decide) rfl hb277 rfl (by decide) (fun wq hS => r_load F rfl ag_3 (AT.cell (AT.sb zh90 hS (fun q => q.elim)) rfl)) ER.sb fun a F => ?_
            refine d_e ?_
            obtain ⟨t158, q159, H⟩ := bind_some H
            refine o_call F rfl (wanted_yes F rfl rfl (by decide) rfl hb277) rfl (by decide) (r_call F Try.func14 rfl (by kernel_rfl) rfl) (route_Route_Where.calls (m := m + 3) (by omega) B h266 (by omega) _ q159) ?_
            rintro e w279 ⟨c278, rfl, E280, B281⟩
            refine ⟨_, rfl, fun a F => ?_⟩
            have B := B281
            have ER := ER.trans E280 (fun x q => q.elim)
            have h90 := AT.ev h90 E280 (fun q => q.elim)
            have h6 := SL.ev h6 E280 (fun q => q.elim) (fun q => q.elim)
            have h10 := SL.ev h10 E280 (fun q => q.elim) (fun q => q.elim)
            have h212 := SL.ev h212 E280 (fun q => q.elim) (fun q => q.elim)
            have h266 := RU.ev h266 E280 (fun q => q.elim) (fun q => q.elim)
            have E := E.trans E280 (fun x q => q.elim)
            refine ⟨fun _ => ER.sb, ?_⟩
            refine d_qy F rfl rfl rfl (by decide) rfl hb277 rfl (by decide) (fun wq hS => r_neq F rfl rfl) ER.sb fun a F => ?_
            refine d_qy F rfl rfl rfl (by decide) rfl hb277 rfl (by decide) (fun wq hS => r_move F rfl) ER.sb fun a F => ?_
            by_cases hb283 : t158 = ((rd a3 i188).Server)
            · have H := (if_pos hb283).symm.trans H
              refine d_qy F rfl rfl rfl (by decide) rfl (congrArg not (decide_eq_true hb283)) rfl (by decide) (fun wq hS => r_fieldAddr F rfl ff_40_3) ER.sb fun a F => ?_
              refine d_qy F rfl rfl rfl (by decide) rfl (congrArg not (decide_eq_true hb283)) rfl (by decide) (fun wq hS => r_load F rfl ag_3 (AT.cell (AT.sb zh90 hS (fun q => q.elim)) rfl)) ER.sb fun a F => ?_
              refine d_qy F rfl rfl rfl (by decide) rfl (congrArg not (decide_eq_true hb283)) rfl (by decide) (fun wq hS => r_lss F rfl rfl) ER.sb fun a F => ?_
              refine d_qy F rfl rfl rfl (by decide) rfl hb277 rfl (by decide) (fun wq hS => r_pick_f F rfl (congrArg not (decide_eq_true hb283)) rfl) ER.sb fun a F => ?_
              refine d_qy F rfl rfl rfl (by decide) rfl hb277 rfl (by decide) (fun wq hS => r_move F rfl) ER.sb fun a F => ?_
              by_cases hb284 : ((rd a3 i188).Server) < 0
              · have H := (if_pos hb284).symm.trans H
                refine d_qn F rfl rfl rfl (by decide) rfl (decide_eq_true hb284) rfl (by decide) ER.sb fun a F => ?_
                refine d_qn F rfl rfl rfl (by decide) rfl (decide_eq_true hb284) rfl (by decide) ER.sb fun a F => ?_
                refine d_qn F rfl rfl rfl (by decide) rfl (decide_eq_true hb284) rfl (by decide) ER.sb fun a F => ?_
                refine d_qn F rfl rfl rfl (by decide) rfl (decide_eq_true hb284) rfl (by decide) ER.sb fun a F => ?_
                refine d_qy F rfl rfl rfl (by decide) rfl hb277 rfl (by decide) (fun wq hS => r_pick_t F rfl (decide_eq_true hb284) rfl) ER.sb fun a F => ?_
                refine d_q F rfl rfl rfl (by decide) (fun wq hS => r_pick_t F rfl hb277 rfl) ER.sb fun a F => ?_
                refine d_q F rfl rfl rfl (by decide) (fun wq hS => r_move F rfl) ER.sb fun a F => ?_
                refine d_qn F rfl rfl rfl (by decide) rfl rfl rfl (by decide) ER.sb fun a F => ?_
                refine d_qn F rfl rfl rfl (by decide) rfl rfl rfl (by decide) ER.sb fun a F => ?_
                refine d_qn F rfl rfl rfl (by decide) rfl rfl rfl (by decide) ER.sb fun a F => ?_
                refine d_qnu F rfl rfl rfl (by decide) rfl rfl (by decide) ER.sb fun a F => ?_
                refine d_qnu F rfl rfl rfl (by decide) rfl rfl (by decide) ER.sb fun a F => ?_
                refine d_qnu F rfl rfl rfl (by decide) rfl rfl (by decide) ER.sb fun a F => ?_
                refine d_qnu F rfl rfl rfl (by decide) rfl rfl (by decide) ER.sb fun a F => ?_
                refine d_e ?_
                refine o_nu F rfl rfl rfl (by decide) rfl rfl (by decide) fun a F => ?_
                refine ⟨fun _ => ER.sb, ?_⟩
                refine d_qnu F rfl rfl rfl (by decide) rfl rfl (by decide) ER.sb fun a F => ?_
                refine d_qn F rfl rfl rfl (by decide) rfl rfl rfl (by decide) ER.sb fun a F => ?_
                refine d_q F rfl rfl rfl (by decide) (fun wq hS => r_pick_t F rfl rfl rfl) ER.sb fun a F => ?_
                refine d_nil ?_
                exact J292 c278 w279 a true (F.sub ⟨rfl, rfl, rfl, rfl, rfl, rfl, rfl, rfl, rfl, rfl, rfl, rfl, rfl, trivial⟩) E B h90 h6 h10 h266 h212 H
              · have H := (if_neg hb284).symm.trans H
                refine d_qy F rfl rfl rfl (by decide) rfl (decide_eq_false hb284) rfl (by decide) (fun wq hS => r_fieldAddr F rfl ff_40_3) ER.sb fun a F => ?_
                refine d_qy F rfl rfl rfl (by decide) rfl (decide_eq_false hb284) rfl (by decide) (fun wq hS => r_load F rfl ag_3 (AT.cell (AT.sb zh90 hS (fun q => q.elim)) rfl)) ER.sb fun a F => ?_
                refine d_qy F rfl rfl rfl (by decide) rfl (decide_eq_false hb284) rfl (by decide) (fun wq hS => r_move F rfl) ER.sb fun a F => ?_
                refine d_qy F rfl rfl rfl (by decide) rfl (decide_eq_false hb284) rfl (by decide) (fun wq hS => r_geq F rfl rfl) ER.sb fun a F => ?_
                refine d_qy F rfl rfl rfl (by decide) rfl hb277 rfl (by decide) (fun wq hS => r_pick_f F rfl (decide_eq_false hb284) rfl) ER.sb fun a F => ?_
                refine d_q F rfl rfl rfl (by decide) (fun wq hS => r_pick_t F rfl hb277 rfl) ER.sb fun a F => ?_
                refine d_q F rfl rfl rfl (by decide) (fun wq hS => r_move F rfl) ER.sb fun a F => ?_
                by_cases hb285 : a1 ≤ ((rd a3 i188).Server)
                · have H := (if_pos hb285).symm.trans H
                  refine d_qn F rfl rfl rfl (by decide) rfl (decide_eq_true hb285) rfl (by decide) ER.sb fun a F => ?_
                  refine d_qn F rfl rfl rfl (by decide) rfl (decide_eq_true hb285) rfl (by decide) ER.sb fun a F => ?_
                  refine d_qn F rfl rfl rfl (by decide) rfl (decide_eq_true hb285) rfl (by decide) ER.sb fun a F => ?_
                  refine d_qnu F rfl rfl rfl (by decide) rfl rfl (by decide) ER.sb fun a F => ?_
                  refine d_qnu F rfl rfl rfl (by decide) rfl rfl (by decide) ER.sb fun a F => ?_
                  refine d_qnu F rfl rfl rfl (by decide) rfl rfl (by decide) ER.sb fun a F => ?_
                  refine d_qnu F rfl rfl rfl (by decide) rfl rfl (by decide) ER.sb fun a F => ?_
                  refine d_e ?_
                  refine o_nu F rfl rfl rfl (by decide) rfl rfl (by decide) fun a F => ?_
                  refine ⟨fun _ => ER.sb, ?_⟩
                  refine d_qnu F rfl rfl rfl (by decide) rfl rfl (by decide) ER.sb fun a F => ?_
                  refine d_qn F rfl rfl rfl (by decide) rfl (decide_eq_true hb285) rfl (by decide) ER.sb fun a F => ?_
                  refine d_q F rfl rfl rfl (by decide) (fun wq hS => r_pick_t F rfl (decide_eq_true hb285) rfl) ER.sb fun a F => ?_
                  refine d_nil ?_
                  exact J292 c278 w279 a true (F.sub ⟨rfl, rfl, rfl, rfl, rfl, rfl, rfl, rfl, rfl, rfl, rfl, rfl, rfl, trivial⟩) E B h90 h6 h10 h266 h212 H
                · have H := (if_neg hb285).symm.trans H
                  refine d_qy F rfl rfl rfl (by decide) rfl (decide_eq_false hb285) rfl (by decide) (fun wq hS => r_move F rfl) ER.sb fun a F => ?_
                  refine d_qy F rfl rfl rfl (by decide) rfl (decide_eq_false hb285) rfl (by decide) (fun wq hS => r_not F rfl) ER.sb fun a F => ?_
                  refine d_qy F rfl rfl rfl (by decide) rfl (decide_eq_false hb285) rfl (by decide) (fun wq hS => r_move F rfl) ER.sb fun a F => ?_
                  refine d_qn F rfl rfl rfl (by decide) rfl (congrArg not hb277) rfl (by decide) ER.sb fun a F => ?_
                  refine d_qn F rfl rfl rfl (by decide) rfl (congrArg not hb277) rfl (by decide) ER.sb fun a F => ?_
                  refine d_qn F rfl rfl rfl (by decide) rfl (congrArg not hb277) rfl (by decide) ER.sb fun a F => ?_
                  refine d_qn F rfl rfl rfl (by decide) rfl (congrArg not hb277) rfl (by decide) ER.sb fun a F => ?_
                  refine d_e ?_
                  refine o_no F rfl rfl rfl (by decide) rfl (congrArg not hb277) rfl (by decide) fun a F => ?_
                  refine ⟨fun _ => ER.sb, ?_⟩
                  refine d_qn F rfl rfl rfl (by decide) rfl (congrArg not hb277) rfl (by decide) ER.sb fun a F => ?_
                  refine d_qy F rfl rfl rfl (by decide) rfl (decide_eq_false hb285) rfl (by decide) (fun wq hS => r_pick_f F rfl (congrArg not hb277) rfl) ER.sb fun a F => ?_
                  refine d_q F rfl rfl rfl (by decide) (fun wq hS => r_pick_f F rfl (decide_eq_false hb285) rfl) ER.sb fun a F => ?_
                  refine d_nil ?_
                  exact J292 c278 w279 a false (F.sub ⟨rfl, rfl, rfl, rfl, rfl, rfl, rfl, rfl, rfl, rfl, rfl, rfl, rfl, trivial⟩) E B h90 h6 h10 h266 h212 H
            · have H := (if_neg hb283).symm.trans H
              refine d_qn F rfl rfl rfl (by decide) rfl (congrArg not (decide_eq_false hb283)) rfl (by decide) ER.sb fun a F => ?_
              refine d_qn F rfl rfl rfl (by decide) rfl (congrArg not (decide_eq_false hb283)) rfl (by decide) ER.sb fun a F => ?_
              refine d_qn F rfl rfl rfl (by decide) rfl (congrArg not (decide_eq_false hb283)) rfl (by decide) ER.sb fun a F => ?_
              refine d_qy F rfl rfl rfl (by decide) rfl hb277 rfl (by decide) (fun wq hS => r_pick_t F rfl (congrArg not (decide_eq_false hb283)) rfl) ER.sb fun a F => ?_
              refine d_qy F rfl rfl rfl (by decide) rfl hb277 rfl (by decide) (fun wq hS => r_move F rfl) ER.sb fun a F => ?_
              refine d_qn F rfl rfl rfl (by decide) rfl rfl rfl (by decide) ER.sb fun a F => ?_
              refine d_qn F rfl rfl rfl (by decide) rfl rfl rfl (by decide) ER.sb fun a F => ?_
              refine d_qn F rfl rfl rfl (by decide) rfl rfl rfl (by decide) ER.sb fun a F => ?_
              refine d_qn F rfl rfl rfl (by decide) rfl rfl rfl (by decide) ER.sb fun a F => ?_
              refine d_qy F rfl rfl rfl (by decide) rfl hb277 rfl (by decide) (fun wq hS => r_pick_t F rfl rfl rfl) ER.sb fun a F => ?_
              refine d_q F rfl rfl rfl (by decide) (fun wq hS => r_pick_t F rfl hb277 rfl) ER.sb fun a F => ?_
              refine d_q F rfl rfl rfl (by decide) (fun wq hS => r_move F rfl) ER.sb fun a F => ?_
              refine d_qn F rfl rfl rfl (by decide) rfl rfl rfl (by decide) ER.sb fun a F => ?_
              refine d_qn F rfl rfl rfl (by decide) rfl rfl rfl (by decide) ER.sb fun a F => ?_
              refine d_qn F rfl rfl rfl (by decide) rfl rfl rfl (by decide) ER.sb fun a F => ?_
              refine d_qnu F rfl rfl rfl (by decide) rfl rfl (by decide) ER.sb fun a F => ?_
              refine d_qnu F rfl rfl rfl (by decide) rfl rfl (by decide) ER.sb fun a F => ?_
              refine d_qnu F rfl rfl rfl (by decide) rfl rfl (by decide) ER.sb fun a F => ?_
              refine d_qnu F rfl rfl rfl (by decide) rfl rfl (by decide) ER.sb fun a F => ?_
              refine d_e ?_
              refine o_nu F rfl rfl rfl (by decide) rfl rfl (by decide) fun a F => ?_
              refine ⟨fun _ => ER.sb, ?_⟩
              refine d_qnu F rfl rfl rfl (by decide) rfl rfl (by decide) ER.sb fun a F => ?_
              refine d_qn F rfl rfl rfl (by decide) rfl rfl rfl (by decide) ER.sb fun a F => ?_
              refine d_q F rfl rfl rfl (by decide) (fun wq hS => r_pick_t F rfl rfl rfl) ER.sb fun a F => ?_
              refine d_nil ?_
              exact J292 c278 w279 a true (F.sub ⟨rfl, rfl, rfl, rfl, rfl, rfl, rfl, rfl, rfl, rfl, rfl, rfl, rfl, trivial⟩) E B h90 h6 h10 h266 h212 H
          · have H := (if_neg hb277).symm.trans H
            refine d_qn F rfl rfl rfl (by decide) rfl (bfalse hb277) rfl (by decide) ER.sb fun a F => ?_
            refine d_qn F rfl rfl rfl (by decide) rfl (bfalse hb277) rfl (by decide) ER.sb fun a F => ?_
            refine d_qn F rfl rfl rfl (by decide) rfl (bfalse hb277) rfl (by decide) ER.sb fun a F => ?_
            refine d_qn F rfl rfl rfl (by decide) rfl (bfalse hb277) rfl (by decide) ER.sb fun a F => ?_
            refine d_qn F rfl rfl rfl (by decide) rfl (bfalse hb277) rfl (by decide) ER.sb fun a F => ?_
            refine d_e ?_
            refine o_no F rfl rfl rfl (by decide) rfl (bfalse hb277) rfl (by decide) fun a F => ?_
            refine ⟨fun _ => ER.sb, ?_⟩
            refine d_qn F rfl rfl rfl (by decide) rfl (bfalse hb277) rfl (by decide) ER.sb fun a F => ?_
            refine d_qn F rfl rfl rfl (by decide) rfl (bfalse hb277) rfl (by decide) ER.sb fun a F => ?_
            refine d_qnu F rfl rfl rfl (by decide) rfl rfl (by decide) ER.sb fun a F => ?_
            refine d_qnu F rfl rfl rfl (by decide) rfl rfl (by decide) ER.sb fun a F => ?_
            refine d_qnu F rfl rfl rfl (by decide) rfl rfl (by decide) ER.sb fun a F => ?_
            refine d_qn F rfl rfl rfl (by decide) rfl (bfalse hb277) rfl (by decide) ER.sb fun a F => ?_
            refine d_qn F rfl rfl rfl (by decide) rfl (bfalse hb277) rfl (by decide) ER.sb fun a F => ?_
            refine d_qnu F rfl rfl rfl (by decide) rfl rfl (by decide) ER.sb fun a F => ?_
            refine d_qnu F rfl rfl rfl (by decide) rfl rfl (by decide) ER.sb fun a F => ?_
            refine d_qnu F rfl rfl rfl (by decide) rfl rfl (by decide) ER.sb fun a F => ?_
            refine d_qnu F rfl rfl rfl (by decide) rfl rfl (by decide) ER.sb fun a F => ?_
            refine d_qn F rfl rfl rfl (by decide) rfl (bfalse hb277) rfl (by decide) ER.sb fun a F => ?_
            refine d_q F rfl rfl rfl (by decide) (fun wq hS => r_pick_f F rfl (bfalse hb277) rfl) ER.sb fun a F => ?_
            refine d_q F rfl rfl rfl (by decide) (fun wq hS => r_move F rfl) ER.sb fun a F => ?_
            refine d_qy F rfl rfl rfl (by decide) rfl rfl rfl (by decide) (fun wq hS => r_move F rfl) ER.sb fun a F => ?_
            refine d_qy F rfl rfl rfl (by decide) rfl rfl rfl (by decide) (fun wq hS => r_not F rfl) ER.sb fun a F => ?_
            refine d_qy F rfl rfl rfl (by decide) rfl rfl rfl (by decide) (fun wq hS => r_move F rfl) ER.sb fun a F => ?_
            refine d_qy F rfl rfl rfl (by decide) rfl (congrArg not (bfalse hb277)) rfl (by decide) (fun wq hS => r_move F rfl) ER.sb fun a F => ?_
            refine d_qy F rfl rfl rfl (by decide) rfl (congrArg not (bfalse hb277)) rfl (by decide) (fun wq hS => r_fieldAddr F rfl ff_40_2) ER.sb fun a F => ?_
            refine d_qy F rfl rfl rfl (by decide) rfl (congrArg not (bfalse hb277)) rfl (by decide) (fun wq hS => r_load F rfl ag_3 (AT.cell (AT.sb zh90 hS (fun q => q.elim)) rfl)) ER.sb fun a F => ?_
            refine d_qy F rfl rfl rfl (by decide) rfl (congrArg not (bfalse hb277)) rfl (by decide) (fun wq hS => r_move F rfl) ER.sb fun a F => ?_
            refine d_e ?_
            obtain ⟨t168, q169, H⟩ := bind_some H
            refine o_call F rfl (wanted_yes F rfl rfl (by decide) rfl (congrArg not (bfalse hb277))) rfl (by decide) (r_call F Try.func14 rfl (by kernel_rfl) rfl) (route_Route_Where.calls (m := m + 3) (by omega) B h266 (by omega) _ q169) ?_
            rintro e w287 ⟨c286, rfl, E288, B289⟩
            refine ⟨_, rfl, fun a F => ?_⟩
            have B := B289
            have ER := ER.trans E288 (fun x q => q.elim)
            have h90 := AT.ev h90 E288 (fun q => q.elim)
            have h6 := SL.ev h6 E288 (fun q => q.elim) (fun q => q.elim)
            have h10 := SL.ev h10 E288 (fun q => q.elim) (fun q => q.elim)
            have h212 := SL.ev h212 E288 (fun q => q.elim) (fun q => q.elim)
            have h266 := RU.ev h266 E288 (fun q => q.elim) (fun q => q.elim)
            have E := E.trans E288 (fun x q => q.elim)
            refine ⟨fun _ => ER.sb, ?_⟩
            refine d_qy F rfl rfl rfl (by decide) rfl (congrArg not (bfalse hb277)) rfl (by decide) (fun wq hS => r_neq F rfl rfl) ER.sb fun a F => ?_
            refine d_qy F rfl rfl rfl (by decide) rfl rfl rfl (by decide) (fun wq hS => r_pick_t F rfl (congrArg not (bfalse hb277)) rfl) ER.sb fun a F => ?_
            refine d_q F rfl rfl rfl (by decide) (fun wq hS => r_pick_f F rfl rfl rfl) ER.sb fun a F => ?_
            refine d_nil ?_
            exact J292 c286 w287 a (!decide (t168 = t97)) (F.sub ⟨rfl, rfl, rfl, rfl, rfl, rfl, rfl, rfl, rfl, rfl, rfl, rfl, rfl, trivial⟩) E B h90 h6 h10 h266 h212 H
        refine wp_seq_k fun K230 hK230 => ?_
        refine reg ?_
        refine q_val F rfl rfl (by decide) (r_fieldAddr F rfl ff_40_1) fun a F => ?_
        refine q_val F rfl rfl (by decide) (r_load F rfl ag_3 (AT.cell h90 rfl)) fun a F => ?_
        refine nil ?_
        refine hK230 _ _ ?_
        refine wp_block ?_
        refine wp_seq_k fun K231 hK231 => ?_
        refine reg ?_
        refine q_val F rfl rfl (by decide) (r_eql F rfl rfl) fun a F => ?_
        refine q_val F rfl rfl (by decide) (r_assign F rfl) fun a F => ?_
        refine nil ?_
        refine hK231 _ _ ?_
        by_cases hb232 : ((rd a3 i188).Kind) = 0
        · have H := (if_pos hb232).symm.trans H
          refine wp_cond_true ((F.ev rfl).trans (congrArg Value.bool (decide_eq_true hb232))) ?_
          refine reg ?_
          refine q_val F rfl rfl (by decide) (r_move F rfl) fun a F => ?_
          refine q_val F rfl rfl (by decide) (r_fieldAddr F rfl ff_40_2) fun a F => ?_
          refine q_val F rfl rfl (by decide) (r_load F rfl ag_3 (AT.cell h90 rfl)) fun a F => ?_
          refine q_val F rfl rfl (by decide) (r_fieldAddr F rfl ff_40_3) fun a F => ?_
          refine q_val F rfl rfl (by decide) (r_load F rfl ag_3 (AT.cell h90 rfl)) fun a F => ?_
          obtain ⟨t109, q110, H⟩ := bind_some H
          refine q_call F rfl rfl (by decide) (r_call F Try.func12 rfl (by kernel_rfl) rfl) (route_Route_Fine.calls (m := m + 3) (by omega) B h184 (by omega) _ q110) ?_
          rintro e w234 ⟨c233, rfl, E235, B236, h237⟩
          refine ⟨_, rfl, fun a F => ?_⟩
          have B := B236
          have h6 := SL.ev h6 E235 (by show ¬ (0 = m + 1); omega) (by show ¬ (0 = m + 1); omega)
          have h10 := SL.ev h10 E235 (by show ¬ (0 = m + 1); omega) (by show ¬ (0 = m + 1); omega)
          have h212 := SL.ev h212 E235 (by show ¬ (0 = m + 1); omega) (by show ¬ (0 = m + 1); omega)
          have h208 := AT.ev h208 E235 (by show ¬ (0 = m + 1); omega)
          have h90 := AT.ev h90 E235 (by show ¬ (m + 2 = m + 1); omega)
          have E := E.trans E235 (fun x q => by replace q : x = m + 1 := q; show False ∨ m ≤ x; omega)
          refine q_val F rfl rfl (by decide) (r_assign F rfl) fun a F => ?_
          refine nil ?_
          exact J270 c233 w234 a t109.2 i187 t109.1 (F.sub ⟨rfl, rfl, rfl, rfl, rfl, rfl, rfl, rfl, rfl, rfl, rfl, rfl, rfl, trivial⟩) E B h90 h6 h10 h212 h237 H
        · have H := (if_neg hb232).symm.trans H
          refine wp_cond_false ((F.ev rfl).trans (congrArg Value.bool (decide_eq_false hb232))) ?_
          refine wp_seq_k fun K239 hK239 => ?_
          refine reg ?_
          refine q_val F rfl rfl (by decide) (r_eql F rfl rfl) fun a F => ?_
          refine q_val F rfl rfl (by decide) (r_assign F rfl) fun a F => ?_
          refine nil ?_
          refine hK239 _ _ ?_
          by_cases hb240 : ((rd a3 i188).Kind) = 1
          · have H := (if_pos hb240).symm.trans H
            refine wp_cond_true ((F.ev rfl).trans (congrArg Value.bool (decide_eq_true hb240))) ?_
            refine wp_seq_k fun K241 hK241 => ?_
            refine reg ?_
            refine q_val F rfl rfl (by decide) (r_move F rfl) fun a F => ?_
            refine q_val F rfl rfl (by decide) (r_fieldAddr F rfl ff_40_2) fun a F => ?_
            refine q_val F rfl rfl (by decide) (r_load F rfl ag_3 (AT.cell h90 rfl)) fun a F => ?_
            refine q_val F rfl rfl (by decide) (r_fieldAddr F rfl ff_40_3) fun a F => ?_
            refine q_val F rfl rfl (by decide) (r_load F rfl ag_3 (AT.cell h90 rfl)) fun a F => ?_
            obtain ⟨t120, q121, H⟩ := bind_some H
            refine q_call F rfl rfl (by decide) (r_call F Try.func13 rfl (by kernel_rfl) rfl) (route_Route_Hint.calls (m := m + 3) (by omega) B h184 (by omega) _ q121) ?_
            rintro e w243 ⟨c242, rfl, E244, B245, h246⟩
            refine ⟨_, rfl, fun a F => ?_⟩
            have B := B245
            have h6 := SL.ev h6 E244 (by show ¬ (0 = m + 1); omega) (by show ¬ (0 = m + 1); omega)
            have h10 := SL.ev h10 E244 (by show ¬ (0 = m + 1); omega) (by show ¬ (0 = m + 1); omega)
            have h212 := SL.ev h212 E244 (by show ¬ (0 = m + 1); omega) (by show ¬ (0 = m + 1); omega)
            have h208 := AT.ev h208 E244 (by show ¬ (0 = m + 1); omega)
            have h90 := AT.ev h90 E244 (by show ¬ (m + 2 = m + 1); omega)
            have E := E.trans E244 (fun x q => by replace q : x = m + 1 := q; show False ∨ m ≤ x; omega)
            refine q_val F rfl rfl (by decide) (r_assign F rfl) fun a F => ?_
            refine nil ?_
            refine hK241 _ _ ?_
            refine wp_seq_k fun K248 hK248 => ?_
            have J252 : ∀ (c253 : Nat → Nat) (w254 : World) (a : Act) (i251 : Int), Fr a 226 [(0, .int .i64 a1), (1, .int .i64 a2), (2, .slice A4 a3.length C5), (3, .slice A8 a7.length C9), (4, .int .i64 a11), (11, .pointer p31), (13, .int .i64 t46), (14, .bool b186), (15, .int .i64 i251), (16, .int .i64 i188), (17, .pointer (some qa88)), (18, .int .i64 t97), (19, .bool t120.1)] → Ev (fun x => False ∨ m ≤ x) c0 w0 c253 w254 → CB (m + 3) c253 w254 → AT true (m + 2) c253 w254 qa88 [.int .i64 ((rd a3 i188).Who), .int .i64 ((rd a3 i188).Kind), .int .i64 ((rd a3 i188).Shard), .int .i64 ((rd a3 i188).Server), .slice A210 ((rd a3 i188).Key).length C211] → SL false K_haulagelaw23_Op 0 0 c253 w254 A4 C5 a3 → SL false (Kslice (Kint .u8)) 0 0 c253 w254 A8 C9 a7 → RU (m + 1) c253 w254 p31 t120.2 → SL false (Kint .u8) 0 0 c253 w254 A210 C211 ((rd a3 i188).Key) → haulagelaw23_RouteBooks.j5 a1 a3 a11 t97 t120 b186 i188 i251 = some ctl194 → K248 a w254 := by
              intro c253 w254 a i251 F E B h90 h6 h10 h246 h212 H
              unfold haulagelaw23_RouteBooks.j5 at H
              refine hK248 _ _ ?_
              refine wp_seq_k fun K255 hK255 => ?_
              have J260 : ∀ (c261 : Nat → Nat) (w262 : World) (a : Act) (b259 : Bool), Fr a 226 [(0, .int .i64 a1), (1, .int .i64 a2), (2, .slice A4 a3.length C5), (3, .slice A8 a7.length C9), (4, .int .i64 a11), (11, .pointer p31), (13, .int .i64 t46), (14, .bool b186), (15, .int .i64 i251), (16, .int .i64 i188), (17, .pointer (some qa88)), (18, .int .i64 t97), (19, .bool t120.1), (100, .bool b259)] → Ev (fun x => False ∨ m ≤ x) c0 w0 c261 w262 → CB (m + 3) c261 w262 → AT true (m + 2) c261 w262 qa88 [.int .i64 ((rd a3 i188).Who), .int .i64 ((rd a3 i188).Kind), .int .i64 ((rd a3 i188).Shard), .int .i64 ((rd a3 i188).Server), .slice A210 ((rd a3 i188).Key).length C211] → SL false K_haulagelaw23_Op 0 0 c261 w262 A4 C5 a3 → SL false (Kslice (Kint .u8)) 0 0 c261 w262 A8 C9 a7 → RU (m + 1) c261 w262 p31 t120.2 → SL false (Kint .u8) 0 0 c261 w262 A210 C211 ((rd a3 i188).Key) → haulagelaw23_RouteBooks.j6 a1 a3 a11 t97 t120 b186 i188 i251 b259 = some ctl194 → K255 a w262 := by
                intro c261 w262 a b259 F E B h90 h6 h10 h246 h212 H
                unfold haulagelaw23_RouteBooks.j6 at H
                refine hK255 _ _ ?_
                by_cases hb263 : b259 = true
                · have H := (if_pos hb263).symm.trans H
                  refine wp_cond_true ((F.ev rfl).trans (congrArg Value.bool hb263)) ?_
                  refine wp_seq_k fun K264 hK264 => ?_
                  refine reg ?_
                  refine q_val F rfl rfl (by decide) (r_assign F rfl) fun a F => ?_
                  refine nil ?_
                  refine hK264 _ _ ?_
                  refine wp_ret ?_
                  refine inbR ?_
                  refine thenR ?_
                  refine inbR ?_
                  refine thenR ?_
                  refine thenR ?_
                  refine inbR ?_
                  refine thenR ?_
                  have hx_ := HD193 _ (Option.some.inj H).symm
                  have H := HR197
                  rw [← hx_] at H
                  replace H : some false = some r := H
                  have H := Option.some.inj H
                  subst H
                  refine out1 F rfl rfl ?_
                  exact ⟨fun b_ => (fun x_ => if x_ < m then x_ else 0) (c261 b_), rfl, E.leave B0 (fun x_ => if x_ < m then x_ else 0) (by intro x_ hx_; show (if x_ < m then x_ else 0) = x_; ((repeat' split) <;> omega)), (fun b_ hb_ => by show (if (c261 b_) < m then (c261 b_) else 0) < m; ((repeat' split) <;> omega))⟩
                · have H := (if_neg hb263).symm.trans H
                  refine wp_cond_false ((F.ev rfl).trans (congrArg Value.bool (bfalse hb263))) ?_
                  refine wp_skip ?_
                  exact J270 c261 w262 a t120.2 i251 t120.1 (F.sub ⟨rfl, rfl, rfl, rfl, rfl, rfl, rfl, rfl, rfl, rfl, rfl, rfl, rfl, trivial⟩) E B h90 h6 h10 h212 h246 H
              refine reg ?_
              refine q_val F rfl rfl (by decide) (r_move F rfl) fun a F => ?_
              refine q_val F rfl rfl (by decide) (r_move F rfl) fun a F => ?_
              refine q_val F rfl rfl (by decide) (r_fieldAddr F rfl ff_40_3) fun a F => ?_
              refine q_val F rfl rfl (by decide) (r_load F rfl ag_3 (AT.cell h90 rfl)) fun a F => ?_
              refine q_val F rfl rfl (by decide) (r_eql F rfl rfl) fun a F => ?_
              refine q_val F rfl rfl (by decide) (r_beql F Try.underlying4 rfl rfl) fun a F => ?_
              refine q_val F rfl rfl (by decide) (r_move F rfl) fun a F => ?_
              by_cases hb256 : (t120.1 == (decide (t97 = ((rd a3 i188).Server)))) = true
              · have H := (if_pos hb256).symm.trans H
                refine q_yes F rfl (by decide) rfl hb256 ?_
                refine q_val F rfl rfl (by decide) (r_move F rfl) fun a F => ?_
                refine q_yes F rfl (by decide) rfl hb256 ?_
                refine q_val F rfl rfl (by decide) (r_geq F rfl rfl) fun a F => ?_
                refine q_val F rfl rfl (by decide) (r_pick_t F rfl hb256 rfl) fun a F => ?_
                refine q_val F rfl rfl (by decide) (r_move F rfl) fun a F => ?_
                by_cases hb257 : 0 ≤ t97
                · have H := (if_pos hb257).symm.trans H
                  refine q_yes F rfl (by decide) rfl (decide_eq_true hb257) ?_
                  refine q_val F rfl rfl (by decide) (r_fieldAddr F rfl ff_40_3) fun a F => ?_
                  refine q_yes F rfl (by decide) rfl (decide_eq_true hb257) ?_
                  refine q_val F rfl rfl (by decide) (r_load F rfl ag_3 (AT.cell h90 rfl)) fun a F => ?_
                  refine q_yes F rfl (by decide) rfl (decide_eq_true hb257) ?_
                  refine q_val F rfl rfl (by decide) (r_geq F rfl rfl) fun a F => ?_
                  refine q_val F rfl rfl (by decide) (r_pick_t F rfl (decide_eq_true hb257) rfl) fun a F => ?_
                  refine q_val F rfl rfl (by decide) (r_move F rfl) fun a F => ?_
                  by_cases hb258 : 0 ≤ ((rd a3 i188).Server)
                  · have H := (if_pos hb258).symm.trans H
                    refine q_yes F rfl (by decide) rfl (decide_eq_true hb258) ?_
                    refine q_val F rfl rfl (by decide) (r_fieldAddr F rfl ff_40_3) fun a F => ?_
                    refine q_yes F rfl (by decide) rfl (decide_eq_true hb258) ?_
                    refine q_val F rfl rfl (by decide) (r_load F rfl ag_3 (AT.cell h90 rfl)) fun a F => ?_
                    refine q_yes F rfl (by decide) rfl (decide_eq_true hb258) ?_
                    refine q_val F rfl rfl (by decide) (r_move F rfl) fun a F => ?_
                    refine q_yes F rfl (by decide) rfl (decide_eq_true hb258) ?_
                    refine q_val F rfl rfl (by decide) (r_lss F rfl rfl) fun a F => ?_
                    refine q_val F rfl rfl (by decide) (r_pick_t F rfl (decide_eq_true hb258) rfl) fun a F => ?_
                    refine nil ?_
                    exact J260 c253 w254 a (decide (((rd a3 i188).Server) < a1)) (F.sub ⟨rfl, rfl, rfl, rfl, rfl, rfl, rfl, rfl, rfl, rfl, rfl, rfl, rfl, rfl, trivial⟩) E B h90 h6 h10 h246 h212 H
                  · have H := (if_neg hb258).symm.trans H
                    refine q_no F rfl (by decide) rfl (decide_eq_false hb258) (by decide) fun a F => ?_
                    refine q_no F rfl (by decide) rfl (decide_eq_false hb258) (by decide) fun a F => ?_
                    refine q_no F rfl (by decide) rfl (decide_eq_false hb258) (by decide) fun a F => ?_
                    refine q_no F rfl (by decide) rfl (decide_eq_false hb258) (by decide) fun a F => ?_
                    refine q_val F rfl rfl (by decide) (r_pick_f F rfl (decide_eq_false hb258) rfl) fun a F => ?_
                    refine nil ?_
                    exact J260 c253 w254 a false (F.sub ⟨rfl, rfl, rfl, rfl, rfl, rfl, rfl, rfl, rfl, rfl, rfl, rfl, rfl, rfl, trivial⟩) E B h90 h6 h10 h246 h212 H
                · have H := (if_neg hb257).symm.trans H
                  refine q_no F rfl (by decide) rfl (decide_eq_false hb257) (by decide) fun a F => ?_
                  refine q_no F rfl (by decide) rfl (decide_eq_false hb257) (by decide) fun a F => ?_
                  refine q_no F rfl (by decide) rfl (decide_eq_false hb257) (by decide) fun a F => ?_
                  refine q_val F rfl rfl (by decide) (r_pick_f F rfl (decide_eq_false hb257) rfl) fun a F => ?_
                  refine q_val F rfl rfl (by decide) (r_move F rfl) fun a F => ?_
                  refine q_no F rfl (by decide) rfl rfl (by decide) fun a F => ?_
                  refine q_no F rfl (by decide) rfl rfl (by decide) fun a F => ?_
                  refine q_no F rfl (by decide) rfl rfl (by decide) fun a F => ?_
                  refine q_no F rfl (by decide) rfl rfl (by decide) fun a F => ?_
                  refine q_val F rfl rfl (by decide) (r_pick_f F rfl rfl rfl) fun a F => ?_
                  refine nil ?_
                  exact J260 c253 w254 a false (F.sub ⟨rfl, rfl, rfl, rfl, rfl, rfl, rfl, rfl, rfl, rfl, rfl, rfl, rfl, rfl, trivial⟩) E B h90 h6 h10 h246 h212 H
              · have H := (if_neg hb256).symm.trans H
                refine q_no F rfl (by decide) rfl (bfalse hb256) (by decide) fun a F => ?_
                refine q_no F rfl (by decide) rfl (bfalse hb256) (by decide) fun a F => ?_
                refine q_val F rfl rfl (by decide) (r_pick_f F rfl (bfalse hb256) rfl) fun a F => ?_
                refine q_val F rfl rfl (by decide) (r_move F rfl) fun a F => ?_
                refine q_no F rfl (by decide) rfl rfl (by decide) fun a F => ?_
                refine q_no F rfl (by decide) rfl rfl (by decide) fun a F => ?_
                refine q_no F rfl (by decide) rfl rfl (by decide) fun a F => ?_
                refine q_val F rfl rfl (by decide) (r_pick_f F rfl rfl rfl) fun a F => ?_
                refine q_val F rfl rfl (by decide) (r_move F rfl) fun a F => ?_
                refine q_no F rfl (by decide) rfl rfl (by decide) fun a F => ?_
                refine q_no F rfl (by decide) rfl rfl (by decide) fun a F => ?_
                refine q_no F rfl (by decide) rfl rfl (by decide) fun a F => ?_
                refine q_no F rfl (by decide) rfl rfl (by decide) fun a F => ?_
                refine q_val F rfl rfl (by decide) (r_pick_f F rfl rfl rfl) fun a F => ?_
                refine nil ?_
                exact J260 c253 w254 a false (F.sub ⟨rfl, rfl, rfl, rfl, rfl, rfl, rfl, rfl, rfl, rfl, rfl, rfl, rfl, rfl, trivial⟩) E B h90 h6 h10 h246 h212 H
            refine wp_seq_k fun K249 hK249 => ?_
            refine reg ?_
            refine q_val F rfl rfl (by decide) (r_move F rfl) fun a F => ?_
            refine nil ?_
            refine hK249 _ _ ?_
            by_cases hb250 : t120.1 = true
            · have H := (if_pos hb250).symm.trans H
              refine wp_cond_true ((F.ev rfl).trans (congrArg Value.bool hb250)) ?_
              refine reg ?_
              refine q_val F rfl rfl (by decide) (r_move F rfl) fun a F => ?_
              refine q_val F rfl rfl (by decide) (r_add F rfl rfl) fun a F => ?_
              refine q_val F rfl rfl (by decide) (r_assign F rfl) fun a F => ?_
              refine nil ?_
              exact J252 c242 w243 a (IntKind.i64.wrap (i187 + 1)) (F.sub ⟨rfl, rfl, rfl, rfl, rfl, rfl, rfl, rfl, rfl, rfl, rfl, rfl, rfl, trivial⟩) E B h90 h6 h10 h246 h212 H
            · have H := (if_neg hb250).symm.trans H
              refine wp_cond_false ((F.ev rfl).trans (congrArg Value.bool (bfalse hb250))) ?_
              refine wp_skip ?_
              exact J252 c242 w243 a i187 (F.sub ⟨rfl, rfl, rfl, rfl, rfl, rfl, rfl, rfl, rfl, rfl, rfl, rfl, rfl, trivial⟩) E B h90 h6 h10 h246 h212 H
          · have H := (if_neg hb240).symm.trans H
            refine wp_cond_false ((F.ev rfl).trans (congrArg Value.bool (decide_eq_false hb240))) ?_
            refine wp_skip ?_
            exact J270 c223 w224 a o185 i187 false (F.sub ⟨rfl, rfl, rfl, rfl, rfl, rfl, rfl, rfl, rfl, rfl, rfl, rfl, rfl, trivial⟩) E B h90 h6 h10 h212 h184 H
      · have H := (if_neg hb201).symm.trans H
        refine wp_cond_false ((F.ev rfl).trans (congrArg Value.bool (decide_eq_false hb201))) ?_
        refine wp_exit ?_
        refine thenE ?_
        refine thenE ?_
        refine inbE ?_
        have hx_ := HD193 _ (Option.some.inj H).symm
        have H := HR197
        rw [← hx_] at H
        exact J309 c189 w190 a o185 b186 i187 (F.sub ⟨rfl, rfl, rfl, rfl, rfl, rfl, rfl, rfl, trivial⟩) E B h10 h184 H
    · have H := (if_neg hb43).symm.trans H
      refine wp_cond_true ((F.ev rfl).trans (congrArg Value.bool (congrArg not (decide_eq_false hb43)))) ?_
      refine wp_seq_k fun K44 hK44 => ?_
      refine reg ?_
      refine q_val F rfl rfl (by decide) (r_move F rfl) fun a F => ?_
      refine q_val F rfl rfl (by decide) (r_peqlA F Try.underlying24 rfl rfl (RU.isNone h32)) fun a F => ?_
      refine q_val F rfl rfl (by decide) (r_assign F rfl) fun a F => ?_
      refine nil ?_
      refine hK44 _ _ ?_
      refine wp_ret ?_
      refine thenR ?_
      have H := Option.some.inj H
      subst H
      refine out1 F rfl rfl ?_
      exact ⟨fun b_ => (fun x_ => if x_ < m then x_ else 0) (c38 b_), rfl, E.leave B0 (fun x_ => if x_ < m then x_ else 0) (by intro x_ hx_; show (if x_ < m then x_ else 0) = x_; ((repeat' split) <;> omega)), (fun b_ hb_ => by show (if (c38 b_) < m then (c38 b_) else 0) < m; ((repeat' split) <;> omega))⟩
  · have H := (if_neg hb22).symm.trans H
    refine wp_cond_true ((F.ev rfl).trans (congrArg Value.bool (congrArg not (bfalse hb22)))) ?_
    refine wp_seq_k fun K23 hK23 => ?_
    refine reg ?_
    refine q_val F rfl rfl (by decide) (r_assign F rfl) fun a F => ?_
    refine nil ?_
    refine hK23 _ _ ?_
    refine wp_ret ?_
    refine thenR ?_
    have H := Option.some.inj H
    subst H
    refine out1 F rfl rfl ?_
    exact ⟨fun b_ => (fun x_ => if x_ < m then x_ else 0) (c17 b_), rfl, E.leave B0 (fun x_ => if x_ < m then x_ else 0) (by intro x_ hx_; show (if x_ < m then x_ else 0) = x_; ((repeat' split) <;> omega)), (fun b_ hb_ => by show (if (c17 b_) < m then (c17 b_) else 0) < m; ((repeat' split) <;> omega))⟩
end Go.Proofs.Ytohljkjaggcapaa.G
/-! The plain law of RouteHomes. -/
namespace Go.Proofs.Ytohljkjaggcapaa.G
open Go Go.Proofs.Ytohljkjaggcapaa.RT Go.Proofs.Ytohljkjaggcapaa.JQ Go.Proofs.Ytohljkjaggcapaa.JF
set_option linter.unusedVariables false
set_option linter.unusedSimpArgs false
/-! ### loops, numbers -/
theorem bind_eq {α β : Type} {x : Option α} {f : α → Option β} {a : α} (h : x = some a) : x.bind f = f a := by rw [h]; rfl
theorem loop_next {S X : Type} {f : S → Option (Ctl S X)} {n : Nat} {s s' : S} (h : f s = some (.next s')) : loop f (n + 1) s = loop f n s' := by
  show (f s).bind _ = _; rw [h]; rfl
theorem loop_done {S X : Type} {f : S → Option (Ctl S X)} {n : Nat} {s : S} {x : X} (h : f s = some (.done x)) : loop f (n + 1) s = some x := by
  show (f s).bind _ = _; rw [h]; rfl
theorem loop_inv {S X : Type} {f : S → Option (Ctl S X)} {I : Nat → S → Prop} {P : X → Prop} {N : Nat}
    (step : ∀ i s, i < N → I i s → (∃ s', f s = some (.next s') ∧ I (i + 1) s') ∨ (∃ x, f s = some (.done x) ∧ P x))
    (last : ∀ s, I N s → ∃ x, f s = some (.done x) ∧ P x) : ∀ (n i : Nat) (s : S) (m : Nat), I i s → i + n = N → n < m → ∃ x, loop f m s = some x ∧ P x
  | _, _, _, 0, _, _, h => absurd h (by omega)
  | 0, i, s, m + 1, hI, hN, _ => by
    obtain rfl : i = N := by omega
    obtain ⟨x, h1, h2⟩ := last s hI
    exact ⟨x, loop_done h1, h2⟩
  | n + 1, i, s, m + 1, hI, hN, hm => by
    rcases step i s (by omega) hI with ⟨s', h1, h2⟩ | ⟨x, h1, h2⟩
    · rw [loop_next h1]
      exact loop_inv step last n (i + 1) s' m h2 (by omega) (by omega)
    · exact ⟨x, loop_done h1, h2⟩
theorem wr {n : Int} (h0 : -1000000000000000000 ≤ n) (h1 : n ≤ 1000000000000000000) : IntKind.i64.wrap n = n := by rw [IntKind.wrap_i64]; omega
theorem wrS (i : Nat) (h : i < 1000000000000000) : IntKind.i64.wrap ((i : Int) + 1) = ((i + 1 : Nat) : Int) := by rw [wr (by omega) (by omega)]; omega
theorem rd_eq {α : Type} [Inhabited α] {xs : List α} {i : Nat} (h : i < xs.length) : rd xs (i : Int) = xs[i] := by
  unfold rd
  rw [Int.toNat_natCast, List.getD_eq_getElem?_getD, List.getElem?_eq_getElem h]
  rfl
def Fuel (k : Nat) : Prop := 1099511627776 ≤ k
theorem num_eq (a : Int) : haulagelaw23_num.f a = some a := rfl
theorem ints_loop (a b : List Int) (hl : a.length = b.length) : ∀ (n i m : Nat), i + n = a.length → n < m → a.length < 4000000000 →
    loop (fun (s_ : Int) => haulagelaw23_ints.b1 a b s_) m (i : Int) = some (if a.drop i = b.drop i then Sum.inl () else Sum.inr false)
  | _, _, 0, _, h, _ => absurd h (by omega)
  | 0, i, m + 1, h, _, _ => by
    refine loop_done ?_
    unfold haulagelaw23_ints.b1
    rw [if_neg (by omega), if_pos]
    rw [List.drop_of_length_le (by omega), List.drop_of_length_le (by omega)]
  | n + 1, i, m + 1, h, hm, hb => by
    have hi : i < a.length := by omega
    have hj : i < b.length := by omega
    rw [List.drop_eq_getElem_cons hi, List.drop_eq_getElem_cons hj]
    by_cases c : a[i] = b[i]
    · rw [loop_next (s' := ((i + 1 : Nat) : Int)), ints_loop a b hl n (i + 1) m (by omega) (by omega) hb]
      · simp only [c, List.cons.injEq, true_and]
      · unfold haulagelaw23_ints.b1
        rw [if_pos (by omega), if_pos (by omega), if_pos (by omega), rd_eq hi, rd_eq hj, if_pos c, wrS i (by omega)]
    · rw [if_neg (by simp only [List.cons.injEq, c, false_and, not_false_eq_true])]
      refine loop_done ?_
      unfold haulagelaw23_ints.b1
      rw [if_pos (by omega), if_pos (by omega), if_pos (by omega), rd_eq hi, rd_eq hj, if_neg c]
theorem ints_eq {k : Nat} (hk : Fuel k) (a b : List Int) (h : a.length < 4000000000 ∨ b.length < 4000000000) : haulagelaw23_ints.f k a b = some (decide (a = b)) := by
  have h24 : 1099511627776 ≤ k := hk
  unfold haulagelaw23_ints.f
  by_cases c : a.length = b.length
  · rw [if_pos (by omega), show (0 : Int) = ((0 : Nat) : Int) from rfl, bind_eq (ints_loop a b c a.length 0 k (by omega) (by omega) (by omega))]
    simp only [List.drop_zero]
    by_cases e : a = b
    · simp [e, haulagelaw23_ints.j2]
    · simp [e]
  · rw [if_neg (by omega), decide_eq_false (fun e => c (by rw [e]))]
/-! ### routes -/
theorem new_eq {a c : Int} (a0 : 1 ≤ a) (a1 : a ≤ 8) (c0 : 1 ≤ c) (c1 : c ≤ 64) : route_New.f a c = some (some ⟨RS.new a c, 0⟩, 0) := by
  unfold route_New.f; rw [if_neg (by omega)]
theorem new_no {a c : Int} (h : a < 1 ∨ 8 < a ∨ c < 1 ∨ 64 < c) : route_New.f a c = some (none, 2) := by
  unfold route_New.f; rw [if_pos h]
theorem where_eq (r : Rou) (s : Int) : route_Route_Where.f (some r) s = some (r.s.where_ s) := rfl
theorem shard_eq (r : Rou) (l : List Int) : route_Route_Shard.f (some r) l = some (jumpV (fnvV [l]) r.s.shards) := rfl
theorem fine_eq {r : Rou} {s v : Int} (h : r.s.is s v = true) (hn : r.n < 4611686018427387904) : route_Route_Fine.f (some r) s v = some (true, some ⟨r.s.fine s v, r.n + 1⟩) := by
  unfold route_Route_Fine.f; simp only [Option.bind_some]; rw [if_pos h, if_pos hn]
theorem hint_eq {r : Rou} {s v : Int} (h : r.s.is s v = true) (hv : r.s.where_ s ≠ v) (hn : r.n < 4611686018427387904) : route_Route_Hint.f (some r) s v = some (true, some ⟨r.s.hint s v, r.n + 1⟩) := by
  unfold route_Route_Hint.f; simp only [Option.bind_some]; rw [if_pos h, if_neg hv, if_pos hn]
theorem hint_eq_same {r : Rou} {s v : Int} (h : r.s.is s v = true) (hv : r.s.where_ s = v) : route_Route_Hint.f (some r) s v = some (false, some ⟨r.s.hints1, r.n⟩) := by
  unfold route_Route_Hint.f; simp only [Option.bind_some]; rw [if_pos h, if_pos hv]
theorem known_true {k : Nat} (hk : Fuel k) : haulagelaw23_known.f k = some true := by
  unfold haulagelaw23_known.f
  rw [bind_eq (new_eq (by omega) (by omega) (by omega) (by omega)), bind_eq (num_eq _), if_pos rfl]
  unfold haulagelaw23_known.j1
  rw [if_neg (by simp), bind_eq (fine_eq k1_is (by decide))]
  refine Eq.trans (bind_eq (hint_eq_same (r := ⟨K1, 0 + 1⟩) k2_is k2_at)) ?_
  refine Eq.trans (bind_eq (hint_eq (r := ⟨K1.hints1, 0 + 1⟩) k3_is k3_at (by decide))) ?_
  rw [if_pos rfl, if_neg (by simp), if_pos rfl]
  refine Eq.trans (bind_eq (where_eq _ _)) ?_
  refine Eq.trans (if_pos k4_at) ?_
  have et : route_Route_Trail.f (some ⟨K1.hints1.hint 0 1, 0 + 1 + 1⟩) 0 = some [2] := by
    unfold route_Route_Trail.f
    simp only [Option.bind_some]
    rw [if_pos (by omega)]
    exact congrArg some k4_tr
  refine Eq.trans (bind_eq et) ?_
  rw [bind_eq (ints_eq hk _ _ (by simp))]
  rfl
theorem where_new {a c i : Int} (a0 : 1 ≤ a) (i0 : 0 ≤ i) (i1 : i < c) : (RS.new a c).where_ i = homeV i a := by
  unfold RS.where_
  rw [if_pos (by unfold RS.is RS.new; simp; omega)]
  rfl
theorem home_more (i : Int) {a : Int} (a0 : 1 ≤ a) (a1 : a ≤ 8) : homeV i (a + 1) = homeV i a ∨ homeV i (a + 1) = a := jumpV_more _ a0 (by omega)
section
variable {k : Nat} {a1 a2 : Int} {a3 : List (List Int)}
theorem homes_loop1 (hk : Fuel k) (s0 : 1 ≤ a1) (s1 : a1 ≤ 8) (h0 : 1 ≤ a2) (h1 : a2 ≤ 64) (t : Option Rou × Int) (ht : t = if a1 < 8 then (some ⟨RS.new (a1 + 1) a2, 0⟩, 0) else (none, 2)) :
    loop (fun (s_ : Int) => haulagelaw23_RouteHomes.b3 a1 a2 (some ⟨RS.new a1 a2, 0⟩, 0) t s_) k 0 = some (.inl ()) := by
  have h24 : 1099511627776 ≤ k := hk
  by_cases c : a1 < 8
  · rw [if_pos c] at ht; subst ht
    obtain ⟨x, hx, rfl⟩ := loop_inv (f := fun (s_ : Int) => haulagelaw23_RouteHomes.b3 a1 a2 (some ⟨RS.new a1 a2, 0⟩, 0) (some ⟨RS.new (a1 + 1) a2, 0⟩, 0) s_) (I := fun i s => s = (i : Int)) (P := fun x => x = .inl ()) (N := a2.toNat) (by
      rintro i s hi rfl
      refine .inl ⟨((i + 1 : Nat) : Int), ?_, rfl⟩
      unfold haulagelaw23_RouteHomes.b3
      rw [if_pos (by omega), bind_eq (num_eq _)]
      unfold haulagelaw23_RouteHomes.j1
      rw [if_pos (by simp), bind_eq (where_eq _ _), bind_eq (where_eq _ _)]
      simp only
      rw [where_new (by omega) (by omega) (by omega), where_new (by omega) (by omega) (by omega)]
      have fin : haulagelaw23_RouteHomes.j2 (i : Int) false = some (.next ((i + 1 : Nat) : Int)) := by
        unfold haulagelaw23_RouteHomes.j2; rw [if_neg (by simp), wrS i (by omega)]
      rcases home_more (i : Int) s0 s1 with e | e
      · rw [if_pos e]; exact fin
      · by_cases q : homeV i (a1 + 1) = homeV i a1
        · rw [if_pos q]; exact fin
        · rw [if_neg q, bind_eq (where_eq _ _)]
          simp only
          rw [where_new (by omega) (by omega) (by omega), e]
          simpa using fin) (by
      rintro s rfl
      refine ⟨_, ?_, rfl⟩
      unfold haulagelaw23_RouteHomes.b3 haulagelaw23_RouteHomes.j1
      rw [if_neg (by omega), if_neg (by simp)]) a2.toNat 0 ((0 : Nat) : Int) k rfl (by omega) (by omega)
    exact hx
  · rw [if_neg c] at ht; subst ht
    obtain ⟨k, rfl⟩ : ∃ k', k = k' + 1 := ⟨k - 1, by omega⟩
    refine loop_done ?_
    unfold haulagelaw23_RouteHomes.b3 haulagelaw23_RouteHomes.j1
    rw [if_pos (by omega), bind_eq (num_eq _), if_neg (by simp)]
theorem homes_loop2 (hk : Fuel k) (s0 : 1 ≤ a1) (s1 : a1 ≤ 8) (h0 : 1 ≤ a2) (h1 : a2 ≤ 64) (t : Option Rou × Int) (ht : t = if a2 < 64 then (some ⟨RS.new a1 (a2 + 1), 0⟩, 0) else (none, 2)) :
    loop (fun (s_ : Int) => haulagelaw23_RouteHomes.b6 a2 (some ⟨RS.new a1 a2, 0⟩, 0) t s_) k 0 = some (.inl ()) := by
  have h24 : 1099511627776 ≤ k := hk
  by_cases c : a2 < 64
  · rw [if_pos c] at ht; subst ht
    obtain ⟨x, hx, rfl⟩ := loop_inv (f := fun (s_ : Int) => haulagelaw23_RouteHomes.b6 a2 (some ⟨RS.new a1 a2, 0⟩, 0) (some ⟨RS.new a1 (a2 + 1), 0⟩, 0) s_) (I := fun i s => s = (i : Int)) (P := fun x => x = .inl ()) (N := a2.toNat) (by
      rintro i s hi rfl
      refine .inl ⟨((i + 1 : Nat) : Int), ?_, rfl⟩
      unfold haulagelaw23_RouteHomes.b6
      rw [if_pos (by omega), bind_eq (num_eq _)]
      unfold haulagelaw23_RouteHomes.j5
      rw [if_pos (by simp), bind_eq (where_eq _ _), bind_eq (where_eq _ _)]
      simp only
      rw [where_new (by omega) (by omega) (by omega), where_new (by omega) (by omega) (by omega), if_pos rfl, wrS i (by omega)]) (by
      rintro s rfl
      refine ⟨_, ?_, rfl⟩
      unfold haulagelaw23_RouteHomes.b6 haulagelaw23_RouteHomes.j5
      rw [if_neg (by omega), if_neg (by simp)]) a2.toNat 0 ((0 : Nat) : Int) k rfl (by omega) (by omega)
    exact hx
  · rw [if_neg c] at ht; subst ht
    obtain ⟨k, rfl⟩ : ∃ k', k = k' + 1 := ⟨k - 1, by omega⟩
    refine loop_done ?_
    unfold haulagelaw23_RouteHomes.b6 haulagelaw23_RouteHomes.j5
    rw [if_pos (by omega), bind_eq (num_eq _), if_neg (by simp)]
theorem homes_loop3 (hk : Fuel k) (s0 : 1 ≤ a1) (s1 : a1 ≤ 8) (h0 : 1 ≤ a2) (h1 : a2 ≤ 64) (hl : a3.length < 1000000000) (t : Option Rou × Int) (ht : t = if a2 < 64 then (some ⟨RS.new a1 (a2 + 1), 0⟩, 0) else (none, 2)) :
    loop (fun (s_ : Int) => haulagelaw23_RouteHomes.b10 a2 a3 (some ⟨RS.new a1 a2, 0⟩, 0) t s_) k 0 = some (.inl ()) := by
  have h24 : 1099511627776 ≤ k := hk
  by_cases c : a2 < 64
  · rw [if_pos c] at ht; subst ht
    obtain ⟨x, hx, rfl⟩ := loop_inv (f := fun (s_ : Int) => haulagelaw23_RouteHomes.b10 a2 a3 (some ⟨RS.new a1 a2, 0⟩, 0) (some ⟨RS.new a1 (a2 + 1), 0⟩, 0) s_) (I := fun i s => s = (i : Int)) (P := fun x => x = .inl ()) (N := a3.length) (by
      rintro i s hi rfl
      refine .inl ⟨((i + 1 : Nat) : Int), ?_, rfl⟩
      unfold haulagelaw23_RouteHomes.b10
      rw [if_pos (by omega), bind_eq (num_eq _)]
      unfold haulagelaw23_RouteHomes.j8
      rw [if_pos (by simp), if_pos (by omega), if_pos (by omega), bind_eq (shard_eq _ _), bind_eq (shard_eq _ _)]
      have fin : haulagelaw23_RouteHomes.j9 (i : Int) false = some (.next ((i + 1 : Nat) : Int)) := by
        unfold haulagelaw23_RouteHomes.j9; rw [if_neg (by simp), wrS i (by omega)]
      show (if jumpV (fnvV [rd a3 i]) (a2 + 1) = jumpV (fnvV [rd a3 i]) a2 then _ else _) = _
      by_cases q : jumpV (fnvV [rd a3 i]) (a2 + 1) = jumpV (fnvV [rd a3 i]) a2
      · rw [if_pos q]; exact fin
      · rcases jumpV_more (fnvV [rd a3 i]) h0 (by omega) with e | e
        · exact absurd e q
        · rw [if_neg q, if_pos (by omega), bind_eq (shard_eq _ _)]
          show haulagelaw23_RouteHomes.j9 (i : Int) (!decide (jumpV (fnvV [rd a3 i]) (a2 + 1) = a2)) = _
          rw [e]
          simpa using fin) (by
      rintro s rfl
      refine ⟨_, ?_, rfl⟩
      unfold haulagelaw23_RouteHomes.b10 haulagelaw23_RouteHomes.j8
      rw [if_neg (by omega), if_neg (by simp)]) a3.length 0 ((0 : Nat) : Int) k rfl (by omega) (by omega)
    exact hx
  · rw [if_neg c] at ht; subst ht
    obtain ⟨k, rfl⟩ : ∃ k', k = k' + 1 := ⟨k - 1, by omega⟩
    refine loop_done ?_
    unfold haulagelaw23_RouteHomes.b10 haulagelaw23_RouteHomes.j8
    by_cases q : (0 : Int) < a3.length
    · rw [if_pos q, bind_eq (num_eq _), if_neg (by simp)]
    · rw [if_neg q, if_neg (by simp)]
theorem RouteHomes_true (hk : Fuel k) (hl : a3.length < 1000000000) : haulagelaw23_RouteHomes.f k a1 a2 a3 = some true := by
  have h24 : 1099511627776 ≤ k := hk
  unfold haulagelaw23_RouteHomes.f
  rw [bind_eq (known_true hk), if_pos rfl]
  by_cases c : a1 < 1 ∨ 8 < a1 ∨ a2 < 1 ∨ 64 < a2
  · rw [bind_eq (new_no c), bind_eq (num_eq _), if_neg (by simp)]; rfl
  · have s0 : 1 ≤ a1 := by omega
    have s1 : a1 ≤ 8 := by omega
    have h0 : 1 ≤ a2 := by omega
    have h1 : a2 ≤ 64 := by omega
    rw [bind_eq (new_eq s0 s1 h0 h1), bind_eq (num_eq _), if_pos rfl, wr (n := a1 + 1) (by omega) (by omega)]
    have e1 : route_New.f (a1 + 1) a2 = some (if a1 < 8 then (some ⟨RS.new (a1 + 1) a2, 0⟩, 0) else (none, 2)) := by
      by_cases q : a1 < 8
      · rw [if_pos q]; exact new_eq (by omega) (by omega) h0 h1
      · rw [if_neg q]; exact new_no (by omega)
    have e2 : route_New.f a1 (a2 + 1) = some (if a2 < 64 then (some ⟨RS.new a1 (a2 + 1), 0⟩, 0) else (none, 2)) := by
      by_cases q : a2 < 64
      · rw [if_pos q]; exact new_eq s0 s1 (by omega) (by omega)
      · rw [if_neg q]; exact new_no (by omega)
    rw [bind_eq e1, bind_eq (homes_loop1 hk s0 s1 h0 h1 _ rfl)]
    show haulagelaw23_RouteHomes.j4 k a1 a2 a3 _ _ = _
    unfold haulagelaw23_RouteHomes.j4
    rw [wr (n := a2 + 1) (by omega) (by omega), bind_eq e2, bind_eq (homes_loop2 hk s0 s1 h0 h1 _ rfl)]
    show haulagelaw23_RouteHomes.j7 k a1 a2 a3 _ _ _ = _
    unfold haulagelaw23_RouteHomes.j7
    rw [bind_eq (homes_loop3 hk s0 s1 h0 h1 hl _ rfl)]
    show haulagelaw23_RouteHomes.j11 a1 a2 _ _ = _
    unfold haulagelaw23_RouteHomes.j11
    rw [bind_eq (num_eq _)]
    by_cases q1 : a1 < 8
    · rw [if_pos q1]
      simp only [q1, decide_true, beq_self_eq_true, if_true]
      rw [bind_eq (num_eq _)]
      by_cases q2 : a2 < 64
      · rw [if_pos q2]; simp [q2]
      · rw [if_neg q2]; simp [q2]
    · rw [if_neg q1, if_pos (by simp; omega), bind_eq (num_eq _)]
      by_cases q2 : a2 < 64
      · rw [if_pos q2]; simp [q2]
      · rw [if_neg q2]; simp [q2]
end
end Go.Proofs.Ytohljkjaggcapaa.G
/-! The plain law of RouteBooks. -/
namespace Go.Proofs.Ytohljkjaggcapaa.G
open Go Go.Proofs.Ytohljkjaggcapaa.RT Go.Proofs.Ytohljkjaggcapaa.JQ Go.Proofs.Ytohljkjaggcapaa.JF
set_option linter.unusedVariables false
set_option linter.unusedSimpArgs false
/-! ### a route's shards -/
structure Good (a1 a2 : Int) (S : RS) : Prop where
  sv : S.servers = a1
  sh : S.shards = a2
  s0 : 1 ≤ a1
  s1 : a1 ≤ 8
  h0 : 1 ≤ a2
  h1 : a2 ≤ 64
  wf : ∀ k v, S.wh k = some v → 0 ≤ v ∧ v < a1
theorem is_iff (S : RS) (s v : Int) : S.is s v = true ↔ 0 ≤ s ∧ s < S.shards ∧ 0 ≤ v ∧ v < S.servers := by unfold RS.is; simp
section
variable {a1 a2 : Int} {S : RS}
theorem Good.where_in (h : Good a1 a2 S) {s : Int} (i0 : 0 ≤ s) (i1 : s < a2) : 0 ≤ S.where_ s ∧ S.where_ s < a1 := by
  unfold RS.where_
  have := h.s0
  rw [if_pos ((is_iff S s 0).2 (by rw [h.sv, h.sh]; omega))]
  cases e : S.wh s with
  | some v => exact h.wf s v e
  | none => simp only; rw [h.sv]; exact jumpV_bd h.s0 (by have := h.s1; omega)
theorem Good.where_out (h : Good a1 a2 S) {s : Int} (i : ¬ (0 ≤ s ∧ s < a2)) : S.where_ s = -1 := by
  unfold RS.where_
  rw [if_neg (fun q => i (by have := (is_iff S s 0).1 q; rw [h.sh] at this; exact ⟨this.1, this.2.1⟩))]
theorem where_set (h : Good a1 a2 S) {S' : RS} (es : S'.servers = S.servers) (eh : S'.shards = S.shards) {s v : Int} (hi : S.is s v = true) (ew : S'.wh = fun j => if j = s then some v else S.wh j) (t : Int) :
    S'.where_ t = if t = s then v else S.where_ t := by
  obtain ⟨i0, i1, i2, i3⟩ := (is_iff S s v).1 hi
  have e1 : S'.is t 0 = S.is t 0 := by unfold RS.is; rw [es, eh]
  by_cases c : t = s
  · subst c
    rw [if_pos rfl]
    unfold RS.where_
    rw [if_pos ((is_iff S' t 0).2 (by rw [es, eh]; omega)), ew]
    simp
  · rw [if_neg c]
    unfold RS.where_
    rw [e1, ew, es]
    simp only [if_neg c]
theorem where_fine (h : Good a1 a2 S) {s v : Int} (hi : S.is s v = true) (t : Int) : (S.fine s v).where_ t = if t = s then v else S.where_ t := where_set h (S' := S.fine s v) rfl rfl hi rfl t
theorem where_hint (h : Good a1 a2 S) {s v : Int} (hi : S.is s v = true) (t : Int) : (S.hint s v).where_ t = if t = s then v else S.where_ t := where_set h (S' := S.hint s v) rfl rfl hi rfl t
theorem Good.set (h : Good a1 a2 S) {S' : RS} (es : S'.servers = S.servers) (eh : S'.shards = S.shards) {s v : Int} (hi : S.is s v = true) (ew : S'.wh = fun j => if j = s then some v else S.wh j) : Good a1 a2 S' := by
  obtain ⟨i0, i1, i2, i3⟩ := (is_iff S s v).1 hi
  refine ⟨es.trans h.sv, eh.trans h.sh, h.s0, h.s1, h.h0, h.h1, fun k u hu => ?_⟩
  rw [ew] at hu
  simp only at hu
  split at hu
  · cases hu; exact ⟨i2, by rw [← h.sv]; exact i3⟩
  · exact h.wf k u hu
theorem Good.new (s0 : 1 ≤ a1) (s1 : a1 ≤ 8) (h0 : 1 ≤ a2) (h1 : a2 ≤ 64) : Good a1 a2 (RS.new a1 a2) := ⟨rfl, rfl, s0, s1, h0, h1, fun k v h => by cases h⟩
/-! ### the lists of servers -/
theorem mem_at (x v : Int) : x ∈ atV S v ↔ (0 ≤ x ∧ x < S.shards) ∧ S.where_ x = v := by
  unfold atV
  rw [List.mem_filter, List.mem_map]
  constructor
  · rintro ⟨⟨n, hn, rfl⟩, h⟩
    exact ⟨by have := List.mem_range.1 hn; omega, of_decide_eq_true h⟩
  · rintro ⟨h, h2⟩
    exact ⟨⟨x.toNat, List.mem_range.2 (by omega), by omega⟩, decide_eq_true h2⟩
theorem at_rises (v : Int) : (atV S v).Pairwise (· < ·) := by
  unfold atV
  refine List.Pairwise.filter _ ?_
  rw [List.pairwise_map]
  exact List.pairwise_lt_range.imp (fun h => by omega)
def upTo (S : RS) (t : Int) : Nat := ((List.map (fun n : Nat => (n : Int)) (List.range S.shards.toNat)).filter fun s => decide (S.where_ s ≤ t)).length
theorem filter_step (f : Int → Int) (t : Int) : ∀ l : List Int, (l.filter fun s => decide (f s ≤ t)).length = (l.filter fun s => decide (f s ≤ t - 1)).length + (l.filter fun s => decide (f s = t)).length
  | [] => rfl
  | x :: l => by
    have := filter_step f t l
    simp only [List.filter_cons]
    by_cases c1 : f x ≤ t - 1
    · rw [if_pos (by simp; omega), if_pos (by simp; omega), if_neg (by simp; omega)]
      simp only [List.length_cons]; omega
    · by_cases c2 : f x = t
      · rw [if_pos (by simp; omega), if_neg (by simp; omega), if_pos (by simp; omega)]
        simp only [List.length_cons]; omega
      · rw [if_neg (by simp; omega), if_neg (by simp; omega), if_neg (by simp; omega)]
        exact this
theorem upTo_step (t : Int) : upTo S t = upTo S (t - 1) + (atV S t).length := filter_step _ _ _
theorem upTo_none (h : Good a1 a2 S) : upTo S (-2) = 0 := by
  unfold upTo
  rw [List.length_eq_zero_iff, List.filter_eq_nil_iff]
  intro x hx
  obtain ⟨n, hn, rfl⟩ := List.mem_map.1 hx
  have hn := List.mem_range.1 hn
  rw [h.sh] at hn
  have := h.where_in (s := n) (by omega) (by omega)
  simp; omega
theorem upTo_all (h : Good a1 a2 S) : (upTo S a1 : Int) = a2 := by
  unfold upTo
  rw [List.filter_eq_self.2]
  · simp [h.sh]; have := h.h0; omega
  · intro x hx
    obtain ⟨n, hn, rfl⟩ := List.mem_map.1 hx
    have hn := List.mem_range.1 hn
    rw [h.sh] at hn
    have := h.where_in (s := n) (by omega) (by omega)
    simp; omega
theorem at_le (h : Good a1 a2 S) (v : Int) : (atV S v).length ≤ 64 := by
  unfold atV
  refine Nat.le_trans (List.length_filter_le _ _) ?_
  simp [h.sh]; have := h.h1; omega
end
/-! ### the script -/
section
variable {k : Nat} {a1 a2 a11 : Int} {a3 : List haulagelaw23_Op} {a7 : List (List Int)}
theorem j7_yes {t97 : Int} {b : Bool} {i : Nat} {r : Rou} {mv : Int} (hi : i < 1000000000) (hw : r.s.where_ (rd a3 (i : Int)).Shard = (rd a3 (i : Int)).Server) (v0 : 0 ≤ (rd a3 (i : Int)).Server) (v1 : (rd a3 (i : Int)).Server < a1) :
    haulagelaw23_RouteBooks.j7 a1 a3 a11 t97 b i (some r) mv true = some (.next (some r, b || decide ((rd a3 (i : Int)).Shard = a11), mv, ((i + 1 : Nat) : Int))) := by
  unfold haulagelaw23_RouteBooks.j7
  rw [if_pos rfl, bind_eq (where_eq _ _), if_pos hw, if_neg (by omega), if_neg (by omega)]
  unfold haulagelaw23_RouteBooks.j8
  rw [if_neg (by simp), wrS i (by omega)]
  cases b <;> simp
theorem j7_no {t97 : Int} {b : Bool} {i : Nat} {r : Rou} {mv : Int} (hi : i < 1000000000) (hw : r.s.where_ (rd a3 (i : Int)).Shard = t97) :
    haulagelaw23_RouteBooks.j7 a1 a3 a11 t97 b i (some r) mv false = some (.next (some r, b, mv, ((i + 1 : Nat) : Int))) := by
  unfold haulagelaw23_RouteBooks.j7
  rw [if_neg (by simp), bind_eq (where_eq _ _)]
  unfold haulagelaw23_RouteBooks.j8
  rw [if_neg (by simp [hw]), wrS i (by omega)]
  cases b <;> simp
structure Bk (a1 a2 was a11 : Int) (i : Nat) (s : (Option Rou) × Bool × Int × Int) (r : Rou) : Prop where
  e : s.1 = some r
  ix : s.2.2.2 = (i : Int)
  g : Good a1 a2 r.s
  n : r.n ≤ i
  mv : s.2.2.1 = r.s.moved
  m0 : 0 ≤ r.s.moved
  m1 : r.s.moved ≤ i
  st : s.2.1 = false → r.s.where_ a11 = was
theorem fine_eq_no {r : Rou} {s v : Int} (h : ¬ r.s.is s v = true) : route_Route_Fine.f (some r) s v = some (false, some r) := by
  unfold route_Route_Fine.f; simp only [Option.bind_some]; rw [if_neg h]
theorem hint_eq_no {r : Rou} {s v : Int} (h : ¬ r.s.is s v = true) : route_Route_Hint.f (some r) s v = some (false, some r) := by
  unfold route_Route_Hint.f; simp only [Option.bind_some]; rw [if_neg h]
set_option maxHeartbeats 1000000 in
theorem books_step {was : Int} {i : Nat} {s : (Option Rou) × Bool × Int × Int} {r : Rou} (hl : a3.length < 1000000000) (hi : i < a3.length) (h : Bk a1 a2 was a11 i s r) :
    ∃ s' r', haulagelaw23_RouteBooks.b9 a1 a3 a11 s.1 s.2.1 s.2.2.1 s.2.2.2 = some (.next s') ∧ Bk a1 a2 was a11 (i + 1) s' r' := by
  obtain ⟨s1, b, mv, si⟩ := s
  obtain ⟨e, ei, g, hn, hm, m0, m1, st⟩ := h
  simp only at e ei hm st
  subst e; subst ei
  simp only
  unfold haulagelaw23_RouteBooks.b9
  rw [if_pos (by omega), if_pos (by omega), bind_eq (where_eq _ _)]
  have n62 : r.n < 4611686018427387904 := by omega
  by_cases k0 : (rd a3 (i : Int)).Kind = 0
  · rw [if_pos k0]
    by_cases c : r.s.is (rd a3 (i : Int)).Shard (rd a3 (i : Int)).Server = true
    · rw [bind_eq (fine_eq c n62)]
      obtain ⟨i0, i1, i2, i3⟩ := (is_iff _ _ _).1 c
      rw [g.sv] at i3
      rw [j7_yes (by omega) (by show (r.s.fine _ _).where_ _ = _; rw [where_fine g c, if_pos rfl]) i2 i3]
      refine ⟨_, ⟨r.s.fine _ _, r.n + 1⟩, rfl, rfl, rfl, g.set rfl rfl c rfl, by show r.n + 1 ≤ i + 1; omega, hm, m0, by show r.s.moved ≤ _; omega, fun q => ?_⟩
      simp only [Bool.or_eq_false_iff, decide_eq_false_iff_not] at q
      show (r.s.fine _ _).where_ a11 = was
      rw [where_fine g c, if_neg (fun z => q.2 z.symm)]
      exact st q.1
    · rw [bind_eq (fine_eq_no c), j7_no (by omega) rfl]
      exact ⟨_, r, rfl, rfl, rfl, g, by omega, hm, m0, by omega, st⟩
  · rw [if_neg k0]
    by_cases k1 : (rd a3 (i : Int)).Kind = 1
    · rw [if_pos k1]
      by_cases c : r.s.is (rd a3 (i : Int)).Shard (rd a3 (i : Int)).Server = true
      · obtain ⟨i0, i1, i2, i3⟩ := (is_iff _ _ _).1 c
        rw [g.sv] at i3
        by_cases cv : r.s.where_ (rd a3 (i : Int)).Shard = (rd a3 (i : Int)).Server
        · rw [bind_eq (hint_eq_same c cv), if_neg (by simp)]
          unfold haulagelaw23_RouteBooks.j5
          rw [if_neg (by simp [cv])]
          unfold haulagelaw23_RouteBooks.j6
          rw [if_neg (by simp), j7_no (r := ⟨r.s.hints1, r.n⟩) (t97 := r.s.where_ (rd a3 (i : Int)).Shard) (by omega) rfl]
          exact ⟨_, ⟨r.s.hints1, r.n⟩, rfl, rfl, rfl, ⟨g.sv, g.sh, g.s0, g.s1, g.h0, g.h1, g.wf⟩, by show r.n ≤ i + 1; omega, hm, m0, by show r.s.moved ≤ _; omega, st⟩
        · rw [bind_eq (hint_eq c cv n62), if_pos rfl]
          unfold haulagelaw23_RouteBooks.j5
          rw [if_neg (by simp [cv])]
          unfold haulagelaw23_RouteBooks.j6
          rw [if_neg (by simp), j7_yes (by omega) (by show (r.s.hint _ _).where_ _ = _; rw [where_hint g c, if_pos rfl]) i2 i3]
          have em : (r.s.hint (rd a3 (i : Int)).Shard (rd a3 (i : Int)).Server).moved = r.s.moved + 1 := w64_id (by omega) (by omega)
          refine ⟨_, ⟨r.s.hint _ _, r.n + 1⟩, rfl, rfl, rfl, g.set rfl rfl c rfl, by show r.n + 1 ≤ i + 1; omega, ?_, by show 0 ≤ (r.s.hint _ _).moved; rw [em]; omega, by show (r.s.hint _ _).moved ≤ _; rw [em]; omega, fun q => ?_⟩
          · show IntKind.i64.wrap (mv + 1) = (r.s.hint _ _).moved
            rw [em, hm, wr (by omega) (by omega)]
          · simp only [Bool.or_eq_false_iff, decide_eq_false_iff_not] at q
            show (r.s.hint _ _).where_ a11 = was
            rw [where_hint g c, if_neg (fun z => q.2 z.symm)]
            exact st q.1
      · rw [bind_eq (hint_eq_no c), if_neg (by simp)]
        have fin : haulagelaw23_RouteBooks.j5 a1 a3 a11 (r.s.where_ (rd a3 (i : Int)).Shard) (false, some r) b (i : Int) mv = haulagelaw23_RouteBooks.j6 a1 a3 a11 (r.s.where_ (rd a3 (i : Int)).Shard) (false, some r) b (i : Int) mv false := by
          unfold haulagelaw23_RouteBooks.j5
          by_cases q1 : (false == decide (r.s.where_ (rd a3 (i : Int)).Shard = (rd a3 (i : Int)).Server)) = true
          · rw [if_pos q1]
            by_cases q2 : 0 ≤ r.s.where_ (rd a3 (i : Int)).Shard
            · rw [if_pos q2]
              by_cases q3 : 0 ≤ (rd a3 (i : Int)).Server
              · rw [if_pos q3, decide_eq_false]
                intro q4
                refine c ((is_iff _ _ _).2 ?_)
                rw [g.sh, g.sv]
                by_cases q5 : 0 ≤ (rd a3 (i : Int)).Shard ∧ (rd a3 (i : Int)).Shard < a2
                · exact ⟨q5.1, q5.2, q3, q4⟩
                · have := g.where_out q5; omega
              · rw [if_neg q3]
            · rw [if_neg q2]
          · rw [if_neg q1]
        rw [fin]
        unfold haulagelaw23_RouteBooks.j6
        rw [if_neg (by simp), j7_no (by omega) rfl]
        exact ⟨_, r, rfl, rfl, rfl, g, by omega, hm, m0, by omega, st⟩
    · rw [if_neg k1, j7_no (by omega) rfl]
      exact ⟨_, r, rfl, rfl, rfl, g, by omega, hm, m0, by omega, st⟩
theorem books_script (hk : Fuel k) (s0 : 1 ≤ a1) (s1 : a1 ≤ 8) (h0 : 1 ≤ a2) (h1 : a2 ≤ 64) (hl : a3.length < 1000000000) :
    ∃ r b mv, loop (fun (s_ : (Option Rou) × Bool × Int × Int) => haulagelaw23_RouteBooks.b9 a1 a3 a11 s_.1 s_.2.1 s_.2.2.1 s_.2.2.2) k (some ⟨RS.new a1 a2, 0⟩, false, 0, 0) = some (.inl (some r, b, mv)) ∧
      Good a1 a2 r.s ∧ mv = r.s.moved ∧ (b = false → r.s.where_ a11 = (RS.new a1 a2).where_ a11) := by
  have h24 : 1099511627776 ≤ k := hk
  obtain ⟨x, hx, r, b, mv, rfl, h⟩ := loop_inv (f := fun (s_ : (Option Rou) × Bool × Int × Int) => haulagelaw23_RouteBooks.b9 a1 a3 a11 s_.1 s_.2.1 s_.2.2.1 s_.2.2.2)
    (I := fun i s => ∃ r, Bk a1 a2 ((RS.new a1 a2).where_ a11) a11 i s r)
    (P := fun x => ∃ r b mv, x = Sum.inl (some r, b, mv) ∧ Good a1 a2 r.s ∧ mv = r.s.moved ∧ (b = false → r.s.where_ a11 = (RS.new a1 a2).where_ a11)) (N := a3.length)
    (fun i s hi ⟨r, h⟩ => by obtain ⟨s', r', e, h'⟩ := books_step (a3 := a3) hl hi h; exact .inl ⟨s', e, r', h'⟩)
    (fun s ⟨r, h⟩ => by
      obtain ⟨s1, b, mv, si⟩ := s
      obtain ⟨e, ei, g, hn, hm, m0, m1, st⟩ := h
      simp only at e ei hm st
      subst e; subst ei
      refine ⟨_, ?_, r, b, mv, rfl, g, hm, st⟩
      simp only
      unfold haulagelaw23_RouteBooks.b9
      rw [if_neg (by omega)]) a3.length 0 (some ⟨RS.new a1 a2, 0⟩, false, ((0 : Nat) : Int), ((0 : Nat) : Int)) k ⟨⟨RS.new a1 a2, 0⟩, rfl, rfl, Good.new s0 s1 h0 h1, Nat.le_refl _, rfl, Int.le_refl 0, by show (0 : Int) ≤ ((0 : Nat) : Int); omega, fun _ => rfl⟩ (by omega) (by omega)
  exact ⟨r, b, mv, hx, h⟩
/-! ### the lists -/
theorem books_list (hk : Fuel k) {r : Rou} (g : Good a1 a2 r.s) (v : Int) (n : Int) (n0 : 0 ≤ n) (n1 : n ≤ 100000) :
    loop (fun (s_ : Int × Int) => haulagelaw23_RouteBooks.b13 (some r) v (atV r.s v) s_.1 s_.2) k (n, 0) = some (.inl (n + (atV r.s v).length)) := by
  have h24 : 1099511627776 ≤ k := hk
  have hle := at_le g v
  obtain ⟨x, hx, rfl⟩ := loop_inv (f := fun (s_ : Int × Int) => haulagelaw23_RouteBooks.b13 (some r) v (atV r.s v) s_.1 s_.2) (I := fun i s => s = (n + i, (i : Int))) (P := fun x => x = .inl (n + (atV r.s v).length)) (N := (atV r.s v).length) (by
    rintro i s hi rfl
    refine .inl ⟨(n + ((i + 1 : Nat) : Int), ((i + 1 : Nat) : Int)), ?_, rfl⟩
    simp only
    unfold haulagelaw23_RouteBooks.b13
    rw [if_pos (by omega), if_pos (by omega), bind_eq (where_eq _ _), rd_eq hi]
    have hm := (mem_at (S := r.s) _ v).1 (List.getElem_mem hi)
    rw [if_pos hm.2]
    have fin : haulagelaw23_RouteBooks.j12 (n + i) (i : Int) false = some (.next (n + ((i + 1 : Nat) : Int), ((i + 1 : Nat) : Int))) := by
      unfold haulagelaw23_RouteBooks.j12
      rw [if_neg (by simp), wrS i (by omega), wr (by omega) (by omega)]
      congr 3
      omega
    by_cases q : i = 0
    · subst q; rw [if_neg (by simp)]; exact fin
    · rw [if_pos (by omega), if_pos (by omega), wr (by omega) (by omega), if_pos (by omega)]
      have e1 : ((i : Int) - 1) = ((i - 1 : Nat) : Int) := by omega
      rw [e1, rd_eq (by omega)]
      have hr := List.pairwise_iff_getElem.1 (at_rises (S := r.s) v) (i - 1) i (by omega) hi (by omega)
      rw [decide_eq_false (by omega)]
      exact fin) (by
    rintro s rfl
    refine ⟨_, ?_, rfl⟩
    simp only
    unfold haulagelaw23_RouteBooks.b13
    rw [if_neg (by omega)]) (atV r.s v).length 0 (n + ((0 : Nat) : Int), ((0 : Nat) : Int)) k rfl (by omega) (by omega)
  simpa using hx
theorem at_eq (r : Rou) (v : Int) : route_Route_At.f (some r) v = some (atV r.s v) := rfl
theorem books_lists (hk : Fuel k) {r : Rou} (g : Good a1 a2 r.s) :
    loop (fun (s_ : Int × Int) => haulagelaw23_RouteBooks.b15 k a1 (some r) s_.1 s_.2) k (0, -1) = some (.inl a2) := by
  have h24 : 1099511627776 ≤ k := hk
  have hs1 := g.s1
  have hs0 := g.s0
  have small : ∀ t : Int, upTo r.s t ≤ 64 := fun t => by
    unfold upTo
    refine Nat.le_trans (List.length_filter_le _ _) ?_
    simp [g.sh]; have := g.h1; omega
  obtain ⟨x, hx, rfl⟩ := loop_inv (f := fun (s_ : Int × Int) => haulagelaw23_RouteBooks.b15 k a1 (some r) s_.1 s_.2) (I := fun i s => s = ((upTo r.s ((i : Int) - 2) : Int), (i : Int) - 1)) (P := fun x => x = .inl a2) (N := a1.toNat + 2) (by
    rintro i s hi rfl
    refine .inl ⟨((upTo r.s (((i + 1 : Nat) : Int) - 2) : Int), ((i + 1 : Nat) : Int) - 1), ?_, rfl⟩
    simp only
    unfold haulagelaw23_RouteBooks.b15
    rw [if_pos (by omega), bind_eq (at_eq _ _), bind_eq (books_list hk g _ _ (by omega) (by have := small ((i : Int) - 2); omega))]
    simp only
    unfold haulagelaw23_RouteBooks.j14
    rw [wr (by omega) (by omega)]
    have e1 : ((i : Int) - 1 + 1) = ((i + 1 : Nat) : Int) - 1 := by omega
    have e2 : (upTo r.s ((i : Int) - 2) : Int) + (atV r.s ((i : Int) - 1)).length = (upTo r.s (((i + 1 : Nat) : Int) - 2) : Int) := by
      have := upTo_step (S := r.s) ((i : Int) - 1)
      have e3 : ((i + 1 : Nat) : Int) - 2 = (i : Int) - 1 := by omega
      have e4 : (i : Int) - 1 - 1 = (i : Int) - 2 := by omega
      rw [e3, this, e4]
      omega
    rw [e1, e2]) (by
    rintro s rfl
    refine ⟨_, ?_, rfl⟩
    simp only
    unfold haulagelaw23_RouteBooks.b15
    rw [if_neg (by omega)]
    have e3 : ((a1.toNat + 2 : Nat) : Int) - 2 = a1 := by omega
    rw [e3, upTo_all g]) (a1.toNat + 2) 0 ((upTo r.s (((0 : Nat) : Int) - 2) : Int), ((0 : Nat) : Int) - 1) k rfl (by omega) (by omega)
  have e5 : (upTo r.s (((0 : Nat) : Int) - 2) : Int) = 0 := by
    have := upTo_none g
    have e6 : (((0 : Nat) : Int) - 2) = -2 := by omega
    rw [e6, this]; rfl
  rw [e5] at hx
  simpa using hx
theorem books_keys (hk : Fuel k) {r : Rou} (g : Good a1 a2 r.s) (hl : a7.length < 1000000000) :
    loop (fun (s_ : Int) => haulagelaw23_RouteBooks.b18 a2 a7 (some r) s_) k 0 = some (.inl ()) := by
  have h24 : 1099511627776 ≤ k := hk
  obtain ⟨x, hx, rfl⟩ := loop_inv (f := fun (s_ : Int) => haulagelaw23_RouteBooks.b18 a2 a7 (some r) s_) (I := fun i s => s = (i : Int)) (P := fun x => x = .inl ()) (N := a7.length) (by
    rintro i s hi rfl
    refine .inl ⟨((i + 1 : Nat) : Int), ?_, rfl⟩
    unfold haulagelaw23_RouteBooks.b18
    rw [if_pos (by omega), if_pos (by omega), bind_eq (shard_eq _ _), g.sh]
    have := jumpV_bd (h := fnvV [rd a7 (i : Int)]) g.h0 (by have := g.h1; omega)
    rw [if_neg (by omega), decide_eq_false (by omega)]
    unfold haulagelaw23_RouteBooks.j17
    rw [if_neg (by simp), wrS i (by omega)]) (by
    rintro s rfl
    refine ⟨_, ?_, rfl⟩
    unfold haulagelaw23_RouteBooks.b18
    rw [if_neg (by omega)]) a7.length 0 ((0 : Nat) : Int) k rfl (by omega) (by omega)
  exact hx
theorem counts_eq (r : Rou) : route_Route_Counts.f (some r) = some (r.s.good, r.s.hints, r.s.moved) := rfl
theorem RouteBooks_true (hk : Fuel k) (hl : a3.length < 1000000000) (hl7 : a7.length < 1000000000) : haulagelaw23_RouteBooks.f k a1 a2 a3 a7 a11 = some true := by
  have h24 : 1099511627776 ≤ k := hk
  unfold haulagelaw23_RouteBooks.f
  rw [bind_eq (known_true hk), if_pos rfl]
  by_cases c : a1 < 1 ∨ 8 < a1 ∨ a2 < 1 ∨ 64 < a2
  · rw [bind_eq (new_no c), bind_eq (num_eq _), if_neg (by simp)]; rfl
  · have s0 : 1 ≤ a1 := by omega
    have s1 : a1 ≤ 8 := by omega
    have h0 : 1 ≤ a2 := by omega
    have h1 : a2 ≤ 64 := by omega
    rw [bind_eq (new_eq s0 s1 h0 h1), bind_eq (num_eq _), if_pos rfl, bind_eq (where_eq _ _)]
    obtain ⟨r, b, mv, e, g, hm, st⟩ := books_script (a11 := a11) (a3 := a3) hk s0 s1 h0 h1 hl
    rw [bind_eq e]
    simp only
    unfold haulagelaw23_RouteBooks.j10
    rw [bind_eq (counts_eq r)]
    have fin : haulagelaw23_RouteBooks.j11 k a1 a2 a7 (some r) (!decide (r.s.moved = mv)) = some true := by
      unfold haulagelaw23_RouteBooks.j11
      rw [if_neg (by simp [hm]), bind_eq (books_lists hk g)]
      simp only
      unfold haulagelaw23_RouteBooks.j16
      rw [bind_eq (books_keys hk g hl7)]
      simp only
      unfold haulagelaw23_RouteBooks.j19
      simp
    cases b with
    | true => rw [if_pos rfl]; exact fin
    | false =>
      rw [if_neg (by simp), bind_eq (where_eq _ _), if_pos (st rfl)]
      exact fin
end
end Go.Proofs.Ytohljkjaggcapaa.G
/- The row of 'RouteBooks' (its '..UptoSaid'): whatever the input of bulk at most 1048576, the law returns true and the input reads as it did. -/
namespace Go.Proofs.Ytohljkjaggcapaa.routeBooks
open Go.ChangeShapes Go.WideShapes Go.ChangeAt Go.RowKit
set_option linter.unusedVariables false
set_option maxRecDepth 100000 in
theorem contract (H : Type) (enc : TypeId × Value → H) (W : World) (base : Nat) (args : Array Value) (ds gs : List (DataW H)) (before : List MemPlace)
    (hval : ∀ (j : Nat) t v, Try.f8.params[j]? = some t → args[j]? = some v → Value.okWide Try.prog W .any base t v)
    (hW : DataW.Whole enc Try.prog Try.f8.params.toList Rows.routeBooksSpec.vars false W args.toList ds gs before) (hk : Rows.uptoSmall H (ds ++ gs) = true) :
    Calls Try.prog 8 args W fun e W' => ∃ v, e = .returned v ∧ Rows.routeBooksSpec.post enc Try.prog Try.f8 false true false false W args v W' := by
  have hW' := hW
  obtain ⟨p, q, hA0, hV, rfl, hfz, hnd⟩ := hW
  have hA : DataW.TrodAll enc Try.prog W 0 (fun _ => true) true Try.f8.params.toList args.toList ds p := hA0
  rw [Try.params8] at hA hval
  obtain ⟨v0, vs0, d0, ds0, p0, q0, hargs, rfl, rfl, h0, r0⟩ := trodAll_cons hA
  obtain ⟨v1, vs1, d1, ds1, p1, q1, rfl, rfl, rfl, h1, r1⟩ := trodAll_cons r0
  obtain ⟨v2, vs2, d2, ds2, p2, q2, rfl, rfl, rfl, h2, r2⟩ := trodAll_cons r1
  obtain ⟨v3, vs3, d3, ds3, p3, q3, rfl, rfl, rfl, h3, r3⟩ := trodAll_cons r2
  obtain ⟨v4, vs4, d4, ds4, p4, q4, rfl, rfl, rfl, h4, r4⟩ := trodAll_cons r3
  obtain ⟨rfl, rfl, rfl⟩ := trodAll_nil r4
  obtain rfl : args = #[v0, v1, v2, v3, v4] := by cases args; simp_all
  obtain ⟨rfl, rfl⟩ := trodVars_none hV
  obtain ⟨a0, rfl, rfl, rfl, w0⟩ := open_int Try.underlying3 (hval 0 3 v0 rfl rfl) h0
  obtain ⟨a1, rfl, rfl, rfl, w1⟩ := open_int Try.underlying3 (hval 1 3 v1 rfl rfl) h1
  have k2 := h2
  have lt2 : ∀ x ∈ p2, x.block < W.heap.size := by obtain ⟨m, hm⟩ := k2; exact DataW.trod_lt m _ _ _ hm
  obtain ⟨A2, C2, a2, rfl, s2, b2, o2⟩ := G.arg_ops (okWide_slice Try.underlying38 (hval 2 38 v2 rfl rfl)) h2
  have l2 := G.opsum_len a2
  have k3 := h3
  have lt3 : ∀ x ∈ p3, x.block < W.heap.size := by obtain ⟨m, hm⟩ := k3; exact DataW.trod_lt m _ _ _ hm
  obtain ⟨A3, C3, a3, rfl, s3, b3, o3⟩ := G.arg_keys (okWide_slice Try.underlying34 (hval 3 34 v3 rfl rfl)) h3
  have l3 := G.keysum_len a3
  obtain ⟨a4, rfl, rfl, rfl, w4⟩ := open_int Try.underlying3 (hval 4 3 v4 rfl rfl) h4
  have hb : Rows.uptoBulkAll [(DataW.lit (H := H) (.int .i64 a0)), (DataW.lit (H := H) (.int .i64 a1)), d2, d3, (DataW.lit (H := H) (.int .i64 a4))] ≤ 1048576 := of_decide_eq_true hk
  simp only [Rows.uptoBulkAll] at hb
  refine (G.haulagelaw23_RouteBooks.calls 1099511627776 (m := 1) (c0 := G.c0) (w0 := W) (Nat.lt_succ_self 0) (fun _ _ => Nat.lt_succ_self 0) s2 s3 true (G.RouteBooks_true (k := 1099511627776) (Nat.le_refl _) (a1 := a0) (a2 := a1) (a3 := a2) (a7 := a3) (a11 := a4) (by omega) (by omega))).mono fun e W' ⟨c_, he, ev_, _⟩ => ?_
  subst he
  have bel : Below W.heap.size W W' := G.Ev.below ev_
  exact ⟨_, rfl, _, _, _, [], _, [], hW', trodAll_mk1 (shut_bool Try.underlying4 _), (trodAll_cons_mk (shut_int Try.underlying3 w0) (trodAll_cons_mk (shut_int Try.underlying3 w1) (trodAll_cons_mk (Below.trod G.row_laidOut (by kernel_rfl) (of_decide_eq_true (by kernel_rfl)) k2 bel lt2) (trodAll_cons_mk (Below.trod G.row_laidOut (by kernel_rfl) (of_decide_eq_true (by kernel_rfl)) k3 bel lt3) (trodAll_cons_mk (shut_int Try.underlying3 w4) trodAll_mk0))))), rfl, bel.frame _, fun h => by cases h⟩
set_option maxRecDepth 100000 in
theorem lifted (os : Os) (started : os.Started) (H : Type) (enc : TypeId × Value → H) (F : Stop.Interp) :
    ReturnsInHanded {} Try.checked os 8 .any ((Rows.OpenSpec.upto Rows.routeBooksSpec).pre6 enc Try.prog Try.f8 Rows.routeBooksUptoRow.domain false) (((Rows.OpenSpec.upto Rows.routeBooksSpec).at F).post enc Try.prog Try.f8 false true false false) := by
  refine returnsInHanded_of_cond (C := Try.checked) (s := Rows.OpenSpec.upto Rows.routeBooksSpec) (k := Rows.uptoSmall) rfl G.row_own started (by kernel_rfl) Try.func8
    (OpenSpec.witness (enc := enc) (C := Try.checked) (s := Rows.OpenSpec.upto Rows.routeBooksSpec) (k := Rows.uptoSmall) rfl false ⟨#[], #[.int .i64 0, .int .i64 0, .slice none 0 0, .slice none 0 0, .int .i64 0], []⟩ 8 (by kernel_rfl) (by kernel_rfl) (by kernel_rfl)
      (x := ([.lit (.int .i64 0), .lit (.int .i64 0), .nil, .nil, .lit (.int .i64 0)], [], [])) (by kernel_rfl) rfl (by kernel_rfl)) ?_
  intro W base args ds gs before hval hW _ hk _
  exact contract H enc W base args ds gs before hval hW hk
theorem over : Rows.routeBooksUptoRow.holds Try.pinned (Rows.OpenSpec.upto Rows.routeBooksSpec) :=
  OpenClaim.holds_of_cond 8 Try.f8 rfl rfl rfl rfl rfl rfl rfl ⟨rfl, rfl, rfl, rfl, rfl⟩ rfl rfl rfl rfl rfl (by kernel_rfl) Try.func8 (by kernel_rfl)
    (of_decide_eq_true (by kernel_rfl)) (by unfold Func.isWrapper; first | (rw [if_pos (by decide +kernel)]; kernel_rfl) | (rw [if_neg (by decide +kernel)]; exact ⟨rfl, rfl⟩))
    (fun os started H enc _ F => lifted os started H enc F)
theorem proved : Rows.RouteBooksUptoSaid := over
end Go.Proofs.Ytohljkjaggcapaa.routeBooks
namespace Go.Proofs.Ytohljkjaggcapaa
/-- The row, under a short name, for the claim. -/
theorem routeBooks_holds : Rows.RouteBooksUptoSaid := routeBooks.proved
end Go.Proofs.Ytohljkjaggcapaa
