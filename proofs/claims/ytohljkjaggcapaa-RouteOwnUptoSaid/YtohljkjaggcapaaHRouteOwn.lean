/- The row of 'RouteOwn', its '..UptoSaid': whatever the input of bulk at most 1048576, the law returns true and the input reads as it did; its walk, its plain law, the row. -/
import Derived.Test.YtohljkjaggcapaaShs
import Derived.Test.YtohljkjaggcapaaHA
import Derived.Test.YtohljkjaggcapaaHB
import Derived.Maps.RangeWalk
import Derived.Test.YtohljkjaggcapaaRl
import Derived.Laws.OwnMore
import Derived.Test.YtohljkjaggcapaaRows
import Derived.WalkKit
import Derived.ProofKit
import Derived.OpenShut
import Derived.JoinedCond
import Derived.Below
import Derived.ChangeOld
/-! slices.Sort of whole numbers in the walks' own form. -/
namespace Go.Proofs.Ytohljkjaggcapaa.G
open Go Go.RowKit Go.Sort
set_option linter.unusedVariables false
set_option linter.unusedSimpArgs false
def sortI (l : List Int) : List Int := l.mergeSort fun x y => decide (x ≤ y)
theorem sortI_length (l : List Int) : (sortI l).length = l.length := List.length_mergeSort l
theorem slices_Sort.calls {m : Nat} {c0 : Nat → Nat} {w0 : World} {j1 : Nat} {A2 : Option Addr} {C3 : Nat} {a1 : List Int} (B0 : CB m c0 w0) (h4 : SL true (Kint .i64) j1 0 c0 w0 A2 C3 a1) (bj1 : j1 < m) (hs : a1.length < 4611686018427387904) :
    Calls Try.prog 27 #[.slice A2 a1.length C3] w0 (fun e w_ => ∃ (c_ : Nat → Nat), e = .returned (.tuple #[]) ∧ Ev (fun x => x = j1) c0 w0 c_ w_ ∧ CB m c_ w_ ∧ SL true (Kint .i64) j1 0 c_ w_ A2 C3 (sortI a1)) := by
  by_cases hn : a1 = []
  · subst hn
    refine (AnyM.slices_Sort_int_none Try.sortInts A2 C3 w0).mono ?_
    rintro e w' ⟨rfl, rfl⟩
    exact ⟨c0, rfl, Ev.refl, B0, by simpa [sortI] using h4⟩
  have hpos : 0 < a1.length := List.length_pos_iff.2 hn
  obtain ⟨cs, h2, h3, hl, hrow, hr⟩ := h4
  have hl : cs.length = C3 * 1 := hl
  rcases hrow with rfl | ⟨p, rfl, hat⟩
  · simp at hl; omega
  have cell : ∀ k, k < a1.length → cs[k]? = some (Value.int .i64 (a1.getD k 0)) := fun k hk => by
    have e : (cs.drop (k * 1)).take 1 = [Value.int .i64 a1[k]] := hr k hk
    have e2 := congrArg (fun l => l[0]?) e
    simp only [List.getElem?_take_of_lt (Nat.zero_lt_one), List.getElem?_drop, List.getElem?_cons_zero] at e2
    rw [Nat.mul_one, Nat.add_zero] at e2
    rw [e2, List.getD_eq_getElem?_getD, List.getElem?_eq_getElem hk]
    rfl
  have hat' := hat
  obtain ⟨b, off, cur, ty, fz, rfl, hb, hc, hcells, hfree⟩ := hat
  have hlt := lt_of_get hb
  have hH : Holds (Value.int .i64) w0 b off a1.toArray := fun k hk => by
    have hk : k < a1.length := by simpa using hk
    refine ⟨?_, ?_⟩
    · rw [← add_eq, hat'.cell (cell k hk)]
      congr 2
      rw [getElem!_pos _ k (by simpa using hk), List.getD_eq_getElem?_getD, List.getElem?_eq_getElem hk]
      rfl
    · rw [← add_eq]; exact hat'.free (by omega)
  refine (AnyM.slices_Sort_int Try.sortInts b off C3 a1 w0 hH hlt hs).mono ?_
  rintro e w' ⟨rfl, n, os, rfl⟩
  have old : ∀ k, k < w0.heap.size → b ≠ k → (grow (putRow (Value.int .i64) (Sort.ahead w0 n) b off (a1.mergeSort fun x y => decide (x ≤ y)).toArray) os).heap[k]? = w0.heap[k]? := fun k hk hne => by
    rw [heap_grow_old _ _ (by simpa [putRow, mapBlock, Sort.ahead] using hk)]
    simp [putRow, mapBlock, Sort.ahead, Array.getElem?_modify, hne]
  have new : (grow (putRow (Value.int .i64) (Sort.ahead w0 n) b off (a1.mergeSort fun x y => decide (x ≤ y)).toArray) os).heap[b]? = some (.cells (putCells (Value.int .i64) off (sortI a1).toArray cur) ty fz) := by
    rw [heap_grow_old _ _ (by simpa [putRow, mapBlock, Sort.ahead] using hlt)]
    simp [putRow, mapBlock, Sort.ahead, Array.getElem?_modify, hb, onCells, sortI]
  refine ⟨fun k => if k < w0.heap.size then c0 k else j1, rfl, ⟨rfl, rfl, rfl, by simp [grow, putRow, mapBlock, Sort.ahead], fun k hk => if_pos hk, fun k hk hm => old k hk (fun q => hm (by rw [← q]; exact hc))⟩, fun k _ => ?_, ?_⟩
  · show (if k < w0.heap.size then c0 k else j1) < m
    split
    · exact B0 k (by assumption)
    · exact bj1
  have hz : (sortI a1).length = a1.length := sortI_length a1
  have hin : off + a1.length ≤ cur.size := by
    have := hcells (a1.length - 1) (by omega)
    rw [List.getElem?_eq_getElem (by omega)] at this
    have := (Array.getElem?_eq_some_iff.1 this).1
    omega
  refine ⟨(sortI a1).map (Value.int .i64) ++ cs.drop a1.length, by rw [hz]; exact h2, h3, by simp [hz]; show a1.length + (cs.length - a1.length) = C3 * 1; omega, .inr ⟨_, rfl, b, off, _, ty, fz, rfl, new, by show (if b < w0.heap.size then c0 b else j1) = j1; rw [if_pos hlt]; exact hc, fun k hk => ?_, fun q k hk => hfree q k (by simp [hz] at hk; omega)⟩, fun k hk => ?_⟩
  · simp only [List.length_append, List.length_map, List.length_drop, hz] at hk
    simp only [putCells, Array.getElem?_mapIdx]
    by_cases c : k < a1.length
    · rw [List.getElem?_append_left (by simpa [hz] using c), List.getElem?_map, List.getElem?_eq_getElem (by omega)]
      rw [Array.getElem?_eq_getElem (by omega)]
      simp only [Option.map_some, List.size_toArray, hz]
      rw [if_pos (by omega)]
      congr 2
      have e : off + k - off = k := by omega
      rw [e, getElem!_pos _ k (by simp [hz]; exact c)]
      simp
    · rw [List.getElem?_append_right (by simpa [hz] using Nat.le_of_not_lt c), List.getElem?_drop]
      simp only [List.length_map, hz]
      have e : a1.length + (k - a1.length) = k := by omega
      rw [e, ← hcells k (by omega)]
      cases hq : cur[off + k]? with
      | none => rfl
      | some v =>
        simp only [Option.map_some, List.size_toArray, hz]
        rw [if_neg (by omega)]
  · show ((((sortI a1).map (Value.int .i64) ++ cs.drop a1.length).drop (k * 1)).take 1) = [Value.int .i64 (sortI a1)[k]]
    rw [Nat.mul_one, List.drop_append_of_le_length (by simp; omega), List.drop_eq_getElem_cons (by simpa using hk)]
    simp
end Go.Proofs.Ytohljkjaggcapaa.G
/-! At and Counts of a route, by hand: a loop over a map, whatever its order, and a sort. -/
namespace Go.Proofs.Ytohljkjaggcapaa.G
open Go Go.RowKit Go.Proofs.Ytohljkjaggcapaa.MV Go.Proofs.Ytohljkjaggcapaa.RT
set_option linter.unusedVariables false
set_option linter.unusedSimpArgs false
section
variable {P : Program} {a : Act} {N : Nat} {L : List (Nat × Value)} {D : List Deferred} {w w' : World} {v u : Value} {x y mm : Operand} {d : Option Tmp} {t e ty K : TypeId} {pos : String} {af : Array Edge} {gd : Option (Nat × Bool)} {c : Nat → Nat} {j b n : Nat} {f : Int → Option Value}
theorem r_lookup_ok (F : Fr a N L D) {k : Int} {z : Value} (hk : P.underlying K = some (.int .i64)) (ht : P.underlying t = some (.map K e)) (hz : (zeroValue e).run P w = .ok z w) (hm : ev L mm = some (.map (some b))) (hx : ev L x = some (.int .i64 k))
    (h : VMap w P K b n f) (hw : (Lit.int .i64 k).wf = true) : (execOp a.eval { dst := d, op := .lookup t mm x true, type := ty, pos := pos, after := af, guard := gd }).run P w = .ok (.value (.tuple #[(f k).getD z, .bool (f k).isSome])) w := by
  obtain ⟨D0, hD, r⟩ := h
  obtain ⟨v, ps, hrun, hv⟩ := hD.look_ok (Maps.int_keyed hk) ht hz (zd := .held z) (zp := []) rfl (Maps.keyOf_int_mk hk hw)
  rw [(r k).1 z] at hv
  simp only [MV.heldElem, Option.some.injEq, Prod.mk.injEq, DataW.held.injEq] at hv
  rw [(r k).2] at hrun
  simp [execOp, F.ev hm, F.ev hx, hrun, Result.andThen, hv.1]
theorem e_range (F : Fr a N L D) (c : Nat → Nat) (j : Nat) {D0 : DataW Value} (hk : P.underlying K = some (.int .i64)) (ht : P.underlying t = some (.map K e)) (hm : ev L x = some (.map (some b))) (h : w.ownsMap P K MV.heldElem b n D0) :
    ∃ v w', (execOp a.eval { dst := d, op := .range t x, type := ty, pos := pos, after := af, guard := gd }).run P w = .ok (.value v) w' ∧
      ∃ c' r, v = .pointer (some ⟨r, 0, none⟩) ∧ r = w.heap.size ∧ c' r = j ∧ Ev No c w c' w' ∧ w'.ranges P K MV.heldElem b r n D0 (Maps.has D0) (Maps.size D0) ∧ ∀ m, CB m c w → j < m → CB m c' w' := by
  obtain ⟨w', hrun, hr, hg, hs⟩ := h.range (Maps.int_keyed hk) ht
  refine ⟨_, w', by simp [execOp, F.ev hm, hrun, Result.andThen], cset c w.heap.size j, w.heap.size, rfl, rfl, by unfold cset; rw [if_pos rfl], ⟨hg.os, hg.tape, hg.output, hg.size, fun k hk => by unfold cset; rw [if_neg (by omega)], fun k hk _ => hg.block k hk (by simp)⟩, hr, fun m hm hj k hk => ?_⟩
  unfold cset
  split
  · exact hj
  · exact hm k (by omega)
theorem ranges_ev {M : Nat → Prop} {c' : Nat → Nat} {R : Value → Option (DataW Value × List MemPlace)} {r : Nat} {D0 : DataW Value} {left : Lit → Bool} {cnt : Nat} (h : w.ranges P K R b r n D0 left cnt) (E : Ev M c w c' w') (hb : ¬ M (c b)) (hr : ¬ M (c r)) : w'.ranges P K R b r n D0 left cnt := by
  have h1 := h.owns.lt
  have h2 := h.lt
  obtain ⟨es, clock, since, seen, c0, q1, q2, q3, q4, q5, rest⟩ := h
  exact ⟨es, clock, since, seen, c0, (E.blk b h1 hb).trans q1, q2, q3, q4, (E.blk r h2 hr).trans q5, rest⟩
theorem q_next {ops : Array Oper} {rest : List Oper} {K0 : Act → World → Prop} {dd : Nat} {it : Operand} {r cnt : Nat} {D0 : DataW Value} {left : Lit → Bool} (F : Fr a N L D) (hN : dd < N) (hk : P.underlying K = some (.int .i64)) (hx : ev L it = some (.pointer (some ⟨r, 0, none⟩))) (h : w.ranges P K MV.heldElem b r n D0 left cnt)
    (done : (∀ kl, left kl = false) → ∀ a', Fr a' N ((dd, .tuple #[.bool false]) :: L) D → wL P ops K0 rest a' w)
    (more : ∀ (x : Int) (v : Value) w' cnt' a', left (.int .i64 x) = true → (∀ zd, D0.atKey (.int .i64 x) zd = .held v) → w'.ranges P K MV.heldElem b r n D0 (fun z => left z && !z.sameKey (.int .i64 x)) cnt' → cnt' < cnt → w.grownBy w' (some r) → w'.heap.size = w.heap.size →
      (Instr.entry (.pointer (some ⟨r, 0, none⟩))).run P w' = .ok (.tuple #[.int .i64 x, v]) w' → Fr a' N ((dd, .tuple #[.bool true, .int .i64 x, v]) :: L) D → wL P ops K0 rest a' w') :
    wL P ops K0 ({ dst := some dd, op := .next it false, type := ty, pos := pos, after := af, guard := none } :: rest) a w := by
  rcases h.next (Maps.int_keyed hk) ty with ⟨h0, hl, hrun⟩ | ⟨key, v, kl, y, w', cnt', hkey, hlk, hv, hat, hrun, hrg, hlt, hgr, hsz, hen⟩
  · exact q_val F rfl rfl hN (by simp [execOp, F.ev hx, hrun, Result.andThen]) fun a' F' => done hl a' F'
  · obtain ⟨x, rfl, rfl, _⟩ := Maps.keyOf_int_inv hk hkey
    have hy : y = (.held v, []) := by simp only [MV.heldElem, Option.some.injEq] at hv; exact hv.symm
    subst hy
    exact q_val F rfl rfl hN (by simp [execOp, F.ev hx, hrun, Result.andThen]) fun a' F' => more x v w' cnt' a' hlk hat hrg hlt hgr hsz hen F'
theorem r_entry (F : Fr a N L D) (hx : ev L x = some u) (hrun : (Instr.entry u).run P w = .ok v w) : (execOp a.eval { dst := d, op := .entry x, type := ty, pos := pos, after := af, guard := gd }).run P w = .ok (.value v) w := by
  simp [execOp, F.ev hx, hrun, Result.andThen]
end
/-! ### the lists -/
theorem rising_len : ∀ {l : List Int} {lo hi : Int}, l.Pairwise (· < ·) → (∀ x ∈ l, lo ≤ x ∧ x < hi) → l.length ≤ (hi - lo).toNat
  | [], _, _, _, _ => Nat.zero_le _
  | x :: l, lo, hi, h, hb => by
    obtain ⟨h1, h2⟩ := List.pairwise_cons.1 h
    have := rising_len (lo := x + 1) (hi := hi) h2 fun y hy => ⟨by have := h1 y hy; omega, (hb y (by simp [hy])).2⟩
    have := hb x (by simp)
    simp only [List.length_cons]; omega
def homeL (S : RS) (v : Int) (i : Nat) : List Int := (List.map (fun n : Nat => (n : Int)) (List.range i)).filter fun s => decide (S.wh s = none ∧ S.where_ s = v)
theorem homeL_succ (S : RS) (v : Int) (i : Nat) : homeL S v (i + 1) = if S.wh i = none ∧ S.where_ i = v then homeL S v i ++ [(i : Int)] else homeL S v i := by
  unfold homeL
  rw [List.range_succ, List.map_append, List.filter_append]
  simp only [List.map_cons, List.map_nil, List.filter_cons, List.filter_nil]
  by_cases h : S.wh i = none ∧ S.where_ i = v
  · rw [if_pos h, if_pos (decide_eq_true h)]
  · rw [if_neg h, if_neg (by simpa using h)]; simp
theorem homeL_len (S : RS) (v : Int) (i : Nat) : (homeL S v i).length ≤ i := by
  unfold homeL; exact Nat.le_trans (List.length_filter_le _ _) (by simp)
theorem mem_homeL (S : RS) (v x : Int) (i : Nat) : x ∈ homeL S v i ↔ (0 ≤ x ∧ x < i) ∧ S.wh x = none ∧ S.where_ x = v := by
  unfold homeL
  rw [List.mem_filter, List.mem_map]
  constructor
  · rintro ⟨⟨n, hn, rfl⟩, h⟩
    exact ⟨by have := List.mem_range.1 hn; omega, of_decide_eq_true h⟩
  · rintro ⟨h, h2⟩
    exact ⟨⟨x.toNat, List.mem_range.2 (by omega), by omega⟩, decide_eq_true h2⟩
theorem homeL_nodup (S : RS) (v : Int) (i : Nat) : (homeL S v i).Nodup := by
  unfold homeL
  refine List.Pairwise.filter _ ?_
  rw [List.pairwise_map]
  exact List.pairwise_lt_range.imp (fun h => by omega)
theorem rising_eq : ∀ {l m : List Int}, l.Pairwise (· < ·) → m.Pairwise (· < ·) → (∀ x, x ∈ l ↔ x ∈ m) → l = m
  | [], [], _, _, _ => rfl
  | [], y :: m, _, _, h => by have := (h y).2 (by simp); cases this
  | x :: l, [], _, _, h => by have := (h x).1 (by simp); cases this
  | x :: l, y :: m, hl, hm, h => by
    obtain ⟨h1, h2⟩ := List.pairwise_cons.1 hl
    obtain ⟨h3, h4⟩ := List.pairwise_cons.1 hm
    have hxy : x = y := by
      rcases List.mem_cons.1 ((h x).1 (by simp)) with e | e
      · exact e
      · rcases List.mem_cons.1 ((h y).2 (by simp)) with e2 | e2
        · exact e2.symm
        · have := h3 x e; have := h1 y e2; omega
    subst hxy
    congr 1
    refine rising_eq h2 h4 fun z => ⟨fun hz => ?_, fun hz => ?_⟩
    · rcases List.mem_cons.1 ((h z).1 (by simp [hz])) with e | e
      · subst e; have := h1 z hz; omega
      · exact e
    · rcases List.mem_cons.1 ((h z).2 (by simp [hz])) with e | e
      · subst e; have := h3 z hz; omega
      · exact e
theorem sortI_rises {l : List Int} (h : l.Nodup) : (sortI l).Pairwise (· < ·) := by
  have hs : (sortI l).Pairwise (fun x y => decide (x ≤ y) = true) := List.pairwise_mergeSort (le := fun x y : Int => decide (x ≤ y)) (fun a b c h1 h2 => by simp at h1 h2 ⊢; omega) (fun a b => by simp; omega) l
  have hn : (sortI l).Nodup := (List.mergeSort_perm l _).nodup_iff.2 h
  exact (List.Pairwise.and hs hn).imp (fun {a b} hab => by have h1 := of_decide_eq_true hab.1; have h2 : a ≠ b := hab.2; omega)
theorem at_sorted {S : RS} {v : Int} {ks : List Int} (hN : 0 ≤ S.shards) (h0 : 1 ≤ S.servers) (hk : ∀ k u, S.wh k = some u → 0 ≤ k ∧ k < S.shards) (hd : ks.Nodup) (hm : ∀ x, x ∈ ks ↔ S.wh x = some v) : sortI (homeL S v S.shards.toNat ++ ks) = atV S v := by
  have hnd : (homeL S v S.shards.toNat ++ ks).Nodup := by
    refine List.nodup_append.2 ⟨homeL_nodup _ _ _, hd, fun x h1 y h2 e => ?_⟩
    subst e
    have q1 := ((mem_homeL _ _ _ _).1 h1).2.1
    rw [(hm x).1 h2] at q1
    cases q1
  refine rising_eq (sortI_rises hnd) ?_ fun x => ?_
  · unfold atV
    refine List.Pairwise.filter _ ?_
    rw [List.pairwise_map]
    exact List.pairwise_lt_range.imp (fun h => by omega)
  · have e1 : x ∈ sortI (homeL S v S.shards.toNat ++ ks) ↔ x ∈ homeL S v S.shards.toNat ++ ks := (List.mergeSort_perm _ _).mem_iff
    have e2 : x ∈ atV S v ↔ (0 ≤ x ∧ x < S.shards) ∧ S.where_ x = v := by
      unfold atV
      rw [List.mem_filter, List.mem_map]
      constructor
      · rintro ⟨⟨n, hn, rfl⟩, h⟩
        exact ⟨by have := List.mem_range.1 hn; omega, of_decide_eq_true h⟩
      · rintro ⟨h, h2⟩
        exact ⟨⟨x.toNat, List.mem_range.2 (by omega), by omega⟩, decide_eq_true h2⟩
    rw [e1, e2, List.mem_append, mem_homeL, hm]
    have hw : ∀ u, S.wh x = some u → 0 ≤ x → x < S.shards → S.where_ x = u := fun u hu i0 i1 => by
      unfold RS.where_
      rw [if_pos (by unfold RS.is; simp; omega), hu]
    constructor
    · rintro (⟨h1, h2, h3⟩ | h)
      · exact ⟨by omega, h3⟩
      · have := hk x v h
        exact ⟨this, hw v h this.1 this.2⟩
    · rintro ⟨h1, h2⟩
      cases hx : S.wh x with
      | none => exact .inl ⟨by omega, rfl, h2⟩
      | some u => right; rw [← h2, hw u hx h1.1 h1.2]
/-! ### the walk -/
theorem agm : ∀ w, (isAgg 56).run Try.prog w = .ok false w := fun _ => by kernel_rfl
theorem agi : ∀ w, (isAgg 3).run Try.prog w = .ok false w := fun _ => by kernel_rfl
theorem ffs : ∀ q w, (Instr.fieldAt 59 (.pointer (some q)) 1).run Try.prog w = .ok (.pointer (some (q.add 1))) w := fun _ _ => by kernel_rfl
theorem ffw : ∀ q w, (Instr.fieldAt 59 (.pointer (some q)) 2).run Try.prog w = .ok (.pointer (some (q.add 2))) w := fun _ _ => by kernel_rfl
theorem ff4 : ∀ q w, (Instr.fieldAt 59 (.pointer (some q)) 4).run Try.prog w = .ok (.pointer (some (q.add 4))) w := fun _ _ => by kernel_rfl
theorem ff5 : ∀ q w, (Instr.fieldAt 59 (.pointer (some q)) 5).run Try.prog w = .ok (.pointer (some (q.add 5))) w := fun _ _ => by kernel_rfl
theorem ff6 : ∀ q w, (Instr.fieldAt 59 (.pointer (some q)) 6).run Try.prog w = .ok (.pointer (some (q.add 6))) w := fun _ _ => by kernel_rfl
theorem etl : ET Try.prog 22 3 1 8 (.int .i64 0) := ⟨Try.underlying22, info_parts' (by kernel_rfl), rfl⟩
theorem rep_at {w : World} {F : Nat → Prop} {b n : Nat} {S : RS} {m1 m2 : Nat} {T : Int → Option Value} {c : Nat → Nat} {j : Nat} (h : Rep w F b n S m1 m2 T) (hc : c b = j) : AT true j c w ⟨b, 0, none⟩ [.int .i64 S.servers, .int .i64 S.shards, .map (some m1), .map (some m2), .int .i64 S.good, .int .i64 S.hints, .int .i64 S.moved] :=
  ⟨b, 0, _, _, (0, 0), rfl, h.blk, hc, fun k hk => by rw [Nat.zero_add]; unfold RS.cells; exact (Array.getElem?_toList (xs := #[Value.int .i64 S.servers, .int .i64 S.shards, .map (some m1), .map (some m2), .int .i64 S.good, .int .i64 S.hints, .int .i64 S.moved])).symm, fun _ k hk => by omega⟩
set_option maxRecDepth 100000 in
set_option maxHeartbeats 4000000 in
theorem route_Route_At.calls {m : Nat} {c0 : Nat → Nat} {w0 : World} {j4 : Nat} {p2 : Option Addr} {a1 : Option Rou} {a5 : Int} (hm0 : 0 < m) (B0 : CB m c0 w0) (h3 : RU j4 c0 w0 p2 a1) (bj4 : j4 < m) (jr : Nat) (bjr : jr < m) (r_ : List Int) (H : route_Route_At.f a1 a5 = some r_) :
    Calls Try.prog 18 #[.pointer p2, .int .i64 a5] w0 (fun e w_ => ∃ (c_ : Nat → Nat) (A0_ : Option Addr) (C0_ : Nat), e = .returned (.slice A0_ r_.length C0_) ∧ Ev (fun x => False) c0 w0 c_ w_ ∧ CB m c_ w_ ∧ SL true (Kint .i64) jr 0 c_ w_ A0_ C0_ r_) := by
  rcases a1 with _ | q
  · have h3 : p2 = none := h3
    subst h3
    have H := Option.some.inj H
    subst H
    refine (at_nil a5 w0).mono ?_
    rintro e w' ⟨rfl, hd⟩
    exact ⟨newc w0 c0 jr, none, 0, rfl, ev_below hd.below jr, cb_newc B0 bjr, SL.nil⟩
  dsimp only [route_Route_At.f] at H
  have hr := (Option.some.inj H).symm
  clear H
  have h3' := h3
  obtain ⟨b, m1_, m2_, T_, rfl, R0, hkeys⟩ := h3'
  have hs0 := R0.s0; have hs1 := R0.s1; have hh0 := R0.h0; have hh1 := R0.h1
  clear R0
  have B := B0.mono (show m ≤ m + 3 by omega)
  have E : Ev (fun x => False ∨ m ≤ x) c0 w0 c0 w0 := Ev.refl
  refine enter (N := 64) (l := [.pointer (some ⟨b, 0, none⟩), .int .i64 a5]) Try.func18 rfl rfl (Nat.le_of_ble_eq_true rfl) fun a F => ?_
  refine wp_seq_k fun K1 hK1 => ?_
  refine reg ?_
  refine q_val F rfl rfl (by decide) (r_assign F rfl) fun a F => ?_
  refine nil ?_
  refine hK1 _ _ ?_
  refine wp_seq_k fun K2 hK2 => ?_
  refine reg ?_
  refine q_val F rfl rfl (by decide) (r_assign F rfl) fun a F => ?_
  refine nil ?_
  refine hK2 _ _ ?_
  refine wp_seq_k fun K3 hK3 => ?_
  refine wp_seq_k fun K4 hK4 => ?_
  refine reg ?_
  refine q_val F rfl rfl (by decide) (r_move F rfl) fun a F => ?_
  refine q_val F rfl rfl (by decide) (r_peql F Try.underlying24 rfl rfl) fun a F => ?_
  refine nil ?_
  refine hK4 _ _ ?_
  refine wp_cond_false (F.ev rfl) ?_
  refine wp_skip ?_
  refine hK3 _ _ ?_
  refine wp_seq_k fun K5 hK5 => ?_
  refine wp_seq_k fun K6 hK6 => ?_
  refine reg ?_
  obtain ⟨b_, m1, m2, T, eb, R, _⟩ := h3
  cases eb
  have hat := rep_at R R.fb
  refine q_val F rfl rfl (by decide) (r_move F rfl) fun a F => ?_
  refine q_val F rfl rfl (by decide) (r_nil F rfl) fun a F => ?_
  refine q_val F rfl rfl (by decide) (r_fieldAddr F rfl ffs) fun a F => ?_
  refine q_val F rfl rfl (by decide) (r_load F rfl agi (AT.cell hat (n := 1) rfl)) fun a F => ?_
  refine q_val F rfl rfl (by decide) (r_move F rfl) fun a F => ?_
  refine nil ?_
  refine hK6 _ _ ?_
  refine wp_block ?_
  have h3 : RU j4 c0 w0 (some ⟨b, 0, none⟩) (some q) := ⟨b, m1, m2, T, rfl, R, hkeys⟩
  clear hat R
  -- behind the first loop
  have J1 : ∀ (A : Option Addr) (C : Nat) (c : Nat → Nat) (w : World) (a : Act), Fr a 64 [(0, .pointer (some ⟨b, 0, none⟩)), (1, .int .i64 a5), (5, .slice A (homeL q.s a5 q.s.shards.toNat).length C)] → Ev (fun x => False ∨ m ≤ x) c0 w0 c w → CB (m + 3) c w → RU j4 c w (some ⟨b, 0, none⟩) (some q) → SL true (Kint .i64) m 0 c w A C (homeL q.s a5 q.s.shards.toNat) → K5 a w := by
    clear F E B h3
    intro A C c w a F E B h3 hS
    refine hK5 _ _ ?_
    refine wp_seq_k fun K7 hK7 => ?_
    refine wp_seq_k fun K8 hK8 => ?_
    refine reg ?_
    obtain ⟨b_, m1, m2, T, eb, R, _⟩ := h3
    cases eb
    have hat := rep_at R R.fb
    refine q_val F rfl rfl (by decide) (r_move F rfl) fun a F => ?_
    refine q_val F rfl rfl (by decide) (r_nil F rfl) fun a F => ?_
    refine q_val F rfl rfl (by decide) (r_fieldAddr F rfl ffw) fun a F => ?_
    refine q_val F rfl rfl (by decide) (r_load F rfl agm (AT.cell hat (n := 2) rfl)) fun a F => ?_
    obtain ⟨D0, hD, hDk⟩ := R.vm1
    have hcm : c m1 = j4 := R.f1
    have hDs : ∀ x, Maps.has D0 (.int .i64 x) = (q.s.wh x).isSome := fun x => by
      have := (hDk x).2
      rw [this]
      show (Option.map (Value.int .i64) (q.s.wh x)).isSome = _
      cases q.s.wh x <;> rfl
    have hDv : ∀ x z, D0.atKey (.int .i64 x) (.held z) = .held ((Option.map (Value.int .i64) (q.s.wh x)).getD z) := fun x z => (hDk x).1 z
    clear hat R
    refine q_eff F rfl rfl (by decide) (e_range F c (m + 1) Try.underlying3 Try.underlying56 rfl hD) ?_
    rintro v w1 a ⟨c1, r, rfl, er, hcr, E1, hrg, B1⟩ F
    have B := B1 _ B (by omega)
    have hcm : c1 m1 = j4 := (E1.col _ hD.lt).trans hcm
    have hS := hS.ev E1 (fun q => q.elim) (fun q => q.elim)
    have E := E.trans E1 (fun x q => q.elim)
    refine nil ?_
    refine hK8 _ _ ?_
    refine wp_block ?_
    -- behind the second loop
    have J2 : ∀ (ks : List Int) (A : Option Addr) (C : Nat) (c : Nat → Nat) (w : World) (a : Act), Fr a 64 [(5, .slice A (homeL q.s a5 q.s.shards.toNat ++ ks).length C)] → Ev (fun x => False ∨ m ≤ x) c0 w0 c w → CB (m + 3) c w → SL true (Kint .i64) m 0 c w A C (homeL q.s a5 q.s.shards.toNat ++ ks) → ks.length ≤ 64 → ks.Nodup → (∀ x, x ∈ ks ↔ q.s.wh x = some a5) → K7 a w := by
      clear F E B hS
      intro ks A C c w a F E B hS hl hn hm
      refine hK7 _ _ ?_
      refine wp_seq_k fun K9 hK9 => ?_
      refine reg ?_
      refine q_val F rfl rfl (by decide) (r_move F rfl) fun a F => ?_
      have hlen : (homeL q.s a5 q.s.shards.toNat ++ ks).length < 4611686018427387904 := by have := homeL_len q.s a5 q.s.shards.toNat; rw [List.length_append]; omega
      refine q_call F rfl rfl (by decide) (r_call F Try.func27 rfl (by kernel_rfl) rfl) (slices_Sort.calls B hS (by omega) hlen) ?_
      rintro e w1 ⟨c1, rfl, E1, B1, hS1⟩
      refine ⟨_, rfl, fun a F => ?_⟩
      have E := E.trans E1 (fun x q => by replace q : x = m := q; show False ∨ m ≤ x; omega)
      refine nil ?_
      refine hK9 _ _ ?_
      refine wp_seq_k fun K10 hK10 => ?_
      refine reg ?_
      refine q_val F rfl rfl (by decide) (r_move F rfl) fun a F => ?_
      refine q_val F rfl rfl (by decide) (r_assign F rfl) fun a F => ?_
      refine nil ?_
      refine hK10 _ _ ?_
      refine wp_ret ?_
      have es : sortI (homeL q.s a5 q.s.shards.toNat ++ ks) = r_ := hr ▸ at_sorted (by omega) hs0 hkeys hn hm
      refine out1 F rfl rfl ?_
      refine ⟨fun b_ => (fun x_ => if x_ = m then jr else if x_ < m then x_ else 0) (c1 b_), A, C, ?_, E.leave B0 (fun x_ => if x_ = m then jr else if x_ < m then x_ else 0) (by intro x_ hx_; show (if x_ = m then jr else if x_ < m then x_ else 0) = x_; ((repeat' split) <;> omega)), (fun b_ hb_ => by show (if (c1 b_) = m then jr else if (c1 b_) < m then (c1 b_) else 0) < m; ((repeat' split) <;> omega)), ?_⟩
      · rw [← es, sortI_length]
      · rw [← es]
        exact SL.rc hS1 (fun k_ hk_ => by show (if (c1 k_) = m then jr else if (c1 k_) < m then (c1 k_) else 0) = _; rw [hk_]; ((repeat' split) <;> omega)) (fun k_ hk_ => by show (if (c1 k_) = m then jr else if (c1 k_) < m then (c1 k_) else 0) = _; rw [hk_]; ((repeat' split) <;> omega))
    refine loop_fuel (I := fun n a w => ∃ (left : Lit → Bool) (ks : List Int) (A : Option Addr) (C : Nat) (c : Nat → Nat), Fr a 64 [(1, .int .i64 a5), (5, .slice A (homeL q.s a5 q.s.shards.toNat ++ ks).length C), (48, .pointer (some ⟨r, 0, none⟩))] ∧ Ev (fun x => False ∨ m ≤ x) c0 w0 c w ∧ CB (m + 3) c w ∧ w.ranges Try.prog 3 MV.heldElem m1 r q.n D0 left n ∧ c m1 = j4 ∧ c r = m + 1 ∧ SL true (Kint .i64) m 0 c w A C (homeL q.s a5 q.s.shards.toNat ++ ks) ∧ ks.Nodup ∧ (∀ x, x ∈ ks ↔ (q.s.wh x = some a5 ∧ left (.int .i64 x) = false)) ∧ (∀ kl, left kl = true → Maps.has D0 kl = true)) (k := Maps.size D0)
      ⟨Maps.has D0, [], A, C, c1, F.sub ⟨rfl, by rw [List.append_nil]; rfl, rfl, trivial⟩, E, B, hrg, hcm, hcr, by rw [List.append_nil]; exact hS, List.nodup_nil, fun x => ⟨fun h => (by cases h), fun h => (by have := hDs x; rw [h.1, h.2] at this; cases this)⟩, fun kl h => h⟩ ?_
    clear F E B hS hrg hcm hcr E1 B1
    intro n X hX a w ⟨left, ks, A, C, c, F, E, B, hrg, hcm, hcr, hS, hn, hm, hh⟩
    have hlen : ks.length ≤ 64 := by
      have e := sortI_length ks
      have := rising_len (lo := 0) (hi := 64) (sortI_rises hn) fun x hx => by
        have := hkeys x a5 ((hm x).1 ((List.mergeSort_perm ks _).mem_iff.1 hx)).1
        omega
      omega
    refine wp_seq_k fun K11 hK11 => ?_
    refine reg ?_
    refine q_next F (by decide) Try.underlying3 rfl hrg ?_ ?_
    · intro hl a F
      refine q_val F rfl rfl (by decide) (r_extract F rfl rfl) fun a F => ?_
      refine nil ?_
      refine hK11 _ _ ?_
      refine wp_seq_k fun K12 hK12 => ?_
      refine wp_cond_false (F.ev rfl) ?_
      refine wp_exit ?_
      repeat (first | refine thenE ?_ | refine inbE ?_)
      exact J2 ks A C c w a (F.sub ⟨rfl, trivial⟩) E B hS hlen hn fun x => ⟨fun h => ((hm x).1 h).1, fun h => (hm x).2 ⟨h, hl _⟩⟩
    · intro x v w1 cnt1 a hlx hat hrg1 hlt hgr hsz hen F
      have E1 : Ev (fun x => x = m + 1) c w c w1 := ⟨hgr.os, hgr.tape, hgr.output, hgr.size, fun _ _ => rfl, fun k hk hm => hgr.block k hk (fun e => hm (by injection e with e; rw [e]; exact hcr))⟩
      obtain ⟨u, hu⟩ : ∃ u, q.s.wh x = some u := by
        have h1 := hh _ hlx
        rw [hDs x] at h1
        cases e : q.s.wh x with
        | none => rw [e] at h1; cases h1
        | some u => exact ⟨u, rfl⟩
      have hv : v = .int .i64 u := by
        have h1 := hat (.held undef)
        rw [hDv x undef, hu] at h1
        injection h1 with h1
        exact h1.symm
      subst hv
      have B := B.size hsz
      have hS := hS.ev E1 (by show ¬ (m = m + 1); omega) (by show ¬ (0 = m + 1); omega)
      have E := E.trans E1 (fun x q => by replace q : x = m + 1 := q; show False ∨ m ≤ x; omega)
      refine q_val F rfl rfl (by decide) (r_extract F rfl rfl) fun a F => ?_
      refine nil ?_
      refine hK11 _ _ ?_
      refine wp_seq_k fun K12 hK12 => ?_
      refine wp_cond_true (F.ev rfl) ?_
      refine wp_skip ?_
      refine hK12 _ _ ?_
      refine wp_block ?_
      refine wp_seq_k fun K13 hK13 => ?_
      refine reg ?_
      refine q_val F rfl rfl (by decide) (r_entry F rfl hen) fun a F => ?_
      refine q_val F rfl rfl (by decide) (r_extract F rfl rfl) fun a F => ?_
      refine q_val F rfl rfl (by decide) (r_extract F rfl rfl) fun a F => ?_
      refine q_val F rfl rfl (by decide) (r_assign F rfl) fun a F => ?_
      refine q_val F rfl rfl (by decide) (r_assign F rfl) fun a F => ?_
      refine nil ?_
      refine hK13 _ _ ?_
      refine wp_seq_k fun K14 hK14 => ?_
      refine reg ?_
      refine q_val F rfl rfl (by decide) (r_move F rfl) fun a F => ?_
      refine q_val F rfl rfl (by decide) (r_move F rfl) fun a F => ?_
      refine q_val F rfl rfl (by decide) (r_eql F rfl rfl) fun a F => ?_
      refine nil ?_
      refine hK14 _ _ ?_
      have hleft : ∀ y, (left (.int .i64 y) && !(Lit.int .i64 y).sameKey (.int .i64 x)) = false ↔ left (.int .i64 y) = false ∨ y = x := fun y => by
        by_cases e : y = x
        · subst e
          rw [WideAt.sameKey_self (show WideAt.IsKeyLit (.int .i64 y) from trivial)]
          simp
        · have : (Lit.int .i64 y).sameKey (.int .i64 x) = false := by
            cases hs : (Lit.int .i64 y).sameKey (.int .i64 x)
            · rfl
            · have := WideAt.sameKey_eq hs; injection this with _ h; exact absurd h e
          rw [this]; simp [e]
      have hh' : ∀ kl, (left kl && !kl.sameKey (.int .i64 x)) = true → Maps.has D0 kl = true := fun kl h => hh kl (by simp only [Bool.and_eq_true] at h; exact h.1)
      by_cases c1 : u = a5
      · refine wp_cond_true ((F.ev rfl).trans (congrArg Value.bool (decide_eq_true c1))) ?_
        subst c1
        refine reg ?_
        refine q_val F rfl rfl (by decide) (r_move F rfl) fun a F => ?_
        refine q_val F rfl rfl (by decide) (r_move F rfl) fun a F => ?_
        refine q_eff F rfl rfl (by decide) (e_buildSlice (n := 1) (e := 3) (c := c) (k := Kint .i64) (i := 0) F [(0, .int .i64 x)] [.int .i64 x] ([x] : List Int) (by exact ⟨rfl, rfl, trivial⟩) (fun w => by kernel_rfl) rfl (by decide) rfl ⟨rfl, trivial⟩ (fun q => q) (m + 2)) ?_
        rintro v w2 a ⟨c2, A2, C2, rfl, E2, h2, B2⟩ F
        have B := B2 _ B (by omega)
        have hS := hS.ev E2 (fun q => q.elim) (fun q => q.elim)
        have hrg2 := ranges_ev hrg1 E2 (fun q => q.elim) (fun q => q.elim)
        have hcm2 : c2 m1 = j4 := (E2.col _ hrg1.owns.lt).trans hcm
        have hcr2 : c2 r = m + 1 := (E2.col _ hrg1.lt).trans hcr
        have E := E.trans E2 (fun x q => q.elim)
        have hl1 : (homeL q.s u q.s.shards.toNat ++ ks).length + 1 ≤ 1000 := by have := homeL_len q.s u q.s.shards.toNat; rw [List.length_append]; omega
        refine q_eff F rfl rfl (by decide) (e_append (k := Kint .i64) (xs := homeL q.s u q.s.shards.toNat ++ ks) (ys := [x]) (c := c2) (j := m) (i := 0) F etl rfl rfl hS h2 (by simp only [List.length_cons, List.length_nil]; omega) (by unfold maxLen; simp only [List.length_cons, List.length_nil]; omega) (by omega)) ?_
        rintro v w3 a ⟨c3, A3, C3, rfl, E3, h3, B3⟩ F
        have B := B3 _ B (by omega)
        have hrg3 := ranges_ev hrg2 E3 (by show ¬ (c2 m1 = m); omega) (by show ¬ (c2 r = m); omega)
        have hcm3 : c3 m1 = j4 := (E3.col _ hrg2.owns.lt).trans hcm2
        have hcr3 : c3 r = m + 1 := (E3.col _ hrg2.lt).trans hcr2
        have E := E.trans E3 (fun x q => by replace q : x = m := q; show False ∨ m ≤ x; omega)
        refine q_val F rfl rfl (by decide) (r_assign F rfl) fun a F => ?_
        refine nil ?_
        rw [List.append_assoc] at h3
        refine hX _ _ _ hlt ⟨_, ks ++ [x], A3, C3, c3, F.sub ⟨rfl, by rw [← List.append_assoc]; rfl, rfl, trivial⟩, E, B, hrg3, hcm3, hcr3, h3, ?_, fun y => ?_, hh'⟩
        · refine List.nodup_append.2 ⟨hn, by simp, fun y h1 z h2 e => ?_⟩
          simp only [List.mem_singleton] at h2
          subst h2; subst e
          have := ((hm y).1 h1).2
          rw [hlx] at this; cases this
        · rw [List.mem_append, hm, List.mem_singleton, hleft]
          constructor
          · rintro (⟨h1, h2⟩ | rfl)
            · exact ⟨h1, .inl h2⟩
            · exact ⟨hu, .inr rfl⟩
          · rintro ⟨h1, h2 | h2⟩
            · exact .inl ⟨h1, h2⟩
            · exact .inr h2
      · refine wp_cond_false ((F.ev rfl).trans (congrArg Value.bool (decide_eq_false c1))) ?_
        refine wp_skip ?_
        refine hX _ _ _ hlt ⟨_, ks, A, C, c, F.sub ⟨rfl, rfl, rfl, trivial⟩, E, B, hrg1, hcm, hcr, hS, hn, fun y => ?_, hh'⟩
        rw [hm, hleft]
        constructor
        · rintro ⟨h1, h2⟩; exact ⟨h1, .inl h2⟩
        · rintro ⟨h1, h2 | h2⟩
          · exact ⟨h1, h2⟩
          · subst h2; rw [hu] at h1; exact absurd (Option.some.inj h1) c1
  refine loop_fuel (I := fun n a w => ∃ (i : Nat) (A : Option Addr) (C : Nat) (c : Nat → Nat), Fr a 64 [(0, .pointer (some ⟨b, 0, none⟩)), (1, .int .i64 a5), (5, .slice A (homeL q.s a5 i).length C), (17, .int .i64 q.s.shards), (18, .int .i64 i)] ∧ Ev (fun x => False ∨ m ≤ x) c0 w0 c w ∧ CB (m + 3) c w ∧ RU j4 c w (some ⟨b, 0, none⟩) (some q) ∧ SL true (Kint .i64) m 0 c w A C (homeL q.s a5 i) ∧ (i : Int) ≤ q.s.shards ∧ n = q.s.shards.toNat - i) (k := q.s.shards.toNat) ⟨0, none, 0, c0, F.sub ⟨rfl, rfl, rfl, rfl, rfl, trivial⟩, E, B, h3, SL.nil, by omega, by omega⟩ ?_
  clear F E B h3
  intro n X hX a w ⟨i, A, C, c, F, E, B, h3, hS, hi, en⟩
  refine wp_seq_k fun K7 hK7 => ?_
  refine reg ?_
  refine q_val F rfl rfl (by decide) (r_lss F rfl rfl) fun a F => ?_
  refine nil ?_
  refine hK7 _ _ ?_
  refine wp_seq_k fun K8 hK8 => ?_
  by_cases hb : (i : Int) < q.s.shards
  · refine wp_cond_true ((F.ev rfl).trans (congrArg Value.bool (decide_eq_true hb))) ?_
    refine wp_skip ?_
    refine hK8 _ _ ?_
    refine wp_seq_k fun K9 hK9 => ?_
    refine wp_block ?_
    refine wp_seq_k fun K10 hK10 => ?_
    refine reg ?_
    refine q_val F rfl rfl (by decide) (r_move F rfl) fun a F => ?_
    refine q_val F rfl rfl (by decide) (r_assign F rfl) fun a F => ?_
    refine nil ?_
    refine hK10 _ _ ?_
    refine wp_seq_k fun K11 hK11 => ?_
    refine reg ?_
    have h3' := h3
    obtain ⟨b_, m1, m2, T, eb, R, _⟩ := h3'
    cases eb
    have hat := rep_at R R.fb
    refine q_val F rfl rfl (by decide) (r_move F rfl) fun a F => ?_
    refine q_val F rfl rfl (by decide) (r_nil F rfl) fun a F => ?_
    refine q_val F rfl rfl (by decide) (r_fieldAddr F rfl ffw) fun a F => ?_
    refine q_val F rfl rfl (by decide) (r_load F rfl agm (AT.cell hat (n := 2) rfl)) fun a F => ?_
    refine q_val F rfl rfl (by decide) (r_move F rfl) fun a F => ?_
    refine q_val F rfl rfl (by decide) (r_lookup_ok F Try.underlying3 Try.underlying56 (zeroInt _) rfl rfl R.vm1 (fits_wf (by omega))) fun a F => ?_
    refine q_val F rfl rfl (by decide) (r_move F rfl) fun a F => ?_
    refine q_val F rfl rfl (by decide) (r_extract F rfl rfl) fun a F => ?_
    refine q_val F rfl rfl (by decide) (r_extract F rfl rfl) fun a F => ?_
    refine q_val F rfl rfl (by decide) (r_assign F rfl) fun a F => ?_
    refine q_val F rfl rfl (by decide) (r_assign F rfl) fun a F => ?_
    refine nil ?_
    refine hK11 _ _ ?_
    clear hat R
    -- behind the round
    have J3 : ∀ (A : Option Addr) (C : Nat) (c : Nat → Nat) (w : World) (a : Act), Fr a 64 [(0, .pointer (some ⟨b, 0, none⟩)), (1, .int .i64 a5), (5, .slice A (homeL q.s a5 (i + 1)).length C), (17, .int .i64 q.s.shards), (18, .int .i64 i)] → Ev (fun x => False ∨ m ≤ x) c0 w0 c w → CB (m + 3) c w → RU j4 c w (some ⟨b, 0, none⟩) (some q) → SL true (Kint .i64) m 0 c w A C (homeL q.s a5 (i + 1)) → K9 a w := by
      clear F E B h3 hS
      intro A C c w a F E B h3 hS
      refine hK9 _ _ ?_
      refine reg ?_
      refine q_val F rfl rfl (by decide) (r_add F rfl rfl) fun a F => ?_
      refine q_val F rfl rfl (by decide) (r_move F rfl) fun a F => ?_
      refine nil ?_
      have ew : IntKind.i64.wrap ((i : Int) + 1) = ((i + 1 : Nat) : Int) := by rw [IntKind.wrap_i64]; omega
      rw [ew] at F
      exact hX _ _ _ (show q.s.shards.toNat - (i + 1) < n by omega) ⟨i + 1, A, C, c, F.sub ⟨rfl, rfl, rfl, rfl, rfl, trivial⟩, E, B, h3, hS, by omega, rfl⟩
    refine wp_seq_k fun K12 hK12 => ?_
    refine reg ?_
    refine q_val F rfl rfl (by decide) (r_move F rfl) fun a F => ?_
    refine q_val F rfl rfl (by decide) (r_not F rfl) fun a F => ?_
    refine q_val F rfl rfl (by decide) (r_move F rfl) fun a F => ?_
    cases hw : q.s.wh i with
    | none =>
      rw [hw] at F
      have hb1 : (!(Option.map (Value.int .i64) (none : Option Int)).isSome) = true := rfl
      refine q_yes F rfl (by decide) rfl hb1 ?_
      refine q_val F rfl rfl (by decide) (r_move F rfl) fun a F => ?_
      refine q_yes F rfl (by decide) rfl hb1 ?_
      refine q_val F rfl rfl (by decide) (r_move F rfl) fun a F => ?_
      refine q_yes F rfl (by decide) rfl hb1 ?_
      refine q_call F rfl rfl (by decide) (r_call F Try.func14 rfl (by kernel_rfl) rfl) (route_Route_Where.calls (m := m + 3) (by omega) B h3 (by omega) _ rfl) ?_
      rintro e w1 ⟨c1, rfl, E1, B1⟩
      refine ⟨_, rfl, fun a F => ?_⟩
      have B := B1
      have h3 := h3.ev E1 (fun q => q) (fun q => q)
      have hS := hS.ev E1 (fun q => q) (fun q => q)
      have E := E.trans E1 (fun x q => q.elim)
      refine q_yes F rfl (by decide) rfl hb1 ?_
      refine q_val F rfl rfl (by decide) (r_move F rfl) fun a F => ?_
      refine q_yes F rfl (by decide) rfl hb1 ?_
      refine q_val F rfl rfl (by decide) (r_eql F rfl rfl) fun a F => ?_
      refine q_val F rfl rfl (by decide) (r_pick_t F rfl hb1 rfl) fun a F => ?_
      refine nil ?_
      refine hK12 _ _ ?_
      by_cases hb2 : q.s.where_ i = a5
      · refine wp_cond_true ((F.ev rfl).trans (congrArg Value.bool (decide_eq_true hb2))) ?_
        have eL := homeL_succ q.s a5 i
        rw [if_pos ⟨hw, hb2⟩] at eL
        refine reg ?_
        refine q_val F rfl rfl (by decide) (r_move F rfl) fun a F => ?_
        refine q_val F rfl rfl (by decide) (r_move F rfl) fun a F => ?_
        refine q_eff F rfl rfl (by decide) (e_buildSlice (n := 1) (e := 3) (c := c1) (k := Kint .i64) (i := 0) F [(0, .int .i64 i)] [.int .i64 i] ([(i : Int)] : List Int) (by exact ⟨rfl, rfl, trivial⟩) (fun w => by kernel_rfl) rfl (by decide) rfl ⟨rfl, trivial⟩ (fun q => q) (m + 2)) ?_
        rintro v w2 a ⟨c2, A2, C2, rfl, E2, h2, B2⟩ F
        have B := B2 _ B (by omega)
        have h3 := h3.ev E2 (fun q => q.elim) (fun q => q.elim)
        have hS := hS.ev E2 (fun q => q.elim) (fun q => q.elim)
        have E := E.trans E2 (fun x q => q.elim)
        have hl1 := homeL_len q.s a5 i
        refine q_eff F rfl rfl (by decide) (e_append (k := Kint .i64) (xs := homeL q.s a5 i) (ys := [(i : Int)]) (c := c2) (j := m) (i := 0) F etl rfl rfl hS h2 (by simp only [List.length_cons, List.length_nil]; omega) (by unfold maxLen; simp only [List.length_cons, List.length_nil]; omega) (by omega)) ?_
        rintro v w4 a ⟨c4, A4, C4, rfl, E4, h4, B4⟩ F
        have B := B4 _ B (by omega)
        have h3 := h3.ev E4 (by show ¬ (j4 = m); omega) (by show ¬ (0 = m); omega)
        have E := E.trans E4 (fun x q => by replace q : x = m := q; show False ∨ m ≤ x; omega)
        refine q_val F rfl rfl (by decide) (r_assign F rfl) fun a F => ?_
        refine nil ?_
        rw [← eL] at h4
        exact J3 A4 C4 c4 w4 a (F.sub ⟨rfl, rfl, by rw [eL]; rfl, rfl, rfl, trivial⟩) E B h3 h4
      · refine wp_cond_false ((F.ev rfl).trans (congrArg Value.bool (decide_eq_false hb2))) ?_
        refine wp_skip ?_
        have eL := homeL_succ q.s a5 i
        rw [if_neg (fun h => hb2 h.2)] at eL
        exact J3 A C c1 w1 a (F.sub ⟨rfl, rfl, by rw [eL]; rfl, rfl, rfl, trivial⟩) E B h3 (by rw [eL]; exact hS)
    | some u =>
      rw [hw] at F
      have hb1 : (!(Option.map (Value.int .i64) (some u : Option Int)).isSome) = !true := rfl
      refine q_no F rfl (by decide) rfl hb1 (by decide) fun a F => ?_
      refine q_no F rfl (by decide) rfl hb1 (by decide) fun a F => ?_
      refine q_no F rfl (by decide) rfl hb1 (by decide) fun a F => ?_
      refine q_no F rfl (by decide) rfl hb1 (by decide) fun a F => ?_
      refine q_no F rfl (by decide) rfl hb1 (by decide) fun a F => ?_
      refine q_val F rfl rfl (by decide) (r_pick_f F rfl rfl rfl) fun a F => ?_
      refine nil ?_
      refine hK12 _ _ ?_
      refine wp_cond_false (F.ev rfl) ?_
      refine wp_skip ?_
      have eL := homeL_succ q.s a5 i
      rw [if_neg (fun h => by rw [hw] at h; cases h.1)] at eL
      exact J3 A C c w a (F.sub ⟨rfl, rfl, by rw [eL]; rfl, rfl, rfl, trivial⟩) E B h3 (by rw [eL]; exact hS)
  · refine wp_cond_false ((F.ev rfl).trans (congrArg Value.bool (decide_eq_false hb))) ?_
    refine wp_exit ?_
    repeat (first | refine thenE ?_ | refine inbE ?_)
    have ei : i = q.s.shards.toNat := by omega
    subst ei
    exact J1 A C c w a (F.sub ⟨rfl, rfl, rfl, trivial⟩) E B h3 hS
set_option maxRecDepth 100000 in
set_option maxHeartbeats 2000000 in
theorem route_Route_Counts.calls {m : Nat} {c0 : Nat → Nat} {w0 : World} {j4 : Nat} {p2 : Option Addr} {a1 : Option Rou} (hm0 : 0 < m) (B0 : CB m c0 w0) (h3 : RU j4 c0 w0 p2 a1) (bj4 : j4 < m) (r : Int × Int × Int) (H : route_Route_Counts.f a1 = some r) :
    Calls Try.prog 22 #[.pointer p2] w0 (fun e w_ => ∃ (c_ : Nat → Nat), e = .returned (.tuple #[.int .i64 r.1, .int .i64 r.2.1, .int .i64 r.2.2]) ∧ Ev (fun x => False) c0 w0 c_ w_ ∧ CB m c_ w_) := by
  rcases a1 with _ | q
  · have h3 : p2 = none := h3
    subst h3
    have H := Option.some.inj H
    subst H
    refine enter (N := 19) (l := [.pointer none]) Try.func22 rfl rfl (Nat.le_of_ble_eq_true rfl) fun a F => ?_
    refine wp_seq_k fun K1 hK1 => ?_
    refine reg ?_
    refine q_val F rfl rfl (by decide) (r_assign F rfl) fun a F => ?_
    refine q_val F rfl rfl (by decide) (r_assign F rfl) fun a F => ?_
    refine q_val F rfl rfl (by decide) (r_assign F rfl) fun a F => ?_
    refine nil ?_
    refine hK1 _ _ ?_
    refine wp_seq_k fun K2 hK2 => ?_
    refine wp_seq_k fun K3 hK3 => ?_
    refine reg ?_
    refine q_val F rfl rfl (by decide) (r_move F rfl) fun a F => ?_
    refine q_val F rfl rfl (by decide) (r_peql F Try.underlying24 rfl rfl) fun a F => ?_
    refine nil ?_
    refine hK3 _ _ ?_
    refine wp_cond_true (F.ev rfl) ?_
    refine wp_seq_k fun K4 hK4 => ?_
    refine reg ?_
    refine q_val F rfl rfl (by decide) (r_assign F rfl) fun a F => ?_
    refine q_val F rfl rfl (by decide) (r_assign F rfl) fun a F => ?_
    refine q_val F rfl rfl (by decide) (r_assign F rfl) fun a F => ?_
    refine nil ?_
    refine hK4 _ _ ?_
    refine wp_ret ?_
    repeat (first | refine thenR ?_ | refine inbR ?_)
    refine out3 F rfl rfl rfl rfl ?_
    exact ⟨c0, rfl, Ev.refl, B0⟩
  dsimp only [route_Route_Counts.f] at H
  have hr := Option.some.inj H
  subst hr
  clear H
  obtain ⟨b, m1, m2, T, rfl, R, hkeys⟩ := h3
  have hat := rep_at R R.fb
  refine enter (N := 19) (l := [.pointer (some ⟨b, 0, none⟩)]) Try.func22 rfl rfl (Nat.le_of_ble_eq_true rfl) fun a F => ?_
  refine wp_seq_k fun K1 hK1 => ?_
  refine reg ?_
  refine q_val F rfl rfl (by decide) (r_assign F rfl) fun a F => ?_
  refine q_val F rfl rfl (by decide) (r_assign F rfl) fun a F => ?_
  refine q_val F rfl rfl (by decide) (r_assign F rfl) fun a F => ?_
  refine nil ?_
  refine hK1 _ _ ?_
  refine wp_seq_k fun K2 hK2 => ?_
  refine wp_seq_k fun K3 hK3 => ?_
  refine reg ?_
  refine q_val F rfl rfl (by decide) (r_move F rfl) fun a F => ?_
  refine q_val F rfl rfl (by decide) (r_peql F Try.underlying24 rfl rfl) fun a F => ?_
  refine nil ?_
  refine hK3 _ _ ?_
  refine wp_cond_false (F.ev rfl) ?_
  refine wp_skip ?_
  refine hK2 _ _ ?_
  refine wp_seq_k fun K4 hK4 => ?_
  refine regD (SB No c0 w0) 15 (.q 0 (.q 1 (.q 2 (.q 3 (.q 4 (.q 5 (.q 6 (.q 7 (.q 8 (.q 9 (.q 10 (.q 11 (.q 12 (.q 13 (.q 14 .nil))))))))))))))) Try_hm (by decide +kernel) ?_
  intro w1 w1_ w2_ w3_ w4_
  have ER : Ev No c0 w0 c0 w1 := Ev.same w1_ w2_ w3_ w4_
  have B := B0.same w1_
  refine d_q F rfl rfl rfl (by decide) (fun wq hS => r_move F rfl) ER.sb fun a F => ?_
  refine d_q F rfl rfl rfl (by decide) (fun wq hS => r_nil F rfl) ER.sb fun a F => ?_
  refine d_q F rfl rfl rfl (by decide) (fun wq hS => r_fieldAddr F rfl ff4) ER.sb fun a F => ?_
  refine d_q F rfl rfl rfl (by decide) (fun wq hS => r_load F rfl agi (AT.cell (AT.sb hat hS (fun q => q.elim)) (n := 4) rfl)) ER.sb fun a F => ?_
  refine d_q F rfl rfl rfl (by decide) (fun wq hS => r_move F rfl) ER.sb fun a F => ?_
  refine d_q F rfl rfl rfl (by decide) (fun wq hS => r_nil F rfl) ER.sb fun a F => ?_
  refine d_q F rfl rfl rfl (by decide) (fun wq hS => r_fieldAddr F rfl ff5) ER.sb fun a F => ?_
  refine d_q F rfl rfl rfl (by decide) (fun wq hS => r_load F rfl agi (AT.cell (AT.sb hat hS (fun q => q.elim)) (n := 5) rfl)) ER.sb fun a F => ?_
  refine d_q F rfl rfl rfl (by decide) (fun wq hS => r_move F rfl) ER.sb fun a F => ?_
  refine d_q F rfl rfl rfl (by decide) (fun wq hS => r_nil F rfl) ER.sb fun a F => ?_
  refine d_q F rfl rfl rfl (by decide) (fun wq hS => r_fieldAddr F rfl ff6) ER.sb fun a F => ?_
  refine d_q F rfl rfl rfl (by decide) (fun wq hS => r_load F rfl agi (AT.cell (AT.sb hat hS (fun q => q.elim)) (n := 6) rfl)) ER.sb fun a F => ?_
  refine d_q F rfl rfl rfl (by decide) (fun wq hS => r_assign F rfl) ER.sb fun a F => ?_
  refine d_q F rfl rfl rfl (by decide) (fun wq hS => r_assign F rfl) ER.sb fun a F => ?_
  refine d_q F rfl rfl rfl (by decide) (fun wq hS => r_assign F rfl) ER.sb fun a F => ?_
  refine d_nil ?_
  refine hK4 _ _ ?_
  refine wp_ret ?_
  refine out3 F rfl rfl rfl rfl ?_
  exact ⟨c0, rfl, ER.mono (fun _ q => q.elim), B⟩
end Go.Proofs.Ytohljkjaggcapaa.G
namespace Go.Proofs.Ytohljkjaggcapaa.G
open Go Go.RowKit
set_option linter.unusedVariables false
set_option linter.unusedSimpArgs false
set_option maxRecDepth 100000 in
set_option maxHeartbeats 4000000 in
theorem haulagelaw23_num.calls {m : Nat} {c0 : Nat → Nat} {w0 : World} {a1 : Int} (hm0 : 0 < m) (B0 : CB m c0 w0) (r : Int) (H : haulagelaw23_num.f a1 = some r) : Calls Try.prog 11 #[.int .i64 a1] w0 (fun e w_ => ∃ (c_ : Nat → Nat), e = .returned (.int .i64 r) ∧ Ev (fun x => False) c0 w0 c_ w_ ∧ CB m c_ w_) := by
  unfold haulagelaw23_num.f at H
  have B := B0.mono (show m ≤ m + 1 by omega)
  have E : Ev (fun x => False ∨ m ≤ x) c0 w0 c0 w0 := Ev.refl
  refine enter (N := 4) (l := [.int .i64 a1]) Try.func11 rfl rfl (Nat.le_of_ble_eq_true rfl) fun a F => ?_
  refine wp_seq_k fun K2 hK2 => ?_
  refine reg ?_
  refine q_val F rfl rfl (by decide) (r_assign F rfl) fun a F => ?_
  refine nil ?_
  refine hK2 _ _ ?_
  refine wp_seq_k fun K3 hK3 => ?_
  refine reg ?_
  refine q_val F rfl rfl (by decide) (r_move F rfl) fun a F => ?_
  refine q_val F rfl rfl (by decide) (r_assign F rfl) fun a F => ?_
  refine nil ?_
  refine hK3 _ _ ?_
  refine wp_ret ?_
  replace H := Option.some.inj H
  subst H
  refine out1 F rfl rfl ?_
  exact ⟨fun b_ => (fun x_ => if x_ < m then x_ else 0) (c0 b_), rfl, E.leave B0 (fun x_ => if x_ < m then x_ else 0) (by intro x_ hx_; show (if x_ < m then x_ else 0) = x_; ((repeat' split) <;> omega)), (fun b_ hb_ => by show (if (c0 b_) < m then (c0 b_) else 0) < m; ((repeat' split) <;> omega))⟩
end Go.Proofs.Ytohljkjaggcapaa.G
namespace Go.Proofs.Ytohljkjaggcapaa.G
open Go Go.RowKit
set_option linter.unusedVariables false
set_option linter.unusedSimpArgs false
set_option maxRecDepth 100000 in
set_option maxHeartbeats 4000000 in
theorem haulagelaw23_ints.calls (k : Nat) {m : Nat} {c0 : Nat → Nat} {w0 : World} {j5 : Nat} {j10 : Nat} {A2 : Option Addr} {C3 : Nat} {A7 : Option Addr} {C8 : Nat} {a1 : List Int} {a6 : List Int} (hm0 : 0 < m) (B0 : CB m c0 w0) (h4 : SL false (Kint .i64) j5 0 c0 w0 A2 C3 a1) (h9 : SL false (Kint .i64) j10 0 c0 w0 A7 C8 a6) (bj5 : j5 < m) (bj10 : j10 < m) (r : Bool) (H : haulagelaw23_ints.f k a1 a6 = some r) : Calls Try.prog 15 #[.slice A2 a1.length C3, .slice A7 a6.length C8] w0 (fun e w_ => ∃ (c_ : Nat → Nat), e = .returned (.bool r) ∧ Ev (fun x => False) c0 w0 c_ w_ ∧ CB m c_ w_) := by
  unfold haulagelaw23_ints.f at H
  have B := B0.mono (show m ≤ m + 1 by omega)
  have E : Ev (fun x => False ∨ m ≤ x) c0 w0 c0 w0 := Ev.refl
  refine enter (N := 26) (l := [.slice A2 a1.length C3, .slice A7 a6.length C8]) Try.func15 rfl rfl (Nat.le_of_ble_eq_true rfl) fun a F => ?_
  refine wp_seq_k fun K11 hK11 => ?_
  refine reg ?_
  refine q_val F rfl rfl (by decide) (r_assign F rfl) fun a F => ?_
  refine nil ?_
  refine hK11 _ _ ?_
  refine wp_seq_k fun K12 hK12 => ?_
  refine wp_seq_k fun K13 hK13 => ?_
  refine reg ?_
  refine q_val F rfl rfl (by decide) (r_move F rfl) fun a F => ?_
  refine q_val F rfl rfl (by decide) (r_lensl F Try.underlying22 rfl) fun a F => ?_
  refine q_val F rfl rfl (by decide) (r_move F rfl) fun a F => ?_
  refine q_val F rfl rfl (by decide) (r_lensl F Try.underlying22 rfl) fun a F => ?_
  refine q_val F rfl rfl (by decide) (r_neq F rfl rfl) fun a F => ?_
  refine nil ?_
  refine hK13 _ _ ?_
  by_cases hb14 : (a1.length : Int) = (a6.length : Int)
  · replace H := (if_pos hb14).symm.trans H
    refine wp_cond_false ((F.ev rfl).trans (congrArg Value.bool (congrArg not (decide_eq_true hb14)))) ?_
    refine wp_skip ?_
    refine hK12 _ _ ?_
    refine wp_seq_k fun K16 hK16 => ?_
    refine wp_seq_k fun K17 hK17 => ?_
    refine reg ?_
    refine q_val F rfl rfl (by decide) (r_assign F rfl) fun a F => ?_
    refine nil ?_
    refine hK17 _ _ ?_
    refine wp_block ?_
    obtain ⟨x28, HL, HR27⟩ := bind_some H
    have J55 : ∀ (c56 : Nat → Nat) (w57 : World) (a : Act), Fr a 26 [] → Ev (fun x => False ∨ m ≤ x) c0 w0 c56 w57 → CB (m + 1) c56 w57 → haulagelaw23_ints.j2 = some r → K16 a w57 := by
      intro c56 w57 a  F E B  H
      unfold haulagelaw23_ints.j2 at H
      refine hK16 _ _ ?_
      refine wp_seq_k fun K58 hK58 => ?_
      refine reg ?_
      refine q_val F rfl rfl (by decide) (r_assign F rfl) fun a F => ?_
      refine nil ?_
      refine hK58 _ _ ?_
      refine wp_ret ?_
      replace H := Option.some.inj H
      subst H
      refine out1 F rfl rfl ?_
      exact ⟨fun b_ => (fun x_ => if x_ < m then x_ else 0) (c56 b_), rfl, E.leave B0 (fun x_ => if x_ < m then x_ else 0) (by intro x_ hx_; show (if x_ < m then x_ else 0) = x_; ((repeat' split) <;> omega)), (fun b_ hb_ => by show (if (c56 b_) < m then (c56 b_) else 0) < m; ((repeat' split) <;> omega))⟩
    refine loop_fuel (I := fun n a w => ∃ (i18 : Int) (c : Nat → Nat), Fr a 26 [(0, .slice A2 a1.length C3), (1, .slice A7 a6.length C8), (5, .int .i64 i18)] ∧ Ev (fun x => False ∨ m ≤ x) c0 w0 c w ∧ CB (m + 1) c w ∧ SL false (Kint .i64) j5 0 c w A2 C3 a1 ∧ SL false (Kint .i64) j10 0 c w A7 C8 a6 ∧ loop (fun (s_ : Int) => haulagelaw23_ints.b1 a1 a6 s_) n i18 = some x28) (k := k) ⟨0, c0, F.sub ⟨rfl, rfl, rfl, trivial⟩, E, B, h4, h9, HL⟩ ?_
    clear HL H E F B
    intro n25 X21 hX21 a w20 ⟨i18, c19, F, E, B, h4, h9, HL⟩
    obtain ⟨n26, ctl24, rfl, HB, HN22, HD23⟩ := loop_some HL
    have H : haulagelaw23_ints.b1 a1 a6 i18 = some ctl24 := HB
    clear HB HL
    unfold haulagelaw23_ints.b1 at H
    refine wp_seq_k fun K29 hK29 => ?_
    refine wp_seq_k fun K30 hK30 => ?_
    refine reg ?_
    refine q_val F rfl rfl (by decide) (r_move F rfl) fun a F => ?_
    refine q_val F rfl rfl (by decide) (r_move F rfl) fun a F => ?_
    refine q_val F rfl rfl (by decide) (r_lensl F Try.underlying22 rfl) fun a F => ?_
    refine q_val F rfl rfl (by decide) (r_lss F rfl rfl) fun a F => ?_
    refine nil ?_
    refine hK30 _ _ ?_
    by_cases hb31 : i18 < (a1.length : Int)
    · replace H := (if_pos hb31).symm.trans H
      refine wp_cond_true ((F.ev rfl).trans (congrArg Value.bool (decide_eq_true hb31))) ?_
      refine wp_skip ?_
      refine hK29 _ _ ?_
      refine wp_seq_k fun K32 hK32 => ?_
      refine wp_block ?_
      refine wp_seq_k fun K33 hK33 => ?_
      refine regD (SB No c19 w20) 9 (.q 0 (.q 1 (.q 2 (.q 3 (.q 4 (.q 5 (.q 6 (.q 7 (.q 8 .nil))))))))) Try_hm (by decide +kernel) ?_
      intro w34 w1_ w2_ w3_ w4_
      have E35 : Ev No c19 w20 c19 w34 := Ev.same w1_ w2_ w3_ w4_
      replace B := B.same w1_
      have zh4 := h4
      have zh9 := h9
      have ER : Ev No c19 w20 c19 w34 := Ev.same w1_ w2_ w3_ w4_
      replace h4 := SL.ev h4 E35 (fun q => q.elim) (fun q => q.elim)
      replace h9 := SL.ev h9 E35 (fun q => q.elim) (fun q => q.elim)
      replace E := E.trans E35 (fun x q => q.elim)
      refine d_q F rfl rfl rfl (by decide) (fun wq hS => r_move F rfl) ER.sb fun a F => ?_
      refine d_q F rfl rfl rfl (by decide) (fun wq hS => r_move F rfl) ER.sb fun a F => ?_
      replace H := ifN H
      obtain ⟨g36, H⟩ := H
      obtain ⟨ad37, cs38, e39, h40, r41⟩ := SL.at zh4 i18 g36.1 g36.2
      obtain rfl : cs38 = [.int .i64 (rd a1 i18)] := r41
      obtain ⟨qa42, qqa42⟩ : ∃ q, q = (ad37.add (i18.toNat * 1)) := ⟨_, rfl⟩
      have h40 : AT false j5 c19 w20 qa42 [.int .i64 (rd a1 i18)] := by rw [qqa42]; exact h40
      have zh40 := h40
      replace h40 := AT.ev h40 ER (fun q => q.elim)
      refine d_q F rfl rfl rfl (by decide) (fun wq hS => r_indexAddr' F Try.underlying22 sz_3 rfl rfl g36.1 g36.2 e39 qqa42) ER.sb fun a F => ?_
      refine d_q F rfl rfl rfl (by decide) (fun wq hS => r_load F rfl ag_3 (AT.cell0 (AT.sb zh40 hS (fun q => q.elim)) rfl)) ER.sb fun a F => ?_
      refine d_q F rfl rfl rfl (by decide) (fun wq hS => r_move F rfl) ER.sb fun a F => ?_
      refine d_q F rfl rfl rfl (by decide) (fun wq hS => r_move F rfl) ER.sb fun a F => ?_
      replace H := ifN H
      obtain ⟨g44, H⟩ := H
      obtain ⟨ad45, cs46, e47, h48, r49⟩ := SL.at zh9 i18 g44.1 g44.2
      obtain rfl : cs46 = [.int .i64 (rd a6 i18)] := r49
      obtain ⟨qa50, qqa50⟩ : ∃ q, q = (ad45.add (i18.toNat * 1)) := ⟨_, rfl⟩
      have h48 : AT false j10 c19 w20 qa50 [.int .i64 (rd a6 i18)] := by rw [qqa50]; exact h48
      have zh48 := h48
      replace h48 := AT.ev h48 ER (fun q => q.elim)
      refine d_q F rfl rfl rfl (by decide) (fun wq hS => r_indexAddr' F Try.underlying22 sz_3 rfl rfl g44.1 g44.2 e47 qqa50) ER.sb fun a F => ?_
      refine d_q F rfl rfl rfl (by decide) (fun wq hS => r_load F rfl ag_3 (AT.cell0 (AT.sb zh48 hS (fun q => q.elim)) rfl)) ER.sb fun a F => ?_
      refine d_q F rfl rfl rfl (by decide) (fun wq hS => r_neq F rfl rfl) ER.sb fun a F => ?_
      refine d_nil ?_
      refine hK33 _ _ ?_
      replace F : Fr a 26 [(0, .slice A2 a1.length C3), (1, .slice A7 a6.length C8), (5, .int .i64 i18), (25, .bool (!decide ((rd a1 i18) = (rd a6 i18))))] := F.sub ⟨rfl, rfl, rfl, rfl, trivial⟩
      by_cases hb52 : (rd a1 i18) = (rd a6 i18)
      · replace H := (if_pos hb52).symm.trans H
        refine wp_cond_false ((F.ev rfl).trans (congrArg Value.bool (congrArg not (decide_eq_true hb52)))) ?_
        refine wp_skip ?_
        refine hK32 _ _ ?_
        refine reg ?_
        refine q_val F rfl rfl (by decide) (r_move F rfl) fun a F => ?_
        refine q_val F rfl rfl (by decide) (r_add F rfl rfl) fun a F => ?_
        refine q_val F rfl rfl (by decide) (r_assign F rfl) fun a F => ?_
        refine nil ?_
        replace H := HN22 _ (Option.some.inj H).symm
        exact hX21 _ _ _ (Nat.lt_succ_self _) ⟨(IntKind.i64.wrap (i18 + 1)), c19, F.sub ⟨rfl, rfl, rfl, trivial⟩, E, B, h4, h9, H⟩
      · replace H := (if_neg hb52).symm.trans H
        refine wp_cond_true ((F.ev rfl).trans (congrArg Value.bool (congrArg not (decide_eq_false hb52)))) ?_
        refine wp_seq_k fun K53 hK53 => ?_
        refine reg ?_
        refine q_val F rfl rfl (by decide) (r_assign F rfl) fun a F => ?_
        refine nil ?_
        refine hK53 _ _ ?_
        refine wp_ret ?_
        refine inbR ?_
        refine thenR ?_
        refine thenR ?_
        refine inbR ?_
        refine thenR ?_
        have hx_ := HD23 _ (Option.some.inj H).symm
        have H := HR27
        rw [← hx_] at H
        replace H : some false = some r := H
        replace H := Option.some.inj H
        subst H
        refine out1 F rfl rfl ?_
        exact ⟨fun b_ => (fun x_ => if x_ < m then x_ else 0) (c19 b_), rfl, E.leave B0 (fun x_ => if x_ < m then x_ else 0) (by intro x_ hx_; show (if x_ < m then x_ else 0) = x_; ((repeat' split) <;> omega)), (fun b_ hb_ => by show (if (c19 b_) < m then (c19 b_) else 0) < m; ((repeat' split) <;> omega))⟩
    · replace H := (if_neg hb31).symm.trans H
      refine wp_cond_false ((F.ev rfl).trans (congrArg Value.bool (decide_eq_false hb31))) ?_
      refine wp_exit ?_
      refine thenE ?_
      refine thenE ?_
      refine inbE ?_
      have hx_ := HD23 _ (Option.some.inj H).symm
      have H := HR27
      rw [← hx_] at H
      exact J55 c19 w20 a  (F.sub trivial) E B  H
  · replace H := (if_neg hb14).symm.trans H
    refine wp_cond_true ((F.ev rfl).trans (congrArg Value.bool (congrArg not (decide_eq_false hb14)))) ?_
    refine wp_seq_k fun K15 hK15 => ?_
    refine reg ?_
    refine q_val F rfl rfl (by decide) (r_assign F rfl) fun a F => ?_
    refine nil ?_
    refine hK15 _ _ ?_
    refine wp_ret ?_
    refine thenR ?_
    replace H := Option.some.inj H
    subst H
    refine out1 F rfl rfl ?_
    exact ⟨fun b_ => (fun x_ => if x_ < m then x_ else 0) (c0 b_), rfl, E.leave B0 (fun x_ => if x_ < m then x_ else 0) (by intro x_ hx_; show (if x_ < m then x_ else 0) = x_; ((repeat' split) <;> omega)), (fun b_ hb_ => by show (if (c0 b_) < m then (c0 b_) else 0) < m; ((repeat' split) <;> omega))⟩
end Go.Proofs.Ytohljkjaggcapaa.G
namespace Go.Proofs.Ytohljkjaggcapaa.G
open Go Go.RowKit
set_option linter.unusedVariables false
set_option linter.unusedSimpArgs false
set_option maxRecDepth 100000 in
set_option maxHeartbeats 4000000 in
theorem haulagelaw23_known.calls (k : Nat) {m : Nat} {c0 : Nat → Nat} {w0 : World} (hm0 : 0 < m) (B0 : CB m c0 w0) (r : Bool) (H : haulagelaw23_known.f k = some r) : Calls Try.prog 9 #[] w0 (fun e w_ => ∃ (c_ : Nat → Nat), e = .returned (.bool r) ∧ Ev (fun x => False) c0 w0 c_ w_ ∧ CB m c_ w_) := by
  unfold haulagelaw23_known.f at H
  have B := B0.mono (show m ≤ m + 2 by omega)
  have E : Ev (fun x => False ∨ m ≤ x) c0 w0 c0 w0 := Ev.refl
  refine enter (N := 42) (l := []) Try.func9 rfl rfl (Nat.le_of_ble_eq_true rfl) fun a F => ?_
  refine wp_seq_k fun K1 hK1 => ?_
  refine reg ?_
  refine q_val F rfl rfl (by decide) (r_assign F rfl) fun a F => ?_
  refine nil ?_
  refine hK1 _ _ ?_
  refine wp_seq_k fun K2 hK2 => ?_
  refine reg ?_
  replace H := bind_some H
  obtain ⟨t3, q4, H⟩ := H
  refine q_call F rfl rfl (by decide) (r_call F Try.func10 rfl (by kernel_rfl) rfl) (route_New.calls (m := m + 2) (Nat.add_pos_left hm0 _) B (m + 1) (Nat.add_lt_add_left (by decide) m) _ q4) ?_
  rintro e w6 ⟨c5, p9, rfl, E7, B8, h10⟩
  refine ⟨_, rfl, fun a F => ?_⟩
  have B := B8
  replace E := E.trans E7 (fun x q => q.elim)
  refine q_val F rfl rfl (by decide) (r_move F rfl) fun a F => ?_
  refine q_val F rfl rfl (by decide) (r_extract F rfl rfl) fun a F => ?_
  refine q_val F rfl rfl (by decide) (r_extract F rfl rfl) fun a F => ?_
  refine q_val F rfl rfl (by decide) (r_assign F rfl) fun a F => ?_
  refine q_val F rfl rfl (by decide) (r_assign F rfl) fun a F => ?_
  refine nil ?_
  refine hK2 _ _ ?_
  refine wp_seq_k fun K12 hK12 => ?_
  refine wp_seq_k fun K13 hK13 => ?_
  have J23 : ∀ (c24 : Nat → Nat) (w25 : World) (a : Act) (b22 : Bool), Fr a 42 [(1, .pointer p9), (16, .bool b22)] → Ev (fun x => False ∨ m ≤ x) c0 w0 c24 w25 → CB (m + 2) c24 w25 → RU (m + 1) c24 w25 p9 t3.1 → haulagelaw23_known.j1 k t3 b22 = some r → K13 a w25 := by
    intro c24 w25 a b22 F E B h10 H
    unfold haulagelaw23_known.j1 at H
    refine hK13 _ _ ?_
    by_cases hb26 : b22 = true
    · replace H := (if_pos hb26).symm.trans H
      refine wp_cond_true ((F.ev rfl).trans (congrArg Value.bool hb26)) ?_
      refine wp_seq_k fun K27 hK27 => ?_
      refine reg ?_
      refine q_val F rfl rfl (by decide) (r_assign F rfl) fun a F => ?_
      refine nil ?_
      refine hK27 _ _ ?_
      refine wp_ret ?_
      refine thenR ?_
      replace H := Option.some.inj H
      subst H
      refine out1 F rfl rfl ?_
      exact ⟨fun b_ => (fun x_ => if x_ < m then x_ else 0) (c24 b_), rfl, E.leave B0 (fun x_ => if x_ < m then x_ else 0) (by intro x_ hx_; show (if x_ < m then x_ else 0) = x_; ((repeat' split) <;> omega)), (fun b_ hb_ => by show (if (c24 b_) < m then (c24 b_) else 0) < m; ((repeat' split) <;> omega))⟩
    · replace H := (if_neg hb26).symm.trans H
      refine wp_cond_false ((F.ev rfl).trans (congrArg Value.bool (bfalse hb26))) ?_
      refine wp_skip ?_
      refine hK12 _ _ ?_
      refine wp_seq_k fun K28 hK28 => ?_
      refine reg ?_
      refine q_val F rfl rfl (by decide) (r_move F rfl) fun a F => ?_
      replace H := bind_some H
      obtain ⟨t29, q30, H⟩ := H
      refine q_call F rfl rfl (by decide) (r_call F Try.func12 rfl (by kernel_rfl) rfl) (route_Route_Fine.calls (m := m + 2) (Nat.add_pos_left hm0 _) B h10 (by omega) _ q30) ?_
      rintro e w32 ⟨c31, rfl, E33, B34, h35⟩
      refine ⟨_, rfl, fun a F => ?_⟩
      have B := B34
      replace E := E.trans E33 (fun x (q : x = m + 1) => Or.inr (le_col q))
      refine q_val F rfl rfl (by decide) (r_assign F rfl) fun a F => ?_
      refine nil ?_
      refine hK28 _ _ ?_
      refine wp_seq_k fun K37 hK37 => ?_
      refine reg ?_
      refine q_val F rfl rfl (by decide) (r_move F rfl) fun a F => ?_
      replace H := bind_some H
      obtain ⟨t38, q39, H⟩ := H
      refine q_call F rfl rfl (by decide) (r_call F Try.func13 rfl (by kernel_rfl) rfl) (route_Route_Hint.calls (m := m + 2) (Nat.add_pos_left hm0 _) B h35 (by omega) _ q39) ?_
      rintro e w41 ⟨c40, rfl, E42, B43, h44⟩
      refine ⟨_, rfl, fun a F => ?_⟩
      have B := B43
      replace E := E.trans E42 (fun x (q : x = m + 1) => Or.inr (le_col q))
      refine q_val F rfl rfl (by decide) (r_assign F rfl) fun a F => ?_
      refine nil ?_
      refine hK37 _ _ ?_
      refine wp_seq_k fun K46 hK46 => ?_
      refine reg ?_
      refine q_val F rfl rfl (by decide) (r_move F rfl) fun a F => ?_
      replace H := bind_some H
      obtain ⟨t47, q48, H⟩ := H
      refine q_call F rfl rfl (by decide) (r_call F Try.func13 rfl (by kernel_rfl) rfl) (route_Route_Hint.calls (m := m + 2) (Nat.add_pos_left hm0 _) B h44 (by omega) _ q48) ?_
      rintro e w50 ⟨c49, rfl, E51, B52, h53⟩
      refine ⟨_, rfl, fun a F => ?_⟩
      have B := B52
      replace E := E.trans E51 (fun x (q : x = m + 1) => Or.inr (le_col q))
      refine q_val F rfl rfl (by decide) (r_assign F rfl) fun a F => ?_
      refine nil ?_
      refine hK46 _ _ ?_
      refine wp_seq_k fun K55 hK55 => ?_
      refine reg ?_
      refine q_val F rfl rfl (by decide) (r_move F rfl) fun a F => ?_
      refine q_val F rfl rfl (by decide) (r_move F rfl) fun a F => ?_
      by_cases hb56 : t29.1 = true
      · replace H := (if_pos hb56).symm.trans H
        refine q_yes F rfl (by decide) rfl hb56 ?_
        refine q_val F rfl rfl (by decide) (r_move F rfl) fun a F => ?_
        refine q_yes F rfl (by decide) rfl hb56 ?_
        refine q_val F rfl rfl (by decide) (r_not F rfl) fun a F => ?_
        refine q_val F rfl rfl (by decide) (r_pick_t F rfl hb56 rfl) fun a F => ?_
        refine q_val F rfl rfl (by decide) (r_move F rfl) fun a F => ?_
        by_cases hb57 : t38.1 = true
        · replace H := (if_pos hb57).symm.trans H
          refine q_no F rfl (by decide) rfl (congrArg not hb57) (by decide) fun a F => ?_
          refine q_val F rfl rfl (by decide) (r_pick_f F rfl (congrArg not hb57) rfl) fun a F => ?_
          refine q_val F rfl rfl (by decide) (r_move F rfl) fun a F => ?_
          refine q_no F rfl (by decide) rfl rfl (by decide) fun a F => ?_
          refine q_no F rfl (by decide) rfl rfl (by decide) fun a F => ?_
          refine q_no F rfl (by decide) rfl rfl (by decide) fun a F => ?_
          refine q_val F rfl rfl (by decide) (r_pick_f F rfl rfl rfl) fun a F => ?_
          refine q_val F rfl rfl (by decide) (r_move F rfl) fun a F => ?_
          refine q_no F rfl (by decide) rfl rfl (by decide) fun a F => ?_
          refine q_no F rfl (by decide) rfl rfl (by decide) fun a F => ?_
          refine q_no F rfl (by decide) rfl rfl (by decide) fun a F => ?_
          refine q_no F rfl (by decide) rfl rfl (by decide) fun a F => ?_
          refine q_val F rfl rfl (by decide) (r_pick_f F rfl rfl rfl) fun a F => ?_
          refine q_val F rfl rfl (by decide) (r_assign F rfl) fun a F => ?_
          refine nil ?_
          refine hK55 _ _ ?_
          replace F : Fr a 42 [(0, .bool false)] := F.sub ⟨rfl, trivial⟩
          refine wp_ret ?_
          replace H := Option.some.inj H
          subst H
          refine out1 F rfl rfl ?_
          exact ⟨fun b_ => (fun x_ => if x_ < m then x_ else 0) (c49 b_), rfl, E.leave B0 (fun x_ => if x_ < m then x_ else 0) (by intro x_ hx_; show (if x_ < m then x_ else 0) = x_; ((repeat' split) <;> omega)), (fun b_ hb_ => by show (if (c49 b_) < m then (c49 b_) else 0) < m; ((repeat' split) <;> omega))⟩
        · replace H := (if_neg hb57).symm.trans H
          refine q_yes F rfl (by decide) rfl (congrArg not (bfalse hb57)) ?_
          refine q_val F rfl rfl (by decide) (r_move F rfl) fun a F => ?_
          refine q_val F rfl rfl (by decide) (r_pick_t F rfl (congrArg not (bfalse hb57)) rfl) fun a F => ?_
          refine q_val F rfl rfl (by decide) (r_move F rfl) fun a F => ?_
          by_cases hb58 : t47.1 = true
          · replace H := (if_pos hb58).symm.trans H
            refine q_yes F rfl (by decide) rfl hb58 ?_
            refine q_val F rfl rfl (by decide) (r_move F rfl) fun a F => ?_
            replace H := bind_some H
            obtain ⟨t59, q60, H⟩ := H
            refine q_yes F rfl (by decide) rfl hb58 ?_
            refine q_call F rfl rfl (by decide) (r_call F Try.func14 rfl (by kernel_rfl) rfl) (route_Route_Where.calls (m := m + 2) (Nat.add_pos_left hm0 _) B h53 (by omega) _ q60) ?_
            rintro e w62 ⟨c61, rfl, E63, B64⟩
            refine ⟨_, rfl, fun a F => ?_⟩
            have B := B64
            replace h53 := RU.ev h53 E63 (fun q => q.elim) (fun q => q.elim)
            replace E := E.trans E63 (fun x q => q.elim)
            refine q_yes F rfl (by decide) rfl hb58 ?_
            refine q_val F rfl rfl (by decide) (r_eql F rfl rfl) fun a F => ?_
            refine q_val F rfl rfl (by decide) (r_pick_t F rfl hb58 rfl) fun a F => ?_
            refine q_val F rfl rfl (by decide) (r_move F rfl) fun a F => ?_
            by_cases hb66 : t59 = 1
            · replace H := (if_pos hb66).symm.trans H
              refine q_yes F rfl (by decide) rfl (decide_eq_true hb66) ?_
              refine q_val F rfl rfl (by decide) (r_move F rfl) fun a F => ?_
              replace H := bind_some H
              obtain ⟨t67, q68, H⟩ := H
              refine q_yes F rfl (by decide) rfl (decide_eq_true hb66) ?_
              refine q_call F rfl rfl (by decide) (r_call F Try.func16 rfl (by kernel_rfl) rfl) (route_Route_Trail.calls (m := m + 2) (Nat.add_pos_left hm0 _) B h53 (by omega) 0 (Nat.add_pos_left hm0 _) _ q68) ?_
              rintro e w70 ⟨c69, A73, C74, rfl, E71, B72, h75⟩
              refine ⟨_, rfl, fun a F => ?_⟩
              have B := B72
              replace h53 := RU.ev h53 E71 (fun q => q.elim) (fun q => q.elim)
              replace E := E.trans E71 (fun x q => q.elim)
              refine q_yes F rfl (by decide) rfl (decide_eq_true hb66) ?_
              refine q_eff F rfl rfl (by decide) (e_buildSlice (n := 1) (e := 3) (c := c69) (k := (Kint .i64)) (i := 0) F [(0, .int .i64 2)] [.int .i64 2] ([2] : List Int) (by exact ⟨rfl, rfl, trivial⟩) (fun w => by kernel_rfl) rfl (by decide) rfl ⟨rfl, trivial⟩ (fun q => q) 0) ?_
              rintro v w78 a ⟨c77, A79, C80, rfl, E81, h82, B83⟩ F
              replace B := B83 _ B (Nat.add_pos_left hm0 _)
              replace h53 := RU.ev h53 E81 (fun q => q.elim) (fun q => q.elim)
              replace h75 := SL.ev h75 E81 (fun q => q.elim) (fun q => q.elim)
              replace E := E.trans E81 (fun x q => q.elim)
              replace H := bind_some H
              obtain ⟨t84, q85, H⟩ := H
              refine q_yes F rfl (by decide) rfl (decide_eq_true hb66) ?_
              refine q_call F rfl rfl (by decide) (r_call F Try.func15 rfl (by kernel_rfl) rfl) (haulagelaw23_ints.calls k (m := m + 2) (Nat.add_pos_left hm0 _) B h75.r h82.r (Nat.add_pos_left hm0 _) (Nat.add_pos_left hm0 _) _ q85) ?_
              rintro e w87 ⟨c86, rfl, E88, B89⟩
              refine ⟨_, rfl, fun a F => ?_⟩
              have B := B89
              replace h53 := RU.ev h53 E88 (fun q => q.elim) (fun q => q.elim)
              replace h75 := SL.ev h75 E88 (fun q => q.elim) (fun q => q.elim)
              replace h82 := SL.ev h82 E88 (fun q => q.elim) (fun q => q.elim)
              replace E := E.trans E88 (fun x q => q.elim)
              refine q_val F rfl rfl (by decide) (r_pick_t F rfl (decide_eq_true hb66) rfl) fun a F => ?_
              refine q_val F rfl rfl (by decide) (r_assign F rfl) fun a F => ?_
              refine nil ?_
              refine hK55 _ _ ?_
              replace F : Fr a 42 [(0, .bool t84)] := F.sub ⟨rfl, trivial⟩
              refine wp_ret ?_
              replace H := Option.some.inj H
              subst H
              refine out1 F rfl rfl ?_
              exact ⟨fun b_ => (fun x_ => if x_ < m then x_ else 0) (c86 b_), rfl, E.leave B0 (fun x_ => if x_ < m then x_ else 0) (by intro x_ hx_; show (if x_ < m then x_ else 0) = x_; ((repeat' split) <;> omega)), (fun b_ hb_ => by show (if (c86 b_) < m then (c86 b_) else 0) < m; ((repeat' split) <;> omega))⟩
            · replace H := (if_neg hb66).symm.trans H
              refine q_no F rfl (by decide) rfl (decide_eq_false hb66) (by decide) fun a F => ?_
              refine q_no F rfl (by decide) rfl (decide_eq_false hb66) (by decide) fun a F => ?_
              refine q_no F rfl (by decide) rfl (decide_eq_false hb66) (by decide) fun a F => ?_
              refine q_no F rfl (by decide) rfl (decide_eq_false hb66) (by decide) fun a F => ?_
              refine q_val F rfl rfl (by decide) (r_pick_f F rfl (decide_eq_false hb66) rfl) fun a F => ?_
              refine q_val F rfl rfl (by decide) (r_assign F rfl) fun a F => ?_
              refine nil ?_
              refine hK55 _ _ ?_
              replace F : Fr a 42 [(0, .bool false)] := F.sub ⟨rfl, trivial⟩
              refine wp_ret ?_
              replace H := Option.some.inj H
              subst H
              refine out1 F rfl rfl ?_
              exact ⟨fun b_ => (fun x_ => if x_ < m then x_ else 0) (c61 b_), rfl, E.leave B0 (fun x_ => if x_ < m then x_ else 0) (by intro x_ hx_; show (if x_ < m then x_ else 0) = x_; ((repeat' split) <;> omega)), (fun b_ hb_ => by show (if (c61 b_) < m then (c61 b_) else 0) < m; ((repeat' split) <;> omega))⟩
          · replace H := (if_neg hb58).symm.trans H
            refine q_no F rfl (by decide) rfl (bfalse hb58) (by decide) fun a F => ?_
            refine q_no F rfl (by decide) rfl (bfalse hb58) (by decide) fun a F => ?_
            refine q_no F rfl (by decide) rfl (bfalse hb58) (by decide) fun a F => ?_
            refine q_val F rfl rfl (by decide) (r_pick_f F rfl (bfalse hb58) rfl) fun a F => ?_
            refine q_val F rfl rfl (by decide) (r_move F rfl) fun a F => ?_
            refine q_no F rfl (by decide) rfl rfl (by decide) fun a F => ?_
            refine q_no F rfl (by decide) rfl rfl (by decide) fun a F => ?_
            refine q_no F rfl (by decide) rfl rfl (by decide) fun a F => ?_
            refine q_no F rfl (by decide) rfl rfl (by decide) fun a F => ?_
            refine q_val F rfl rfl (by decide) (r_pick_f F rfl rfl rfl) fun a F => ?_
            refine q_val F rfl rfl (by decide) (r_assign F rfl) fun a F => ?_
            refine nil ?_
            refine hK55 _ _ ?_
            replace F : Fr a 42 [(0, .bool false)] := F.sub ⟨rfl, trivial⟩
            refine wp_ret ?_
            replace H := Option.some.inj H
            subst H
            refine out1 F rfl rfl ?_
            exact ⟨fun b_ => (fun x_ => if x_ < m then x_ else 0) (c49 b_), rfl, E.leave B0 (fun x_ => if x_ < m then x_ else 0) (by intro x_ hx_; show (if x_ < m then x_ else 0) = x_; ((repeat' split) <;> omega)), (fun b_ hb_ => by show (if (c49 b_) < m then (c49 b_) else 0) < m; ((repeat' split) <;> omega))⟩
      · replace H := (if_neg hb56).symm.trans H
        refine q_no F rfl (by decide) rfl (bfalse hb56) (by decide) fun a F => ?_
        refine q_no F rfl (by decide) rfl (bfalse hb56) (by decide) fun a F => ?_
        refine q_val F rfl rfl (by decide) (r_pick_f F rfl (bfalse hb56) rfl) fun a F => ?_
        refine q_val F rfl rfl (by decide) (r_move F rfl) fun a F => ?_
        refine q_no F rfl (by decide) rfl rfl (by decide) fun a F => ?_
        refine q_val F rfl rfl (by decide) (r_pick_f F rfl rfl rfl) fun a F => ?_
        refine q_val F rfl rfl (by decide) (r_move F rfl) fun a F => ?_
        refine q_no F rfl (by decide) rfl rfl (by decide) fun a F => ?_
        refine q_no F rfl (by decide) rfl rfl (by decide) fun a F => ?_
        refine q_no F rfl (by decide) rfl rfl (by decide) fun a F => ?_
        refine q_val F rfl rfl (by decide) (r_pick_f F rfl rfl rfl) fun a F => ?_
        refine q_val F rfl rfl (by decide) (r_move F rfl) fun a F => ?_
        refine q_no F rfl (by decide) rfl rfl (by decide) fun a F => ?_
        refine q_no F rfl (by decide) rfl rfl (by decide) fun a F => ?_
        refine q_no F rfl (by decide) rfl rfl (by decide) fun a F => ?_
        refine q_no F rfl (by decide) rfl rfl (by decide) fun a F => ?_
        refine q_val F rfl rfl (by decide) (r_pick_f F rfl rfl rfl) fun a F => ?_
        refine q_val F rfl rfl (by decide) (r_assign F rfl) fun a F => ?_
        refine nil ?_
        refine hK55 _ _ ?_
        replace F : Fr a 42 [(0, .bool false)] := F.sub ⟨rfl, trivial⟩
        refine wp_ret ?_
        replace H := Option.some.inj H
        subst H
        refine out1 F rfl rfl ?_
        exact ⟨fun b_ => (fun x_ => if x_ < m then x_ else 0) (c49 b_), rfl, E.leave B0 (fun x_ => if x_ < m then x_ else 0) (by intro x_ hx_; show (if x_ < m then x_ else 0) = x_; ((repeat' split) <;> omega)), (fun b_ hb_ => by show (if (c49 b_) < m then (c49 b_) else 0) < m; ((repeat' split) <;> omega))⟩
  refine reg ?_
  refine q_val F rfl rfl (by decide) (r_move F rfl) fun a F => ?_
  replace H := bind_some H
  obtain ⟨t14, q15, H⟩ := H
  refine q_call F rfl rfl (by decide) (r_call F Try.func11 rfl (by kernel_rfl) rfl) (haulagelaw23_num.calls (m := m + 2) (Nat.add_pos_left hm0 _) B _ q15) ?_
  rintro e w17 ⟨c16, rfl, E18, B19⟩
  refine ⟨_, rfl, fun a F => ?_⟩
  have B := B19
  replace h10 := RU.ev h10 E18 (fun q => q.elim) (fun q => q.elim)
  replace E := E.trans E18 (fun x q => q.elim)
  refine q_val F rfl rfl (by decide) (r_neq F rfl rfl) fun a F => ?_
  refine q_val F rfl rfl (by decide) (r_move F rfl) fun a F => ?_
  by_cases hb21 : t14 = 0
  · replace H := (if_pos hb21).symm.trans H
    refine q_yes F rfl (by decide) rfl (congrArg not (decide_eq_true hb21)) ?_
    refine q_val F rfl rfl (by decide) (r_move F rfl) fun a F => ?_
    refine q_yes F rfl (by decide) rfl (congrArg not (decide_eq_true hb21)) ?_
    refine q_val F rfl rfl (by decide) (r_peqlA F Try.underlying24 rfl rfl (RU.isNone h10)) fun a F => ?_
    refine q_val F rfl rfl (by decide) (r_pick_f F rfl (congrArg not (decide_eq_true hb21)) rfl) fun a F => ?_
    refine nil ?_
    exact J23 c16 w17 a (Option.isNone t3.1) (F.sub ⟨rfl, rfl, trivial⟩) E B h10 H
  · replace H := (if_neg hb21).symm.trans H
    refine q_no F rfl (by decide) rfl (congrArg not (decide_eq_false hb21)) (by decide) fun a F => ?_
    refine q_no F rfl (by decide) rfl (congrArg not (decide_eq_false hb21)) (by decide) fun a F => ?_
    refine q_val F rfl rfl (by decide) (r_pick_t F rfl (congrArg not (decide_eq_false hb21)) rfl) fun a F => ?_
    refine nil ?_
    exact J23 c16 w17 a true (F.sub ⟨rfl, rfl, trivial⟩) E B h10 H
end Go.Proofs.Ytohljkjaggcapaa.G
namespace Go.Proofs.Ytohljkjaggcapaa.G
open Go Go.RowKit
set_option linter.unusedVariables false
set_option linter.unusedSimpArgs false
set_option maxRecDepth 100000 in
set_option maxHeartbeats 40000000 in
theorem haulagelaw23_RouteOwn.calls (k : Nat) {m : Nat} {c0 : Nat → Nat} {w0 : World} {A4 : Option Addr} {C5 : Nat} {a1 : Int} {a2 : Int} {a3 : List haulagelaw23_Op} {a7 : Int} {a8 : Int} (hm0 : 0 < m) (B0 : CB m c0 w0) (h6 : SL false K_haulagelaw23_Op 0 0 c0 w0 A4 C5 a3) (r : Bool) (H : haulagelaw23_RouteOwn.f k a1 a2 a3 a7 a8 = some r) : Calls Try.prog 5 #[.int .i64 a1, .int .i64 a2, .slice A4 a3.length C5, .int .i64 a7, .int .i64 a8] w0 (fun e w_ => ∃ (c_ : Nat → Nat), e = .returned (.bool r) ∧ Ev (fun x => False) c0 w0 c_ w_ ∧ CB m c_ w_) := by
  unfold haulagelaw23_RouteOwn.f at H; have B := B0.mono (show m ≤ m + 19 by omega); have E : Ev (fun x => False ∨ m ≤ x) c0 w0 c0 w0 := Ev.refl; refine enter (N := 297) (l := [.int .i64 a1, .int .i64 a2, .slice A4 a3.length C5, .int .i64 a7, .int .i64 a8]) Try.func5 rfl rfl (nb rfl) fun a F => ?_; refine sr fun K9 hK9 => qa F fun a F => nil (hK9 _ _ ?_); refine sq fun K10 hK10 => ?_; refine sr fun K11 hK11 => ?_; obtain ⟨t12, q13, H⟩ := bind_some H; refine qc F Try.func9 (haulagelaw23_known.calls k (m := m + 19) (pl hm0) B _ q13) ?_; rintro e w15 ⟨c14, rfl, E16, B⟩; refine rt fun a F => ?_; replace h6 := h6.ev E16; replace E := E.n E16
  as_aux_lemma =>
  refine qv F (r_not F rfl) fun a F => ?_; refine nil (hK11 _ _ ?_)
  by_cases hb19 : t12 = true
  · replace H := ip hb19 H; refine wcf (fb F (congrArg not hb19)) (wp_skip (hK10 _ _ ?_)); refine sr fun K21 hK21 => qm F fun a F => qm F fun a F => ?_; obtain ⟨t22, q23, H⟩ := bind_some H; refine qc F Try.func10 (route_New.calls (m := m + 19) (pl hm0) B (m + 1) lm _ q23) ?_; rintro e w25 ⟨c24, p28, rfl, E26, B, h29⟩; refine rt fun a F => ?_; replace h6 := h6.ev E26; replace E := E.n E26; refine qm F fun a F => ?_; refine qx F fun a F => ?_; refine qx F fun a F => ?_
    as_aux_lemma =>
    refine qa F fun a F => qa F fun a F => nil (hK21 _ _ ?_); replace F : Fr a 297 [(2, .slice A4 a3.length C5), (3, .int .i64 a7), (4, .int .i64 a8), (11, .pointer p28), (12, .int .i64 t22.2)] := F.sub ⟨rfl, rfl, rfl, rfl, rfl, trivial⟩; refine sq fun K31 hK31 => ?_; refine sr fun K32 hK32 => qm F fun a F => ?_; obtain ⟨t33, q34, H⟩ := bind_some H; refine qc F Try.func11 (haulagelaw23_num.calls (m := m + 19) (pl hm0) B _ q34) ?_; rintro e w36 ⟨c35, rfl, E37, B⟩; refine rt fun a F => ?_; replace h6 := h6.ev E37; replace h29 := h29.ev E37; replace E := E.n E37; refine qv F (r_neq F rfl rfl) fun a F => ?_; refine nil (hK32 _ _ ?_)
    by_cases hb40 : t33 = 0
    · replace H := ip hb40 H
      as_aux_lemma =>
      refine wcf (fb F (congrArg not (dt hb40))) (wp_skip (hK31 _ _ ?_)); refine sq fun K42 hK42 => ?_; refine sr fun K43 hK43 => qa F fun a F => nil (hK43 _ _ ?_); refine wp_block ?_; obtain ⟨x154, HL, HR153⟩ := bind_some H; have J243 : ∀ (c244 : Nat → Nat) (w245 : World) (a : Act) (o242 : Option Rou), Fr a 297 [(3, .int .i64 a7), (4, .int .i64 a8), (11, .pointer p28)] → Ev (fun x => False ∨ m ≤ x) c0 w0 c244 w245 → CB (m + 19) c244 w245 → RU (m + 1) c244 w245 p28 o242 → haulagelaw23_RouteOwn.j4 k a7 a8 o242 = some r → K42 a w245 := by
        intro c244 w245 a o242 F E B h241 H; unfold haulagelaw23_RouteOwn.j4 at H; refine hK42 _ _ ?_; refine sr fun K246 hK246 => qm F fun a F => qm F fun a F => ?_; obtain ⟨t247, q248, H⟩ := bind_some H; refine qc F Try.func16 (route_Route_Trail.calls (m := m + 19) (pl hm0) B h241 (by omega) (m + 2) lm _ q248) ?_; rintro e w250 ⟨c249, A253, C254, rfl, E251, B, h255⟩; refine rt fun a F => ?_
        as_aux_lemma =>
        replace h241 := h241.ev E251; replace E := E.n E251; refine qm F fun a F => qm F fun a F => ?_; obtain ⟨t257, q258, H⟩ := bind_some H; refine qc F Try.func16 (route_Route_Trail.calls (m := m + 19) (pl hm0) B h241 (by omega) (m + 3) lm _ q258) ?_; rintro e w260 ⟨c259, A263, C264, rfl, E261, B, h265⟩; refine rt fun a F => ?_; replace h241 := h241.ev E261; replace h255 := h255.ev E261; replace E := E.n E261; refine qm F fun a F => qm F fun a F => ?_; obtain ⟨t267, q268, H⟩ := bind_some H; refine qc F Try.func18 (route_Route_At.calls (m := m + 19) (pl hm0) B h241 (by omega) (m + 4) lm _ q268) ?_; rintro e w270 ⟨c269, A273, C274, rfl, E271, B, h275⟩
        as_aux_lemma =>
        refine rt fun a F => ?_; replace h241 := h241.ev E271; replace h255 := h255.ev E271; replace h265 := h265.ev E271; replace E := E.n E271; refine qm F fun a F => qm F fun a F => ?_; obtain ⟨t277, q278, H⟩ := bind_some H; refine qc F Try.func18 (route_Route_At.calls (m := m + 19) (pl hm0) B h241 (by omega) (m + 5) lm _ q278) ?_; rintro e w280 ⟨c279, A283, C284, rfl, E281, B, h285⟩; refine rt fun a F => ?_; replace h241 := h241.ev E281; replace h255 := h255.ev E281; replace h265 := h265.ev E281; replace h275 := h275.ev E281
        as_aux_lemma =>
        replace E := E.n E281; have h287 : GR (KOsl (Kint .i64)) (m + 6) c279 w280 (([] : List Value).map one1) ([] : List (List Int)) := GR.nil (pl hm0); obtain ⟨c288, e289, e290, h287⟩ := GP.push h287 h255 ⟨mm, (pl hm0)⟩; replace h241 := RU.rc (c' := c288) (j' := m + 1) h241 (fun k_ hk_ => (e289 k_ (by rw [hk_]; exact mm)).trans hk_) (fun k_ hk_ => (e289 k_ (by rw [hk_]; exact ne_zm)).trans hk_); replace h265 := SL.rc (c' := c288) (j' := m + 3) (i' := 0) h265 (fun k_ hk_ => (e289 k_ (by rw [hk_]; exact mm)).trans hk_) (fun k_ hk_ => (e289 k_ (by rw [hk_]; exact ne_zm)).trans hk_); replace h275 := SL.rc (c' := c288) (j' := m + 4) (i' := 0) h275 (fun k_ hk_ => (e289 k_ (by rw [hk_]; exact mm)).trans hk_) (fun k_ hk_ => (e289 k_ (by rw [hk_]; exact ne_zm)).trans hk_); replace h285 := SL.rc (c' := c288) (j' := m + 5) (i' := 0) h285 (fun k_ hk_ => (e289 k_ (by rw [hk_]; exact mm)).trans hk_) (fun k_ hk_ => (e289 k_ (by rw [hk_]; exact ne_zm)).trans hk_); replace E : Ev (fun x => False ∨ m ≤ x) c0 w0 c288 w280 := E.recol B0 (fun b_ hb_ => e289 b_ (by omega)); replace B : CB (m + 19) c288 w280 := B.recol (fun b_ => (e290 b_).imp id (fun q_ => by rw [q_]; exact lm)); obtain ⟨c291, e292, e293, h287⟩ := GP.push h287 h265 ⟨mm, (pl hm0)⟩; replace h241 := RU.rc (c' := c291) (j' := m + 1) h241 (fun k_ hk_ => (e292 k_ (by rw [hk_]; exact mm)).trans hk_) (fun k_ hk_ => (e292 k_ (by rw [hk_]; exact ne_zm)).trans hk_); replace h275 := SL.rc (c' := c291) (j' := m + 4) (i' := 0) h275 (fun k_ hk_ => (e292 k_ (by rw [hk_]; exact mm)).trans hk_) (fun k_ hk_ => (e292 k_ (by rw [hk_]; exact ne_zm)).trans hk_); replace h285 := SL.rc (c' := c291) (j' := m + 5) (i' := 0) h285 (fun k_ hk_ => (e292 k_ (by rw [hk_]; exact mm)).trans hk_) (fun k_ hk_ => (e292 k_ (by rw [hk_]; exact ne_zm)).trans hk_); replace E : Ev (fun x => False ∨ m ≤ x) c0 w0 c291 w280 := E.recol B0 (fun b_ hb_ => e292 b_ (by omega))
        as_aux_lemma =>
        replace B : CB (m + 19) c291 w280 := B.recol (fun b_ => (e293 b_).imp id (fun q_ => by rw [q_]; exact lm)); obtain ⟨c294, e295, e296, h287⟩ := GP.push h287 h275 ⟨mm, (pl hm0)⟩; replace h241 := RU.rc (c' := c294) (j' := m + 1) h241 (fun k_ hk_ => (e295 k_ (by rw [hk_]; exact mm)).trans hk_) (fun k_ hk_ => (e295 k_ (by rw [hk_]; exact ne_zm)).trans hk_); replace h285 := SL.rc (c' := c294) (j' := m + 5) (i' := 0) h285 (fun k_ hk_ => (e295 k_ (by rw [hk_]; exact mm)).trans hk_) (fun k_ hk_ => (e295 k_ (by rw [hk_]; exact ne_zm)).trans hk_); replace E : Ev (fun x => False ∨ m ≤ x) c0 w0 c294 w280 := E.recol B0 (fun b_ hb_ => e295 b_ (by omega)); replace B : CB (m + 19) c294 w280 := B.recol (fun b_ => (e296 b_).imp id (fun q_ => by rw [q_]; exact lm)); obtain ⟨c297, e298, e299, h287⟩ := GP.push h287 h285 ⟨mm, (pl hm0)⟩; replace h241 := RU.rc (c' := c297) (j' := m + 1) h241 (fun k_ hk_ => (e298 k_ (by rw [hk_]; exact mm)).trans hk_) (fun k_ hk_ => (e298 k_ (by rw [hk_]; exact ne_zm)).trans hk_); replace E : Ev (fun x => False ∨ m ≤ x) c0 w0 c297 w280 := E.recol B0 (fun b_ hb_ => e298 b_ (by omega)); replace B : CB (m + 19) c297 w280 := B.recol (fun b_ => (e299 b_).imp id (fun q_ => by rw [q_]; exact lm)); refine q_eff F rfl rfl (by decide) (e_buildSlice (n := 4) (e := 22) (c := c297) (k := Kval) (i := 0) F [(0, .slice A253 t247.length C254), (1, .slice A263 t257.length C264), (2, .slice A273 t267.length C274), (3, .slice A283 t277.length C284)] [.slice A253 t247.length C254, .slice A263 t257.length C264, .slice A273 t267.length C274, .slice A283 t277.length C284] ([.slice A253 t247.length C254, .slice A263 t257.length C264, .slice A273 t267.length C274, .slice A283 t277.length C284] : List Value) (by exact ⟨rfl, rfl, rfl, rfl, rfl, rfl, rfl, rfl, trivial⟩) (fun w => by kernel_rfl) rfl (by decide) rfl ⟨⟨rfl, rfl⟩, ⟨rfl, rfl⟩, ⟨rfl, rfl⟩, ⟨rfl, rfl⟩, trivial⟩ (fun q => q) (m + 7)) ?_; rintro v w301 a ⟨c300, A302, C303, rfl, E304, h305, B306⟩ F; replace B := B306 _ B lm; replace h241 := h241.ev E304
        as_aux_lemma =>
        replace h287 := h287.ev E304; replace E := E.n E304; replace h305 : SP (Kint .i64) (m + 7) (m + 6) c300 w301 A302 C303 [t247, t257, t267, t277] 0 := SP.mk h305 h287; refine qa F fun a F => nil (hK246 _ _ ?_); replace F : Fr a 297 [(3, .int .i64 a7), (4, .int .i64 a8), (11, .pointer p28), (14, .slice A302 [t247, t257, t267, t277].length C303)] := F.sub ⟨rfl, rfl, rfl, rfl, trivial⟩; refine sr fun K307 hK307 => qa F fun a F => nil (hK307 _ _ ?_); refine sq fun K308 hK308 => ?_; refine sr fun K309 hK309 => qa F fun a F => nil (hK309 _ _ ?_); refine wp_block ?_; obtain ⟨x380, HL, HR379⟩ := bind_some H; have J433 : ∀ (c434 : Nat → Nat) (w435 : World) (a : Act) (l430 : List (List Int)) (A431 : Option Addr) (C432 : Nat), Fr a 297 [(3, .int .i64 a7), (4, .int .i64 a8), (11, .pointer p28), (14, .slice A302 [t247, t257, t267, t277].length C303), (15, .slice A431 l430.length C432)] → Ev (fun x => False ∨ m ≤ x) c0 w0 c434 w435 → CB (m + 19) c434 w435 → RU (m + 1) c434 w435 p28 o242 → SP (Kint .i64) (m + 7) (m + 6) c434 w435 A302 C303 [t247, t257, t267, t277] 0 → SL true (Kslice (Kint .i64)) (m + 9) 0 c434 w435 A431 C432 l430 → haulagelaw23_RouteOwn.j6 k a7 a8 o242 t247 t257 t267 t277 l430 = some r → K308 a w435 := by
          intro c434 w435 a l430 A431 C432 F E B h241 h305 h429 H; unfold haulagelaw23_RouteOwn.j6 at H; refine hK308 _ _ ?_
          as_aux_lemma =>
          refine sr fun K436 hK436 => qm F fun a F => qm F fun a F => qm F fun a F => ?_; obtain ⟨t437, q438, H⟩ := bind_some H; refine qc F Try.func13 (route_Route_Hint.calls (m := m + 19) (pl hm0) B h241 (by omega) _ q438) ?_; rintro e w440 ⟨c439, rfl, E441, B, h443⟩; refine rt fun a F => ?_; replace h305 := h305.ev E441; replace h429 := h429.ev E441; replace E := E.trans E441 lc1; refine nil (hK436 _ _ ?_); refine sr fun K445 hK445 => qm F fun a F => qm F fun a F => ?_; obtain ⟨t446, q447, H⟩ := bind_some H; refine qc F Try.func13 (route_Route_Hint.calls (m := m + 19) (pl hm0) B h443 (by omega) _ q447) ?_; rintro e w449 ⟨c448, rfl, E450, B, h452⟩; refine rt fun a F => ?_
          as_aux_lemma =>
          replace h305 := h305.ev E450; replace h429 := h429.ev E450; replace E := E.trans E450 lc1; refine nil (hK445 _ _ ?_); refine sr fun K454 hK454 => qm F fun a F => qm F fun a F => qm F fun a F => ?_; obtain ⟨t455, q456, H⟩ := bind_some H; refine qc F Try.func12 (route_Route_Fine.calls (m := m + 19) (pl hm0) B h452 (by omega) _ q456) ?_; rintro e w458 ⟨c457, rfl, E459, B, h461⟩; refine rt fun a F => ?_; replace h305 := h305.ev E459; replace h429 := h429.ev E459; replace E := E.trans E459 lc1; refine nil (hK454 _ _ ?_); replace F : Fr a 297 [(3, .int .i64 a7), (4, .int .i64 a8), (11, .pointer p28), (14, .slice A302 [t247, t257, t267, t277].length C303), (15, .slice A431 l430.length C432)] := F.sub ⟨rfl, rfl, rfl, rfl, rfl, trivial⟩
          as_aux_lemma =>
          refine sr fun K463 hK463 => qm F fun a F => qm F fun a F => qm F fun a F => ?_; obtain ⟨t464, q465, H⟩ := bind_some H; refine qc F Try.func16 (route_Route_Trail.calls (m := m + 19) (pl hm0) B h461 (by omega) (m + 10) lm _ q465) ?_; rintro e w467 ⟨c466, A470, C471, rfl, E468, B, h472⟩; refine rt fun a F => ?_; replace h305 := h305.ev E468; replace h429 := h429.ev E468; replace h461 := h461.ev E468; replace E := E.n E468; refine qm F fun a F => qm F fun a F => ?_; obtain ⟨t474, q475, H⟩ := bind_some H; refine qc F Try.func18 (route_Route_At.calls (m := m + 19) (pl hm0) B h461 (by omega) (m + 11) lm _ q475) ?_; rintro e w477 ⟨c476, A480, C481, rfl, E478, B, h482⟩; refine rt fun a F => ?_
          as_aux_lemma =>
          replace h305 := h305.ev E478; replace h429 := h429.ev E478; replace h461 := h461.ev E478; replace h472 := h472.ev E478; replace E := E.n E478; have h484 : GR (KOsl (Kint .i64)) (m + 12) c476 w477 (([] : List Value).map one1) ([] : List (List Int)) := GR.nil (pl hm0); obtain ⟨c485, e486, e487, h484⟩ := GP.push h484 h472 ⟨mm, (pl hm0)⟩; replace h305 := SP.rc (c' := c485) (j' := m + 7) (y' := m + 6) h305 (fun k_ hk_ => (e486 k_ (by rw [hk_]; exact mm)).trans hk_) (fun k_ hk_ => (e486 k_ (by rw [hk_]; exact mm)).trans hk_) (fun k_ hk_ => (e486 k_ (by rw [hk_]; exact ne_zm)).trans hk_) (pl hm0); replace h429 := SL.rc (c' := c485) (j' := m + 9) (i' := 0) h429 (fun k_ hk_ => (e486 k_ (by rw [hk_]; exact mm)).trans hk_) (fun k_ hk_ => (e486 k_ (by rw [hk_]; exact ne_zm)).trans hk_); replace h461 := RU.rc (c' := c485) (j' := m + 1) h461 (fun k_ hk_ => (e486 k_ (by rw [hk_]; exact mm)).trans hk_) (fun k_ hk_ => (e486 k_ (by rw [hk_]; exact ne_zm)).trans hk_); replace h482 := SL.rc (c' := c485) (j' := m + 11) (i' := 0) h482 (fun k_ hk_ => (e486 k_ (by rw [hk_]; exact mm)).trans hk_) (fun k_ hk_ => (e486 k_ (by rw [hk_]; exact ne_zm)).trans hk_); replace E : Ev (fun x => False ∨ m ≤ x) c0 w0 c485 w477 := E.recol B0 (fun b_ hb_ => e486 b_ (by omega)); replace B : CB (m + 19) c485 w477 := B.recol (fun b_ => (e487 b_).imp id (fun q_ => by rw [q_]; exact lm)); obtain ⟨c488, e489, e490, h484⟩ := GP.push h484 h482 ⟨mm, (pl hm0)⟩
          as_aux_lemma =>
          replace h305 := SP.rc (c' := c488) (j' := m + 7) (y' := m + 6) h305 (fun k_ hk_ => (e489 k_ (by rw [hk_]; exact mm)).trans hk_) (fun k_ hk_ => (e489 k_ (by rw [hk_]; exact mm)).trans hk_) (fun k_ hk_ => (e489 k_ (by rw [hk_]; exact ne_zm)).trans hk_) (pl hm0); replace h429 := SL.rc (c' := c488) (j' := m + 9) (i' := 0) h429 (fun k_ hk_ => (e489 k_ (by rw [hk_]; exact mm)).trans hk_) (fun k_ hk_ => (e489 k_ (by rw [hk_]; exact ne_zm)).trans hk_); replace h461 := RU.rc (c' := c488) (j' := m + 1) h461 (fun k_ hk_ => (e489 k_ (by rw [hk_]; exact mm)).trans hk_) (fun k_ hk_ => (e489 k_ (by rw [hk_]; exact ne_zm)).trans hk_); replace E : Ev (fun x => False ∨ m ≤ x) c0 w0 c488 w477 := E.recol B0 (fun b_ hb_ => e489 b_ (by omega)); replace B : CB (m + 19) c488 w477 := B.recol (fun b_ => (e490 b_).imp id (fun q_ => by rw [q_]; exact lm)); refine q_eff F rfl rfl (by decide) (e_buildSlice (n := 2) (e := 22) (c := c488) (k := Kval) (i := 0) F [(0, .slice A470 t464.length C471), (1, .slice A480 t474.length C481)] [.slice A470 t464.length C471, .slice A480 t474.length C481] ([.slice A470 t464.length C471, .slice A480 t474.length C481] : List Value) (by exact ⟨rfl, rfl, rfl, rfl, trivial⟩) (fun w => by kernel_rfl) rfl (by decide) rfl ⟨⟨rfl, rfl⟩, ⟨rfl, rfl⟩, trivial⟩ (fun q => q) (m + 13)) ?_; rintro v w492 a ⟨c491, A493, C494, rfl, E495, h496, B497⟩ F; replace B := B497 _ B lm; replace h305 := h305.ev E495; replace h429 := h429.ev E495; replace h461 := h461.ev E495; replace h484 := h484.ev E495; replace E := E.n E495; replace h496 : SP (Kint .i64) (m + 13) (m + 12) c491 w492 A493 C494 [t464, t474] 0 := SP.mk h496 h484
          as_aux_lemma =>
          replace H := ifN H; obtain ⟨g498, H⟩ := H; refine q_eff F rfl rfl (by decide) (e_appendS (e := (Kint .i64)) (xss := [t247, t257, t267, t277]) (yss := [t464, t474]) (c := c491) (j := (m + 7)) (y0 := (m + 6)) F et_41 rfl rfl h305 h496 g498 (len_ok g498) (pl hm0) mm mm mm) ?_; rintro v w503 a ⟨c499, A504, C505, rfl, E506, B508, c500, e501, e502, h507⟩ F; replace B := B508 _ B lm; replace h429 := h429.ev E506; replace h461 := h461.ev E506; replace E := E.trans E506 lc1; replace h429 := SL.rc (c' := c500) (j' := m + 9) (i' := 0) h429 (fun k_ hk_ => (e501 k_ (by rw [hk_]; exact mm)).trans hk_) (fun k_ hk_ => (e501 k_ (by rw [hk_]; exact ne_zm)).trans hk_); replace h461 := RU.rc (c' := c500) (j' := m + 1) h461 (fun k_ hk_ => (e501 k_ (by rw [hk_]; exact mm)).trans hk_) (fun k_ hk_ => (e501 k_ (by rw [hk_]; exact ne_zm)).trans hk_); replace E : Ev (fun x => False ∨ m ≤ x) c0 w0 c500 w503 := E.recol B0 (fun b_ hb_ => e501 b_ (by omega)); replace B : CB (m + 19) c500 w503 := B.recol (fun b_ => (e502 b_).imp id (fun q_ => by rw [q_]; exact lm)); refine qa F fun a F => nil (hK463 _ _ ?_); refine sq fun K509 hK509 => ?_; have J655 : ∀ (c656 : Nat → Nat) (w657 : World) (a : Act) (A652 : Option Addr) (C653 : Nat), Fr a 297 [(3, .int .i64 a7), (4, .int .i64 a8), (11, .pointer p28), (14, .slice A504 ([t247, t257, t267, t277] ++ [t464, t474]).length C505), (15, .slice A652 (l430 ++ [(rd ([t247, t257, t267, t277] ++ [t464, t474]) 4), (rd ([t247, t257, t267, t277] ++ [t464, t474]) 5)]).length C653)] → Ev (fun x => False ∨ m ≤ x) c0 w0 c656 w657 → CB (m + 19) c656 w657 → RU (m + 1) c656 w657 p28 t455.2 → SP (Kint .i64) (m + 7) (m + 6) c656 w657 A504 C505 ([t247, t257, t267, t277] ++ [t464, t474]) 0 → SL true (Kslice (Kint .i64)) (m + 9) 0 c656 w657 A652 C653 (l430 ++ [(rd ([t247, t257, t267, t277] ++ [t464, t474]) 4), (rd ([t247, t257, t267, t277] ++ [t464, t474]) 5)]) → haulagelaw23_RouteOwn.j7 k a7 a8 t247 t257 t267 t277 l430 t455 t464 t474 = some r → K509 a w657 := by
            intro c656 w657 a A652 C653 F E B h461 h507 h654 H; unfold haulagelaw23_RouteOwn.j7 at H
            as_aux_lemma =>
            refine hK509 _ _ ?_; refine sq fun K658 hK658 => ?_; refine sr fun K659 hK659 => qa F fun a F => nil (hK659 _ _ ?_); refine wp_block ?_; obtain ⟨x670, HL, HR669⟩ := bind_some H; have J746 : ∀ (c747 : Nat → Nat) (w748 : World) (a : Act), Fr a 297 [(3, .int .i64 a7), (4, .int .i64 a8), (11, .pointer p28), (14, .slice A504 ([t247, t257, t267, t277] ++ [t464, t474]).length C505), (15, .slice A652 (l430 ++ [(rd ([t247, t257, t267, t277] ++ [t464, t474]) 4), (rd ([t247, t257, t267, t277] ++ [t464, t474]) 5)]).length C653)] → Ev (fun x => False ∨ m ≤ x) c0 w0 c747 w748 → CB (m + 19) c747 w748 → RU (m + 1) c747 w748 p28 t455.2 → SP (Kint .i64) (m + 7) (m + 6) c747 w748 A504 C505 ([t247, t257, t267, t277] ++ [t464, t474]) 0 → SL true (Kslice (Kint .i64)) (m + 9) 0 c747 w748 A652 C653 (l430 ++ [(rd ([t247, t257, t267, t277] ++ [t464, t474]) 4), (rd ([t247, t257, t267, t277] ++ [t464, t474]) 5)]) → haulagelaw23_RouteOwn.j10 k a7 a8 t247 t257 t267 t277 l430 t455 t464 t474 = some r → K658 a w748 := by
              intro c747 w748 a  F E B h461 h507 h654 H; unfold haulagelaw23_RouteOwn.j10 at H; refine hK658 _ _ ?_; refine sq fun K749 hK749 => ?_; refine sr fun K750 hK750 => qa F fun a F => nil (hK750 _ _ ?_); refine wp_block ?_; obtain ⟨x907, HL, HR906⟩ := bind_some H; have J1048 : ∀ (c1049 : Nat → Nat) (w1050 : World) (a : Act) (l1045 : List (List Int)) (A1046 : Option Addr) (C1047 : Nat), Fr a 297 [(3, .int .i64 a7), (4, .int .i64 a8), (11, .pointer p28), (14, .slice A1046 l1045.length C1047), (15, .slice A652 (l430 ++ [(rd ([t247, t257, t267, t277] ++ [t464, t474]) 4), (rd ([t247, t257, t267, t277] ++ [t464, t474]) 5)]).length C653)] → Ev (fun x => False ∨ m ≤ x) c0 w0 c1049 w1050 → CB (m + 19) c1049 w1050 → RU (m + 1) c1049 w1050 p28 t455.2 → SL true (Kslice (Kint .i64)) (m + 9) 0 c1049 w1050 A652 C653 (l430 ++ [(rd ([t247, t257, t267, t277] ++ [t464, t474]) 4), (rd ([t247, t257, t267, t277] ++ [t464, t474]) 5)]) → SP (Kint .i64) (m + 7) (m + 6) c1049 w1050 A1046 C1047 l1045 0 → haulagelaw23_RouteOwn.j16 k a7 a8 t247 t257 t267 t277 l430 t455 t464 t474 l1045 = some r → K749 a w1050 := by
                intro c1049 w1050 a l1045 A1046 C1047 F E B h461 h654 h1044 H; unfold haulagelaw23_RouteOwn.j16 at H
                as_aux_lemma =>
                refine hK749 _ _ ?_; refine sr fun K1051 hK1051 => qa F fun a F => nil (hK1051 _ _ ?_); refine sq fun K1052 hK1052 => ?_; refine sr fun K1053 hK1053 => qa F fun a F => nil (hK1053 _ _ ?_); refine wp_block ?_; obtain ⟨x1166, HL, HR1165⟩ := bind_some H; have J1261 : ∀ (c1262 : Nat → Nat) (w1263 : World) (a : Act) (l1258 : List (List Int)) (A1259 : Option Addr) (C1260 : Nat), Fr a 297 [(3, .int .i64 a7), (4, .int .i64 a8), (11, .pointer p28), (14, .slice A1046 l1045.length C1047), (15, .slice A652 (l430 ++ [(rd ([t247, t257, t267, t277] ++ [t464, t474]) 4), (rd ([t247, t257, t267, t277] ++ [t464, t474]) 5)]).length C653), (20, .slice A1259 l1258.length C1260)] → Ev (fun x => False ∨ m ≤ x) c0 w0 c1262 w1263 → CB (m + 19) c1262 w1263 → RU (m + 1) c1262 w1263 p28 t455.2 → SL true (Kslice (Kint .i64)) (m + 7) 0 c1262 w1263 A1046 C1047 l1045 → SL true (Kslice (Kint .i64)) (m + 9) 0 c1262 w1263 A652 C653 (l430 ++ [(rd ([t247, t257, t267, t277] ++ [t464, t474]) 4), (rd ([t247, t257, t267, t277] ++ [t464, t474]) 5)]) → SL true (Kslice (Kint .i64)) (m + 18) 0 c1262 w1263 A1259 C1260 l1258 → haulagelaw23_RouteOwn.j22 k a7 a8 t247 t257 t267 t277 l430 t455 t464 t474 l1045 l1258 = some r → K1052 a w1263 := by
                  intro c1262 w1263 a l1258 A1259 C1260 F E B h461 h1044 h654 h1257 H; unfold haulagelaw23_RouteOwn.j22 at H; refine hK1052 _ _ ?_; refine sq fun K1264 hK1264 => ?_; refine sr fun K1265 hK1265 => qa F fun a F => nil (hK1265 _ _ ?_); refine wp_block ?_; obtain ⟨x1276, HL, HR1275⟩ := bind_some H; have J1424 : ∀ (c1425 : Nat → Nat) (w1426 : World) (a : Act), Fr a 297 [(3, .int .i64 a7), (4, .int .i64 a8), (11, .pointer p28), (15, .slice A652 (l430 ++ [(rd ([t247, t257, t267, t277] ++ [t464, t474]) 4), (rd ([t247, t257, t267, t277] ++ [t464, t474]) 5)]).length C653)] → Ev (fun x => False ∨ m ≤ x) c0 w0 c1425 w1426 → CB (m + 19) c1425 w1426 → RU (m + 1) c1425 w1426 p28 t455.2 → SL true (Kslice (Kint .i64)) (m + 9) 0 c1425 w1426 A652 C653 (l430 ++ [(rd ([t247, t257, t267, t277] ++ [t464, t474]) 4), (rd ([t247, t257, t267, t277] ++ [t464, t474]) 5)]) → haulagelaw23_RouteOwn.j29 k a7 a8 t247 t257 t267 t277 l430 t455 t464 t474 = some r → K1264 a w1426 := by
                    intro c1425 w1426 a  F E B h461 h654 H; unfold haulagelaw23_RouteOwn.j29 at H
                    as_aux_lemma =>
                    refine hK1264 _ _ ?_; refine sq fun K1427 hK1427 => ?_; refine regD (SB No c1425 w1426) 17 (.q 0 (.q 1 (.q 3 (.q 4 (.q 5 (.e 2 (.e 6 (.q 7 (.q 8 (.q 9 (.q 11 (.q 12 (.q 13 (.e 10 (.e 14 (.q 15 (.q 16 .nil))))))))))))))))) Try_hm (by decide +kernel) ?_; intro w1428 w1_ w2_ w3_ w4_; have E1429 : Ev No c1425 w1426 c1425 w1428 := Ev.same w1_ w2_ w3_ w4_; replace B := B.same w1_; have zh654 := h654; have ER : Ev No c1425 w1426 c1425 w1428 := Ev.same w1_ w2_ w3_ w4_; replace h461 := h461.ev E1429; replace E := E.n E1429; refine dm F ER.sb fun a F => ?_; refine dm F ER.sb fun a F => ?_; refine dm F ER.sb fun a F => ?_; replace H := ifN H; obtain ⟨g1430, H⟩ := H; obtain ⟨ad1431, cs1432, e1433, h1434, r1435⟩ := SL.at zh654 4 g1430.1 g1430.2; obtain ⟨A1436, C1437, rfl, h1438⟩ := r1435
                    as_aux_lemma =>
                    replace h1438 := SL.fl (i' := 0) h1438 (fun q => q); obtain ⟨qa1439, qqa1439⟩ : ∃ q, q = (ad1431.add ((4 : Int).toNat * 1)) := ⟨_, rfl⟩; have h1434 : AT true (m + 9) c1425 w1426 qa1439 [.slice A1436 (rd (l430 ++ [(rd ([t247, t257, t267, t277] ++ [t464, t474]) 4), (rd ([t247, t257, t267, t277] ++ [t464, t474]) 5)]) 4).length C1437] := by rw [qqa1439]; exact h1434
                    replace h1438 := h1438.ev ER nq nq; have zh1434 := h1434; refine dq F (fun wq hS => r_indexAddr' F Try.underlying41 sz_22 rfl rfl g1430.1 g1430.2 e1433 qqa1439) ER.sb fun a F => ?_; refine dq F (fun wq hS => r_load F rfl ag_22 (AT.cell0 (AT.sb zh1434 hS nq) rfl)) ER.sb fun a F => ?_; refine d_e ?_; obtain ⟨t1441, q1442, H⟩ := bind_some H; refine oc F Try.func16 (route_Route_Trail.calls (m := m + 19) (pl hm0) B h461 (by omega) 0 (pl hm0) _ q1442) ?_; rintro e w1444 ⟨c1443, A1447, C1448, rfl, E1445, B, h1449⟩; refine rt fun a F => ?_; replace ER := ER.trans E1445 nx; replace h461 := h461.ev E1445
                    as_aux_lemma =>
                    replace h1438 := h1438.ev E1445; replace E := E.n E1445; refine ⟨fun _ => ER.sb, ?_⟩; refine d_e ?_; obtain ⟨t1451, q1452, H⟩ := bind_some H; refine oc F Try.func15 (haulagelaw23_ints.calls k (m := m + 19) (pl hm0) B h1449.r h1438 (pl hm0) (pl hm0) _ q1452) ?_; rintro e w1454 ⟨c1453, rfl, E1455, B⟩; refine rt fun a F => ?_; replace ER := ER.trans E1455 nx; replace h461 := h461.ev E1455; replace E := E.n E1455; refine ⟨fun _ => ER.sb, ?_⟩; refine dm F ER.sb fun a F => ?_
                    by_cases hb1458 : t1451 = true
                    · replace H := ip hb1458 H
                      as_aux_lemma =>
                      refine dy F hb1458 (fun wq hS => r_move F rfl) ER.sb fun a F => ?_; refine dy F hb1458 (fun wq hS => r_move F rfl) ER.sb fun a F => ?_; refine dy F hb1458 (fun wq hS => r_move F rfl) ER.sb fun a F => ?_; replace H := ifN H; obtain ⟨g1459, H⟩ := H; obtain ⟨ad1460, cs1461, e1462, h1463, r1464⟩ := SL.at zh654 5 g1459.1 g1459.2; obtain ⟨A1465, C1466, rfl, h1467⟩ := r1464; replace h1467 := SL.fl (i' := 0) h1467 (fun q => q); obtain ⟨qa1468, qqa1468⟩ : ∃ q, q = (ad1460.add ((5 : Int).toNat * 1)) := ⟨_, rfl⟩; have h1463 : AT true (m + 9) c1425 w1426 qa1468 [.slice A1465 (rd (l430 ++ [(rd ([t247, t257, t267, t277] ++ [t464, t474]) 4), (rd ([t247, t257, t267, t277] ++ [t464, t474]) 5)]) 5).length C1466] := by rw [qqa1468]; exact h1463
                      replace h1467 := h1467.ev ER nq nq; have zh1463 := h1463; refine dy F hb1458 (fun wq hS => r_indexAddr' F Try.underlying41 sz_22 rfl rfl g1459.1 g1459.2 e1462 qqa1468) ER.sb fun a F => ?_; refine dy F hb1458 (fun wq hS => r_load F rfl ag_22 (AT.cell0 (AT.sb zh1463 hS nq) rfl)) ER.sb fun a F => ?_
                      as_aux_lemma =>
                      refine d_e ?_; obtain ⟨t1470, q1471, H⟩ := bind_some H; refine o_call F rfl (wanted_yes F rfl rfl (by decide) rfl hb1458) rfl (by decide) (r_call F Try.func18 rfl (by kernel_rfl) rfl) (route_Route_At.calls (m := m + 19) (pl hm0) B h461 (by omega) 0 (pl hm0) _ q1471) ?_; rintro e w1473 ⟨c1472, A1476, C1477, rfl, E1474, B, h1478⟩; refine rt fun a F => ?_; replace ER := ER.trans E1474 nx; replace h1467 := h1467.ev E1474; replace E := E.n E1474; refine ⟨fun _ => ER.sb, ?_⟩; refine d_e ?_; obtain ⟨t1480, q1481, H⟩ := bind_some H; refine o_call F rfl (wanted_yes F rfl rfl (by decide) rfl hb1458) rfl (by decide) (r_call F Try.func15 rfl (by kernel_rfl) rfl) (haulagelaw23_ints.calls k (m := m + 19) (pl hm0) B h1478.r h1467 (pl hm0) (pl hm0) _ q1481) ?_; rintro e w1483 ⟨c1482, rfl, E1484, B⟩; refine rt fun a F => ?_
                      as_aux_lemma =>
                      replace ER := ER.trans E1484 nx; replace E := E.n E1484; refine ⟨fun _ => ER.sb, ?_⟩; refine dq F (fun wq hS => r_pick_t F rfl hb1458 rfl) ER.sb fun a F => ?_; refine da F ER.sb fun a F => ?_; refine d_nil ?_; refine hK1427 _ _ ?_; replace F : Fr a 297 [(10, .bool t1480)] := F.sub ⟨rfl, trivial⟩; refine wp_ret ?_; obtain rfl := si H; refine out1 F rfl rfl ?_; exact ⟨cf (ct m) c1482, rfl, E.lv B0, cfb⟩
                    replace H := im hb1458 H; refine dn F (bfalse hb1458) ER.sb fun a F => ?_
                    as_aux_lemma =>
                    refine dn F (bfalse hb1458) ER.sb fun a F => ?_; refine dn F (bfalse hb1458) ER.sb fun a F => ?_; refine dn F (bfalse hb1458) ER.sb fun a F => ?_; refine dn F (bfalse hb1458) ER.sb fun a F => ?_; refine d_e ?_; refine o_no F rfl rfl rfl (by decide) rfl (bfalse hb1458) rfl (by decide) fun a F => ?_; refine ⟨fun _ => ER.sb, ?_⟩; refine d_e ?_; refine o_no F rfl rfl rfl (by decide) rfl (bfalse hb1458) rfl (by decide) fun a F => ?_; refine ⟨fun _ => ER.sb, ?_⟩; refine dq F (fun wq hS => r_pick_f F rfl (bfalse hb1458) rfl) ER.sb fun a F => ?_; refine da F ER.sb fun a F => ?_; refine d_nil ?_; refine hK1427 _ _ ?_; replace F : Fr a 297 [(10, .bool false)] := F.sub ⟨rfl, trivial⟩
                    as_aux_lemma =>
                    refine wp_ret ?_; obtain rfl := si H; refine out1 F rfl rfl ?_; exact ⟨cf (ct m) c1453, rfl, E.lv B0, cfb⟩
                  refine loop_fuel (I := fun n a w => ∃ (i1266 : Int) (c : Nat → Nat), Fr a 297 [(3, .int .i64 a7), (4, .int .i64 a8), (11, .pointer p28), (14, .slice A1046 l1045.length C1047), (15, .slice A652 (l430 ++ [(rd ([t247, t257, t267, t277] ++ [t464, t474]) 4), (rd ([t247, t257, t267, t277] ++ [t464, t474]) 5)]).length C653), (20, .slice A1259 l1258.length C1260), (24, .int .i64 i1266)] ∧ Ev (fun x => False ∨ m ≤ x) c0 w0 c w ∧ CB (m + 19) c w ∧ RU (m + 1) c w p28 t455.2 ∧ SL true (Kslice (Kint .i64)) (m + 7) 0 c w A1046 C1047 l1045 ∧ SL true (Kslice (Kint .i64)) (m + 9) 0 c w A652 C653 (l430 ++ [(rd ([t247, t257, t267, t277] ++ [t464, t474]) 4), (rd ([t247, t257, t267, t277] ++ [t464, t474]) 5)]) ∧ SL true (Kslice (Kint .i64)) (m + 18) 0 c w A1259 C1260 l1258 ∧ loop (fun (s_ : Int) => haulagelaw23_RouteOwn.b28 k l1045 l1258 s_) n i1266 = some x1276) (k := k) ⟨0, c1262, F.sub ⟨rfl, rfl, rfl, rfl, rfl, rfl, rfl, trivial⟩, E, B, h461, h1044, h654, h1257, HL⟩ ?_; clear HL H E F B; intro n1273 X1269 hX1269 a w1268 ⟨i1266, c1267, F, E, B, h461, h1044, h654, h1257, HL⟩; obtain ⟨n1274, ctl1272, rfl, HB, HN1270, HD1271⟩ := loop_some HL; have H : haulagelaw23_RouteOwn.b28 k l1045 l1258 i1266 = some ctl1272 := HB; clear HB HL; unfold haulagelaw23_RouteOwn.b28 at H; refine sq fun K1277 hK1277 => ?_; refine sr fun K1278 hK1278 => qm F fun a F => ?_; refine qv F (r_lss F rfl rfl) fun a F => ?_
                  as_aux_lemma =>
                  refine nil (hK1278 _ _ ?_)
                  by_cases hb1279 : i1266 < 6
                  · replace H := ip hb1279 H; refine wct (fb F (dt hb1279)) (wp_skip (hK1277 _ _ ?_)); refine sq fun K1280 hK1280 => ?_; refine wp_block ?_; refine sr fun K1281 hK1281 => qm F fun a F => qm F fun a F => ?_; replace H := ifN H; obtain ⟨g1282, H⟩ := H; obtain ⟨ad1283, cs1284, e1285, h1286, r1287⟩ := SL.at h1044 i1266 g1282.1 g1282.2; obtain ⟨A1288, C1289, rfl, h1290⟩ := r1287; obtain ⟨qa1291, qqa1291⟩ : ∃ q, q = (ad1283.add (i1266.toNat * 1)) := ⟨_, rfl⟩; have h1286 : AT true (m + 7) c1267 w1268 qa1291 [.slice A1288 (rd l1045 i1266).length C1289] := by rw [qqa1291]; exact h1286
                    refine qv F (r_indexAddr' F Try.underlying41 sz_22 rfl rfl g1282.1 g1282.2 e1285 qqa1291) fun a F => ?_; refine qv F (r_load F rfl ag_22 (AT.cell0 h1286 rfl)) fun a F => ?_
                    as_aux_lemma =>
                    refine qv F (r_lensl F Try.underlying22 rfl) fun a F => ?_; refine qa F fun a F => nil (hK1281 _ _ ?_); refine sq fun K1293 hK1293 => ?_; refine sr fun K1294 hK1294 => qa F fun a F => nil (hK1294 _ _ ?_); refine wp_block ?_; obtain ⟨x1305, HL, HR1304⟩ := bind_some H; have J1378 : ∀ (c1379 : Nat → Nat) (w1380 : World) (a : Act), Fr a 297 [(3, .int .i64 a7), (4, .int .i64 a8), (11, .pointer p28), (14, .slice A1046 l1045.length C1047), (15, .slice A652 (l430 ++ [(rd ([t247, t257, t267, t277] ++ [t464, t474]) 4), (rd ([t247, t257, t267, t277] ++ [t464, t474]) 5)]).length C653), (20, .slice A1259 l1258.length C1260), (24, .int .i64 i1266), (25, .int .i64 ((rd l1045 i1266).length : Int))] → Ev (fun x => False ∨ m ≤ x) c0 w0 c1379 w1380 → CB (m + 19) c1379 w1380 → RU (m + 1) c1379 w1380 p28 t455.2 → SL true (Kslice (Kint .i64)) (m + 7) 0 c1379 w1380 A1046 C1047 l1045 → SL true (Kslice (Kint .i64)) (m + 9) 0 c1379 w1380 A652 C653 (l430 ++ [(rd ([t247, t257, t267, t277] ++ [t464, t474]) 4), (rd ([t247, t257, t267, t277] ++ [t464, t474]) 5)]) → SL true (Kslice (Kint .i64)) (m + 18) 0 c1379 w1380 A1259 C1260 l1258 → haulagelaw23_RouteOwn.j25 k l1045 l1258 i1266 = some ctl1272 → K1293 a w1380 := by
                      intro c1379 w1380 a  F E B h461 h1044 h654 h1257 H; unfold haulagelaw23_RouteOwn.j25 at H; refine hK1293 _ _ ?_; refine sr fun K1381 hK1381 => qa F fun a F => nil (hK1381 _ _ ?_); refine wp_block ?_; obtain ⟨x1392, HL, HR1391⟩ := bind_some H; have J1420 : ∀ (c1421 : Nat → Nat) (w1422 : World) (a : Act), Fr a 297 [(3, .int .i64 a7), (4, .int .i64 a8), (11, .pointer p28), (14, .slice A1046 l1045.length C1047), (15, .slice A652 (l430 ++ [(rd ([t247, t257, t267, t277] ++ [t464, t474]) 4), (rd ([t247, t257, t267, t277] ++ [t464, t474]) 5)]).length C653), (20, .slice A1259 l1258.length C1260), (24, .int .i64 i1266)] → Ev (fun x => False ∨ m ≤ x) c0 w0 c1421 w1422 → CB (m + 19) c1421 w1422 → RU (m + 1) c1421 w1422 p28 t455.2 → SL true (Kslice (Kint .i64)) (m + 7) 0 c1421 w1422 A1046 C1047 l1045 → SL true (Kslice (Kint .i64)) (m + 9) 0 c1421 w1422 A652 C653 (l430 ++ [(rd ([t247, t257, t267, t277] ++ [t464, t474]) 4), (rd ([t247, t257, t267, t277] ++ [t464, t474]) 5)]) → SL true (Kslice (Kint .i64)) (m + 18) 0 c1421 w1422 A1259 C1260 l1258 → haulagelaw23_RouteOwn.j27 i1266 = some ctl1272 → K1280 a w1422 := by
                        intro c1421 w1422 a  F E B h461 h1044 h654 h1257 H; unfold haulagelaw23_RouteOwn.j27 at H
                        as_aux_lemma =>
                        refine hK1280 _ _ ?_; refine reg ?_; refine qm F fun a F => ?_; refine qv F (r_add F rfl rfl) fun a F => ?_; refine qa F fun a F => nil ?_; replace H := HN1270 _ (si H).symm; exact hX1269 _ _ _ (Nat.lt_succ_self _) ⟨(IntKind.i64.wrap (i1266 + 1)), c1421, F.sub ⟨rfl, rfl, rfl, rfl, rfl, rfl, rfl, trivial⟩, E, B, h461, h1044, h654, h1257, H⟩
                      refine loop_fuel (I := fun n a w => ∃ (i1382 : Int) (c : Nat → Nat), Fr a 297 [(3, .int .i64 a7), (4, .int .i64 a8), (11, .pointer p28), (14, .slice A1046 l1045.length C1047), (15, .slice A652 (l430 ++ [(rd ([t247, t257, t267, t277] ++ [t464, t474]) 4), (rd ([t247, t257, t267, t277] ++ [t464, t474]) 5)]).length C653), (20, .slice A1259 l1258.length C1260), (24, .int .i64 i1266), (25, .int .i64 ((rd l1045 i1266).length : Int)), (27, .int .i64 i1382)] ∧ Ev (fun x => False ∨ m ≤ x) c0 w0 c w ∧ CB (m + 19) c w ∧ RU (m + 1) c w p28 t455.2 ∧ SL true (Kslice (Kint .i64)) (m + 7) 0 c w A1046 C1047 l1045 ∧ SL true (Kslice (Kint .i64)) (m + 9) 0 c w A652 C653 (l430 ++ [(rd ([t247, t257, t267, t277] ++ [t464, t474]) 4), (rd ([t247, t257, t267, t277] ++ [t464, t474]) 5)]) ∧ SL true (Kslice (Kint .i64)) (m + 18) 0 c w A1259 C1260 l1258 ∧ loop (fun (s_ : Int) => haulagelaw23_RouteOwn.b26 l1045 l1258 i1266 s_) n i1382 = some x1392) (k := k) ⟨0, c1379, F.sub ⟨rfl, rfl, rfl, rfl, rfl, rfl, rfl, rfl, rfl, trivial⟩, E, B, h461, h1044, h654, h1257, HL⟩ ?_; clear HL H E F B; intro n1389 X1385 hX1385 a w1384 ⟨i1382, c1383, F, E, B, h461, h1044, h654, h1257, HL⟩; obtain ⟨n1390, ctl1388, rfl, HB, HN1386, HD1387⟩ := loop_some HL; have H : haulagelaw23_RouteOwn.b26 l1045 l1258 i1266 i1382 = some ctl1388 := HB; clear HB HL; unfold haulagelaw23_RouteOwn.b26 at H
                      as_aux_lemma =>
                      refine sq fun K1393 hK1393 => ?_; refine sr fun K1394 hK1394 => qm F fun a F => ?_; refine qv F (r_lss F rfl rfl) fun a F => ?_; refine nil (hK1394 _ _ ?_)
                      by_cases hb1395 : i1382 < 70
                      · replace H := ip hb1395 H; refine wct (fb F (dt hb1395)) (wp_skip (hK1393 _ _ ?_)); refine sq fun K1396 hK1396 => ?_; refine wp_block ?_; refine sr fun K1397 hK1397 => qm F fun a F => qm F fun a F => ?_; replace H := ifN H; obtain ⟨g1398, H⟩ := H; obtain ⟨ad1399, cs1400, e1401, h1402, r1403⟩ := SL.at h1257 i1266 g1398.1 g1398.2; obtain ⟨A1404, C1405, rfl, h1406⟩ := r1403; replace h1406 := SL.fl (i' := 0) h1406 (fun q => q); obtain ⟨qa1407, qqa1407⟩ : ∃ q, q = (ad1399.add (i1266.toNat * 1)) := ⟨_, rfl⟩; have h1402 : AT true (m + 18) c1383 w1384 qa1407 [.slice A1404 (rd l1258 i1266).length C1405] := by rw [qqa1407]; exact h1402
                        as_aux_lemma =>
                        refine qv F (r_indexAddr' F Try.underlying41 sz_22 rfl rfl g1398.1 g1398.2 e1401 qqa1407) fun a F => ?_; refine qv F (r_load F rfl ag_22 (AT.cell0 h1402 rfl)) fun a F => ?_; refine qm F fun a F => qm F fun a F => ?_; refine qv F (r_add F rfl rfl) fun a F => ?_; replace H := ifN H; obtain ⟨g1409, H⟩ := H; obtain ⟨ad1410, cs1411, e1412, h1413, r1414⟩ := SL.at h1406 (IntKind.i64.wrap (((rd l1045 i1266).length : Int) + i1382)) g1409.1 g1409.2; obtain rfl : cs1411 = [.int .i64 (rd (rd l1258 i1266) (IntKind.i64.wrap (((rd l1045 i1266).length : Int) + i1382)))] := r1414; obtain ⟨qa1415, qqa1415⟩ : ∃ q, q = (ad1410.add ((IntKind.i64.wrap (((rd l1045 i1266).length : Int) + i1382)).toNat * 1)) := ⟨_, rfl⟩; have h1413 : AT false 0 c1383 w1384 qa1415 [.int .i64 (rd (rd l1258 i1266) (IntKind.i64.wrap (((rd l1045 i1266).length : Int) + i1382)))] := by rw [qqa1415]; exact h1413
                        refine qv F (r_indexAddr' F Try.underlying22 sz_3 rfl rfl g1409.1 g1409.2 e1412 qqa1415) fun a F => ?_; refine qv F (r_load F rfl ag_3 (AT.cell0 h1413 rfl)) fun a F => ?_; refine qm F fun a F => ?_; refine qv F (r_mul F rfl rfl) fun a F => ?_
                        as_aux_lemma =>
                        refine qm F fun a F => ?_; refine qv F (r_sub F rfl rfl) fun a F => ?_; refine qv F (r_sub F rfl rfl) fun a F => ?_; refine qv F (r_neq F rfl rfl) fun a F => ?_; refine nil (hK1397 _ _ ?_); replace F : Fr a 297 [(3, .int .i64 a7), (4, .int .i64 a8), (11, .pointer p28), (14, .slice A1046 l1045.length C1047), (15, .slice A652 (l430 ++ [(rd ([t247, t257, t267, t277] ++ [t464, t474]) 4), (rd ([t247, t257, t267, t277] ++ [t464, t474]) 5)]).length C653), (20, .slice A1259 l1258.length C1260), (24, .int .i64 i1266), (25, .int .i64 ((rd l1045 i1266).length : Int)), (27, .int .i64 i1382), (280, .bool (!decide ((rd (rd l1258 i1266) (IntKind.i64.wrap (((rd l1045 i1266).length : Int) + i1382))) = (IntKind.i64.wrap ((IntKind.i64.wrap ((IntKind.i64.wrap ((-1000) * i1266)) - i1382)) - 1)))))] := F.sub ⟨rfl, rfl, rfl, rfl, rfl, rfl, rfl, rfl, rfl, rfl, trivial⟩
                        by_cases hb1417 : (rd (rd l1258 i1266) (IntKind.i64.wrap (((rd l1045 i1266).length : Int) + i1382))) = (IntKind.i64.wrap ((IntKind.i64.wrap ((IntKind.i64.wrap ((-1000) * i1266)) - i1382)) - 1))
                        · replace H := ip hb1417 H; refine wcf (fb F (congrArg not (dt hb1417))) (wp_skip (hK1396 _ _ ?_)); refine reg ?_; refine qm F fun a F => ?_; refine qv F (r_add F rfl rfl) fun a F => ?_; refine qa F fun a F => nil ?_; replace H := HN1386 _ (si H).symm; exact hX1385 _ _ _ (Nat.lt_succ_self _) ⟨(IntKind.i64.wrap (i1382 + 1)), c1383, F.sub ⟨rfl, rfl, rfl, rfl, rfl, rfl, rfl, rfl, rfl, trivial⟩, E, B, h461, h1044, h654, h1257, H⟩
                        as_aux_lemma =>
                        replace H := im hb1417 H; refine wct (fb F (congrArg not (dz hb1417))) ?_; refine sr fun K1418 hK1418 => qa F fun a F => nil (hK1418 _ _ ?_); replace F : Fr a 297 [(10, .bool false)] := F.sub ⟨rfl, trivial⟩; refine wp_ret ?_; refine inbR ?_; refine thenR ?_; refine thenR ?_; refine inbR ?_; refine inbR ?_; refine thenR ?_; refine thenR ?_; refine inbR ?_; refine thenR ?_; have hx_ := HD1387 _ (si H).symm; have H := HR1391; rw [← hx_] at H
                        as_aux_lemma =>
                        replace H : some (.done (.inr false)) = some ctl1272 := H; have hx_ := HD1271 _ (si H).symm; have H := HR1275; rw [← hx_] at H; replace H : some false = some r := H; obtain rfl := si H; refine out1 F rfl rfl ?_; exact ⟨cf (ct m) c1383, rfl, E.lv B0, cfb⟩
                      replace H := im hb1395 H; refine wcf (fb F (dz hb1395)) ?_; refine wp_exit ?_; refine thenE ?_; refine thenE ?_; refine inbE ?_; have hx_ := HD1387 _ (si H).symm; have H := HR1391; rw [← hx_] at H; exact J1420 c1383 w1384 a  (F.sub ⟨rfl, rfl, rfl, rfl, rfl, rfl, rfl, trivial⟩) E B h461 h1044 h654 h1257 H
                    refine loop_fuel (I := fun n a w => ∃ (i1295 : Int) (c : Nat → Nat), Fr a 297 [(3, .int .i64 a7), (4, .int .i64 a8), (11, .pointer p28), (14, .slice A1046 l1045.length C1047), (15, .slice A652 (l430 ++ [(rd ([t247, t257, t267, t277] ++ [t464, t474]) 4), (rd ([t247, t257, t267, t277] ++ [t464, t474]) 5)]).length C653), (20, .slice A1259 l1258.length C1260), (24, .int .i64 i1266), (25, .int .i64 ((rd l1045 i1266).length : Int)), (26, .int .i64 i1295)] ∧ Ev (fun x => False ∨ m ≤ x) c0 w0 c w ∧ CB (m + 19) c w ∧ RU (m + 1) c w p28 t455.2 ∧ SL true (Kslice (Kint .i64)) (m + 7) 0 c w A1046 C1047 l1045 ∧ SL true (Kslice (Kint .i64)) (m + 9) 0 c w A652 C653 (l430 ++ [(rd ([t247, t257, t267, t277] ++ [t464, t474]) 4), (rd ([t247, t257, t267, t277] ++ [t464, t474]) 5)]) ∧ SL true (Kslice (Kint .i64)) (m + 18) 0 c w A1259 C1260 l1258 ∧ loop (fun (s_ : Int) => haulagelaw23_RouteOwn.b24 l1045 l1258 i1266 s_) n i1295 = some x1305) (k := k) ⟨0, c1267, F.sub ⟨rfl, rfl, rfl, rfl, rfl, rfl, rfl, rfl, rfl, trivial⟩, E, B, h461, h1044, h654, h1257, HL⟩ ?_; clear HL H E F B; intro n1302 X1298 hX1298 a w1297 ⟨i1295, c1296, F, E, B, h461, h1044, h654, h1257, HL⟩; obtain ⟨n1303, ctl1301, rfl, HB, HN1299, HD1300⟩ := loop_some HL; have H : haulagelaw23_RouteOwn.b24 l1045 l1258 i1266 i1295 = some ctl1301 := HB; clear HB HL; unfold haulagelaw23_RouteOwn.b24 at H
                    as_aux_lemma =>
                    refine sq fun K1306 hK1306 => ?_; refine sr fun K1307 hK1307 => qm F fun a F => qm F fun a F => ?_; refine qv F (r_lss F rfl rfl) fun a F => ?_; refine nil (hK1307 _ _ ?_)
                    by_cases hb1308 : i1295 < ((rd l1045 i1266).length : Int)
                    · replace H := ip hb1308 H; refine wct (fb F (dt hb1308)) (wp_skip (hK1306 _ _ ?_)); refine sq fun K1309 hK1309 => ?_; refine wp_block ?_; refine sq fun K1310 hK1310 => ?_; have J1372 : ∀ (c1373 : Nat → Nat) (w1374 : World) (a : Act) (b1371 : Bool), Fr a 297 [(3, .int .i64 a7), (4, .int .i64 a8), (11, .pointer p28), (14, .slice A1046 l1045.length C1047), (15, .slice A652 (l430 ++ [(rd ([t247, t257, t267, t277] ++ [t464, t474]) 4), (rd ([t247, t257, t267, t277] ++ [t464, t474]) 5)]).length C653), (20, .slice A1259 l1258.length C1260), (24, .int .i64 i1266), (25, .int .i64 ((rd l1045 i1266).length : Int)), (26, .int .i64 i1295), (261, .bool b1371)] → Ev (fun x => False ∨ m ≤ x) c0 w0 c1373 w1374 → CB (m + 19) c1373 w1374 → RU (m + 1) c1373 w1374 p28 t455.2 → SL true (Kslice (Kint .i64)) (m + 7) 0 c1373 w1374 A1046 C1047 l1045 → SL true (Kslice (Kint .i64)) (m + 9) 0 c1373 w1374 A652 C653 (l430 ++ [(rd ([t247, t257, t267, t277] ++ [t464, t474]) 4), (rd ([t247, t257, t267, t277] ++ [t464, t474]) 5)]) → SL true (Kslice (Kint .i64)) (m + 18) 0 c1373 w1374 A1259 C1260 l1258 → haulagelaw23_RouteOwn.j23 i1295 b1371 = some ctl1301 → K1310 a w1374 := by
                        intro c1373 w1374 a b1371 F E B h461 h1044 h654 h1257 H; unfold haulagelaw23_RouteOwn.j23 at H; refine hK1310 _ _ ?_
                        by_cases hb1375 : b1371 = true
                        · replace H := ip hb1375 H
                          as_aux_lemma =>
                          refine wct (fb F hb1375) ?_; refine sr fun K1376 hK1376 => qa F fun a F => nil (hK1376 _ _ ?_); replace F : Fr a 297 [(10, .bool false)] := F.sub ⟨rfl, trivial⟩; refine wp_ret ?_; refine inbR ?_; refine thenR ?_; refine thenR ?_; refine inbR ?_; refine thenR ?_; refine inbR ?_; refine thenR ?_; refine thenR ?_; refine inbR ?_; refine thenR ?_; have hx_ := HD1300 _ (si H).symm; have H := HR1304; rw [← hx_] at H
                          as_aux_lemma =>
                          replace H : some (.done (.inr false)) = some ctl1272 := H; have hx_ := HD1271 _ (si H).symm; have H := HR1275; rw [← hx_] at H; replace H : some false = some r := H; obtain rfl := si H; refine out1 F rfl rfl ?_; exact ⟨cf (ct m) c1373, rfl, E.lv B0, cfb⟩
                        replace H := im hb1375 H; refine wcf (fb F (bfalse hb1375)) (wp_skip (hK1309 _ _ ?_)); refine reg ?_; refine qm F fun a F => ?_; refine qv F (r_add F rfl rfl) fun a F => ?_; refine qa F fun a F => nil ?_
                        as_aux_lemma =>
                        replace H := HN1299 _ (si H).symm; exact hX1298 _ _ _ (Nat.lt_succ_self _) ⟨(IntKind.i64.wrap (i1295 + 1)), c1373, F.sub ⟨rfl, rfl, rfl, rfl, rfl, rfl, rfl, rfl, rfl, trivial⟩, E, B, h461, h1044, h654, h1257, H⟩
                      refine regD (SB No c1296 w1297) 29 (.q 0 (.q 1 (.q 2 (.q 3 (.q 4 (.q 5 (.q 6 (.q 7 (.q 8 (.q 9 (.q 10 (.q 11 (.q 12 (.q 13 (.q 14 (.q 15 (.q 16 (.q 17 (.q 18 (.q 19 (.q 20 (.q 21 (.q 22 (.q 23 (.q 24 (.q 25 (.q 26 (.q 27 (.q 28 .nil))))))))))))))))))))))))))))) Try_hm (by decide +kernel) ?_; intro w1311 w1_ w2_ w3_ w4_; have E1312 : Ev No c1296 w1297 c1296 w1311 := Ev.same w1_ w2_ w3_ w4_; replace B := B.same w1_; have zh1044 := h1044; have zh1257 := h1257; have ER : Ev No c1296 w1297 c1296 w1311 := Ev.same w1_ w2_ w3_ w4_; replace h461 := h461.ev E1312; replace h1044 := h1044.ev E1312; replace h654 := h654.ev E1312; replace h1257 := h1257.ev E1312; replace E := E.n E1312
                      as_aux_lemma =>
                      refine dm F ER.sb fun a F => ?_; refine dm F ER.sb fun a F => ?_; replace H := ifN H; obtain ⟨g1313, H⟩ := H; obtain ⟨ad1314, cs1315, e1316, h1317, r1318⟩ := SL.at zh1044 i1266 g1313.1 g1313.2; obtain ⟨A1319, C1320, rfl, h1321⟩ := r1318; replace h1321 := SL.fl (i' := 0) h1321 (fun q => q); obtain ⟨qa1322, qqa1322⟩ : ∃ q, q = (ad1314.add (i1266.toNat * 1)) := ⟨_, rfl⟩; have h1317 : AT true (m + 7) c1296 w1297 qa1322 [.slice A1319 (rd l1045 i1266).length C1320] := by rw [qqa1322]; exact h1317
                      have zh1321 := h1321; have zh1317 := h1317; refine dq F (fun wq hS => r_indexAddr' F Try.underlying41 sz_22 rfl rfl g1313.1 g1313.2 e1316 qqa1322) ER.sb fun a F => ?_; refine dq F (fun wq hS => r_load F rfl ag_22 (AT.cell0 (AT.sb zh1317 hS nq) rfl)) ER.sb fun a F => ?_; refine dm F ER.sb fun a F => ?_
                      as_aux_lemma =>
                      replace H := ifN H; obtain ⟨g1324, H⟩ := H; obtain ⟨ad1325, cs1326, e1327, h1328, r1329⟩ := SL.at zh1321 i1295 g1324.1 g1324.2; obtain rfl : cs1326 = [.int .i64 (rd (rd l1045 i1266) i1295)] := r1329; obtain ⟨qa1330, qqa1330⟩ : ∃ q, q = (ad1325.add (i1295.toNat * 1)) := ⟨_, rfl⟩; have h1328 : AT false 0 c1296 w1297 qa1330 [.int .i64 (rd (rd l1045 i1266) i1295)] := by rw [qqa1330]; exact h1328
                      have zh1328 := h1328; refine dq F (fun wq hS => r_indexAddr' F Try.underlying22 sz_3 rfl rfl g1324.1 g1324.2 e1327 qqa1330) ER.sb fun a F => ?_; refine dq F (fun wq hS => r_load F rfl ag_3 (AT.cell0 (AT.sb zh1328 hS nq) rfl)) ER.sb fun a F => ?_; refine dm F ER.sb fun a F => ?_; refine dq F (fun wq hS => r_mul F rfl rfl) ER.sb fun a F => ?_; refine dm F ER.sb fun a F => ?_; refine dq F (fun wq hS => r_add F rfl rfl) ER.sb fun a F => ?_; refine dq F (fun wq hS => r_neq F rfl rfl) ER.sb fun a F => ?_
                      as_aux_lemma =>
                      refine dm F ER.sb fun a F => ?_
                      by_cases hb1332 : (rd (rd l1045 i1266) i1295) = (IntKind.i64.wrap ((IntKind.i64.wrap (1000 * i1266)) + i1295))
                      · replace H := ip hb1332 H; refine dy F (congrArg not (dt hb1332)) (fun wq hS => r_move F rfl) ER.sb fun a F => ?_; refine dy F (congrArg not (dt hb1332)) (fun wq hS => r_move F rfl) ER.sb fun a F => ?_; replace H := ifN H; obtain ⟨g1333, H⟩ := H; obtain ⟨ad1334, cs1335, e1336, h1337, r1338⟩ := SL.at zh1257 i1266 g1333.1 g1333.2; obtain ⟨A1339, C1340, rfl, h1341⟩ := r1338; replace h1341 := SL.fl (i' := 0) h1341 (fun q => q); obtain ⟨qa1342, qqa1342⟩ : ∃ q, q = (ad1334.add (i1266.toNat * 1)) := ⟨_, rfl⟩; have h1337 : AT true (m + 18) c1296 w1297 qa1342 [.slice A1339 (rd l1258 i1266).length C1340] := by rw [qqa1342]; exact h1337
                        have zh1341 := h1341; have zh1337 := h1337; refine dy F (congrArg not (dt hb1332)) (fun wq hS => r_indexAddr' F Try.underlying41 sz_22 rfl rfl g1333.1 g1333.2 e1336 qqa1342) ER.sb fun a F => ?_
                        as_aux_lemma =>
                        refine dy F (congrArg not (dt hb1332)) (fun wq hS => r_load F rfl ag_22 (AT.cell0 (AT.sb zh1337 hS nq) rfl)) ER.sb fun a F => ?_; refine dy F (congrArg not (dt hb1332)) (fun wq hS => r_move F rfl) ER.sb fun a F => ?_; replace H := ifN H; obtain ⟨g1344, H⟩ := H; obtain ⟨ad1345, cs1346, e1347, h1348, r1349⟩ := SL.at zh1341 i1295 g1344.1 g1344.2; obtain rfl : cs1346 = [.int .i64 (rd (rd l1258 i1266) i1295)] := r1349; obtain ⟨qa1350, qqa1350⟩ : ∃ q, q = (ad1345.add (i1295.toNat * 1)) := ⟨_, rfl⟩; have h1348 : AT false 0 c1296 w1297 qa1350 [.int .i64 (rd (rd l1258 i1266) i1295)] := by rw [qqa1350]; exact h1348
                        have zh1348 := h1348; refine dy F (congrArg not (dt hb1332)) (fun wq hS => r_indexAddr' F Try.underlying22 sz_3 rfl rfl g1344.1 g1344.2 e1347 qqa1350) ER.sb fun a F => ?_; refine dy F (congrArg not (dt hb1332)) (fun wq hS => r_load F rfl ag_3 (AT.cell0 (AT.sb zh1348 hS nq) rfl)) ER.sb fun a F => ?_; refine dy F (congrArg not (dt hb1332)) (fun wq hS => r_move F rfl) ER.sb fun a F => ?_; refine dy F (congrArg not (dt hb1332)) (fun wq hS => r_move F rfl) ER.sb fun a F => ?_; replace H := ifN H; obtain ⟨g1352, H⟩ := H; obtain ⟨ad1353, cs1354, e1355, h1356, r1357⟩ := SL.at zh1044 i1266 g1352.1 g1352.2; obtain ⟨A1358, C1359, rfl, h1360⟩ := r1357
                        as_aux_lemma =>
                        replace h1360 := SL.fl (i' := 0) h1360 (fun q => q); obtain ⟨qa1361, qqa1361⟩ : ∃ q, q = (ad1353.add (i1266.toNat * 1)) := ⟨_, rfl⟩; have h1356 : AT true (m + 7) c1296 w1297 qa1361 [.slice A1358 (rd l1045 i1266).length C1359] := by rw [qqa1361]; exact h1356
                        have zh1360 := h1360; have zh1356 := h1356; refine dy F (congrArg not (dt hb1332)) (fun wq hS => r_indexAddr' F Try.underlying41 sz_22 rfl rfl g1352.1 g1352.2 e1355 qqa1361) ER.sb fun a F => ?_; refine dy F (congrArg not (dt hb1332)) (fun wq hS => r_load F rfl ag_22 (AT.cell0 (AT.sb zh1356 hS nq) rfl)) ER.sb fun a F => ?_; refine dy F (congrArg not (dt hb1332)) (fun wq hS => r_move F rfl) ER.sb fun a F => ?_; replace H := ifN H; obtain ⟨g1363, H⟩ := H; obtain ⟨ad1364, cs1365, e1366, h1367, r1368⟩ := SL.at zh1360 i1295 g1363.1 g1363.2; obtain rfl : cs1365 = [.int .i64 (rd (rd l1045 i1266) i1295)] := r1368; obtain ⟨qa1369, qqa1369⟩ : ∃ q, q = (ad1364.add (i1295.toNat * 1)) := ⟨_, rfl⟩; have h1367 : AT false 0 c1296 w1297 qa1369 [.int .i64 (rd (rd l1045 i1266) i1295)] := by rw [qqa1369]; exact h1367
                        have zh1367 := h1367
                        as_aux_lemma =>
                        refine dy F (congrArg not (dt hb1332)) (fun wq hS => r_indexAddr' F Try.underlying22 sz_3 rfl rfl g1363.1 g1363.2 e1366 qqa1369) ER.sb fun a F => ?_; refine dy F (congrArg not (dt hb1332)) (fun wq hS => r_load F rfl ag_3 (AT.cell0 (AT.sb zh1367 hS nq) rfl)) ER.sb fun a F => ?_; refine dy F (congrArg not (dt hb1332)) (fun wq hS => r_neq F rfl rfl) ER.sb fun a F => ?_; refine dq F (fun wq hS => r_pick_f F rfl (congrArg not (dt hb1332)) rfl) ER.sb fun a F => ?_; refine d_nil ?_; exact J1372 c1296 w1311 a (!decide ((rd (rd l1258 i1266) i1295) = (rd (rd l1045 i1266) i1295))) (F.sub ⟨rfl, rfl, rfl, rfl, rfl, rfl, rfl, rfl, rfl, rfl, trivial⟩) E B h461 h1044 h654 h1257 H
                      replace H := im hb1332 H; refine dn F (congrArg not (dz hb1332)) ER.sb fun a F => ?_; refine dn F (congrArg not (dz hb1332)) ER.sb fun a F => ?_; refine dn F (congrArg not (dz hb1332)) ER.sb fun a F => ?_; refine dn F (congrArg not (dz hb1332)) ER.sb fun a F => ?_; refine dn F (congrArg not (dz hb1332)) ER.sb fun a F => ?_; refine dn F (congrArg not (dz hb1332)) ER.sb fun a F => ?_; refine dn F (congrArg not (dz hb1332)) ER.sb fun a F => ?_
                      as_aux_lemma =>
                      refine dn F (congrArg not (dz hb1332)) ER.sb fun a F => ?_; refine dn F (congrArg not (dz hb1332)) ER.sb fun a F => ?_; refine dn F (congrArg not (dz hb1332)) ER.sb fun a F => ?_; refine dn F (congrArg not (dz hb1332)) ER.sb fun a F => ?_; refine dn F (congrArg not (dz hb1332)) ER.sb fun a F => ?_; refine dn F (congrArg not (dz hb1332)) ER.sb fun a F => ?_; refine dn F (congrArg not (dz hb1332)) ER.sb fun a F => ?_; refine dn F (congrArg not (dz hb1332)) ER.sb fun a F => ?_; refine dq F (fun wq hS => r_pick_t F rfl (congrArg not (dz hb1332)) rfl) ER.sb fun a F => ?_; refine d_nil ?_; exact J1372 c1296 w1311 a true (F.sub ⟨rfl, rfl, rfl, rfl, rfl, rfl, rfl, rfl, rfl, rfl, trivial⟩) E B h461 h1044 h654 h1257 H
                    replace H := im hb1308 H; refine wcf (fb F (dz hb1308)) ?_; refine wp_exit ?_
                    as_aux_lemma =>
                    refine thenE ?_; refine thenE ?_; refine inbE ?_; have hx_ := HD1300 _ (si H).symm; have H := HR1304; rw [← hx_] at H; exact J1378 c1296 w1297 a  (F.sub ⟨rfl, rfl, rfl, rfl, rfl, rfl, rfl, rfl, trivial⟩) E B h461 h1044 h654 h1257 H
                  replace H := im hb1279 H; refine wcf (fb F (dz hb1279)) ?_; refine wp_exit ?_; refine thenE ?_; refine thenE ?_; refine inbE ?_; have hx_ := HD1271 _ (si H).symm; have H := HR1275; rw [← hx_] at H; exact J1424 c1267 w1268 a  (F.sub ⟨rfl, rfl, rfl, rfl, trivial⟩) E B h461 h654 H
                refine loop_fuel (I := fun n a w => ∃ (l1152 : List (List Int)) (A1153 : Option Addr) (C1154 : Nat) (i1156 : Int) (c : Nat → Nat), Fr a 297 [(3, .int .i64 a7), (4, .int .i64 a8), (11, .pointer p28), (14, .slice A1046 l1045.length C1047), (15, .slice A652 (l430 ++ [(rd ([t247, t257, t267, t277] ++ [t464, t474]) 4), (rd ([t247, t257, t267, t277] ++ [t464, t474]) 5)]).length C653), (20, .slice A1153 l1152.length C1154), (21, .int .i64 i1156)] ∧ Ev (fun x => False ∨ m ≤ x) c0 w0 c w ∧ CB (m + 19) c w ∧ RU (m + 1) c w p28 t455.2 ∧ SP (Kint .i64) (m + 7) (m + 6) c w A1046 C1047 l1045 i1156.toNat ∧ SL true (Kslice (Kint .i64)) (m + 9) 0 c w A652 C653 (l430 ++ [(rd ([t247, t257, t267, t277] ++ [t464, t474]) 4), (rd ([t247, t257, t267, t277] ++ [t464, t474]) 5)]) ∧ SL true (Kslice (Kint .i64)) (m + 18) 0 c w A1153 C1154 l1152 ∧ loop (fun (s_ : (List (List Int)) × Int) => haulagelaw23_RouteOwn.b21 k l1045 s_.1 s_.2) n (l1152, i1156) = some x1166) (k := k) ⟨[], none, 0, 0, c1049, F.sub ⟨rfl, rfl, rfl, rfl, rfl, rfl, rfl, trivial⟩, E, B, h461, h1044, h654, SL.nil, HL⟩ ?_; clear HL H E F B; intro n1163 X1159 hX1159 a w1158 ⟨l1152, A1153, C1154, i1156, c1157, F, E, B, h461, h1044, h654, h1155, HL⟩; obtain ⟨n1164, ctl1162, rfl, HB, HN1160, HD1161⟩ := loop_some HL; have H : haulagelaw23_RouteOwn.b21 k l1045 l1152 i1156 = some ctl1162 := HB; clear HB HL; unfold haulagelaw23_RouteOwn.b21 at H
                as_aux_lemma =>
                refine sq fun K1167 hK1167 => ?_; refine sr fun K1168 hK1168 => qm F fun a F => ?_; refine qv F (r_lss F rfl rfl) fun a F => ?_; refine nil (hK1168 _ _ ?_)
                by_cases hb1169 : i1156 < 6
                · replace H := ip hb1169 H; refine wct (fb F (dt hb1169)) (wp_skip (hK1167 _ _ ?_)); refine sq fun K1171 hK1171 => ?_; refine wp_block ?_; refine sr fun K1172 hK1172 => qm F fun a F => qm F fun a F => ?_; replace H := ifN H; obtain ⟨g1173, H⟩ := H; obtain ⟨c1174, e1175, e1176, ad1177, A1178, C1179, e1180, h1181, h1182, h1044⟩ := SP.take (z := m + 17) h1044 i1156 g1173.1 g1173.2 rfl ⟨mm, (pl hm0)⟩ mm; replace h461 := RU.rc (c' := c1174) (j' := m + 1) h461 (fun k_ hk_ => (e1175 k_ (by rw [hk_]; exact mm)).trans hk_) (fun k_ hk_ => (e1175 k_ (by rw [hk_]; exact ne_zm)).trans hk_); replace h654 := SL.rc (c' := c1174) (j' := m + 9) (i' := 0) h654 (fun k_ hk_ => (e1175 k_ (by rw [hk_]; exact mm)).trans hk_) (fun k_ hk_ => (e1175 k_ (by rw [hk_]; exact ne_zm)).trans hk_)
                  as_aux_lemma =>
                  replace h1155 := SL.rc (c' := c1174) (j' := m + 18) (i' := 0) h1155 (fun k_ hk_ => (e1175 k_ (by rw [hk_]; exact mm)).trans hk_) (fun k_ hk_ => (e1175 k_ (by rw [hk_]; exact ne_zm)).trans hk_); obtain ⟨qa1183, qqa1183⟩ : ∃ q, q = (ad1177.add (i1156.toNat * 1)) := ⟨_, rfl⟩; have h1181 : AT true (m + 7) c1174 w1158 qa1183 [.slice A1178 (rd l1045 i1156).length C1179] := by rw [qqa1183]; exact h1181
                  replace E : Ev (fun x => False ∨ m ≤ x) c0 w0 c1174 w1158 := E.recol B0 (fun b_ hb_ => e1175 b_ (by omega)); replace B : CB (m + 19) c1174 w1158 := B.recol (fun b_ => (e1176 b_).imp id (fun q_ => by rw [q_]; exact lm)); refine qv F (r_indexAddr' F Try.underlying41 sz_22 rfl rfl g1173.1 g1173.2 e1180 qqa1183) fun a F => ?_; refine qv F (r_load F rfl ag_22 (AT.cell0 h1181 rfl)) fun a F => ?_; refine qa F fun a F => nil (hK1172 _ _ ?_); refine sq fun K1185 hK1185 => ?_; refine sr fun K1186 hK1186 => qa F fun a F => nil (hK1186 _ _ ?_); refine wp_block ?_; obtain ⟨x1201, HL, HR1200⟩ := bind_some H; have J1232 : ∀ (c1233 : Nat → Nat) (w1234 : World) (a : Act) (l1229 : List Int) (A1230 : Option Addr) (C1231 : Nat), Fr a 297 [(3, .int .i64 a7), (4, .int .i64 a8), (11, .pointer p28), (14, .slice A1046 l1045.length C1047), (15, .slice A652 (l430 ++ [(rd ([t247, t257, t267, t277] ++ [t464, t474]) 4), (rd ([t247, t257, t267, t277] ++ [t464, t474]) 5)]).length C653), (20, .slice A1153 l1152.length C1154), (21, .int .i64 i1156), (22, .slice A1230 l1229.length C1231)] → Ev (fun x => False ∨ m ≤ x) c0 w0 c1233 w1234 → CB (m + 19) c1233 w1234 → RU (m + 1) c1233 w1234 p28 t455.2 → SPT (Kint .i64) (m + 7) (m + 6) c1233 w1234 A1046 C1047 l1045 i1156.toNat A1178 C1179 (rd l1045 i1156) → SL true (Kslice (Kint .i64)) (m + 9) 0 c1233 w1234 A652 C653 (l430 ++ [(rd ([t247, t257, t267, t277] ++ [t464, t474]) 4), (rd ([t247, t257, t267, t277] ++ [t464, t474]) 5)]) → SL true (Kslice (Kint .i64)) (m + 18) 0 c1233 w1234 A1153 C1154 l1152 → TW (Kint .i64) (m + 17) c1233 w1234 A1178 C1179 (rd l1045 i1156) A1230 C1231 l1229 → haulagelaw23_RouteOwn.j20 l1152 i1156 l1229 = some ctl1162 → K1185 a w1234 := by
                    intro c1233 w1234 a l1229 A1230 C1231 F E B h461 h1044 h654 h1155 h1228 H; unfold haulagelaw23_RouteOwn.j20 at H
                    as_aux_lemma =>
                    refine hK1185 _ _ ?_; refine reg ?_; refine qm F fun a F => qm F fun a F => ?_; obtain ⟨c1235, hc1235⟩ : ∃ c', c' = fun k => if c1233 k = m + 17 then 0 else c1233 k := ⟨_, rfl⟩; have e1236 : ∀ b, c1233 b ≠ m + 17 → c1235 b = c1233 b := fun b hb => by rw [hc1235]; exact if_neg hb
                    replace h461 := RU.rc (c' := c1235) (j' := m + 1) h461 (fun k_ hk_ => (e1236 k_ (by rw [hk_]; exact mm)).trans hk_) (fun k_ hk_ => (e1236 k_ (by rw [hk_]; exact ne_zm)).trans hk_); replace h1044 := SPT.rc (c' := c1235) (j' := m + 7) (y' := m + 6) h1044 (fun k_ hk_ => (e1236 k_ (by rw [hk_]; exact mm)).trans hk_) (fun k_ hk_ => (e1236 k_ (by rw [hk_]; exact mm)).trans hk_) (fun k_ hk_ => (e1236 k_ (by rw [hk_]; exact ne_zm)).trans hk_) (pl hm0); replace h654 := SL.rc (c' := c1235) (j' := m + 9) (i' := 0) h654 (fun k_ hk_ => (e1236 k_ (by rw [hk_]; exact mm)).trans hk_) (fun k_ hk_ => (e1236 k_ (by rw [hk_]; exact ne_zm)).trans hk_); replace h1155 := SL.rc (c' := c1235) (j' := m + 18) (i' := 0) h1155 (fun k_ hk_ => (e1236 k_ (by rw [hk_]; exact mm)).trans hk_) (fun k_ hk_ => (e1236 k_ (by rw [hk_]; exact ne_zm)).trans hk_); obtain ⟨h1237, h1228⟩ := TW.fr (c' := c1235) h1228 (fun k_ hk_ => by rw [hc1235]; exact if_pos hk_) (fun k_ hk_ => (e1236 k_ (by rw [hk_]; exact ne_zm)).trans hk_); replace h1044 := SP.next (k := i1156) (SPT.put h1044 h1237) g1173.1 rfl (by have g_ := g1173.2; have g0_ := g1173.1; omega); have E : Ev (fun x => False ∨ m ≤ x) c0 w0 c1235 w1234 := by rw [hc1235]; exact E.freeze B0 (by omega)
                    have B : CB (m + 19) c1235 w1234 := by rw [hc1235]; exact B.freeze (by omega)
                    refine q_eff F rfl rfl (by decide) (e_buildSlice (n := 1) (e := 22) (c := c1235) (k := (Kslice (Kint .i64))) (i := 0) F [(0, .slice A1230 l1229.length C1231)] [.slice A1230 l1229.length C1231] ([l1229] : List (List Int)) (by exact ⟨rfl, rfl, trivial⟩) (fun w => by kernel_rfl) rfl (by decide) rfl ⟨⟨A1230, C1231, rfl, (SL.fl h1228 (fun q => q))⟩, trivial⟩ (fun q => q) 0) ?_; rintro v w1239 a ⟨c1238, A1240, C1241, rfl, E1242, h1243, B1244⟩ F
                    as_aux_lemma =>
                    replace B := B1244 _ B (pl hm0); replace h461 := h461.ev E1242; replace h1044 := h1044.ev E1242; replace h654 := h654.ev E1242; replace h1155 := h1155.ev E1242; replace E := E.n E1242; replace H := ifN H; obtain ⟨g1144, H⟩ := H; refine q_eff F rfl rfl (by decide) (e_append (k := (Kslice (Kint .i64))) (xs := l1152) (ys := [l1229]) (c := c1238) (j := (m + 18)) (i := 0) F et_41 rfl rfl h1155 h1243 g1144 (len_ok g1144) ne_zm) ?_; rintro v w1246 a ⟨c1245, A1247, C1248, rfl, E1249, h1250, B1251⟩ F; replace B := B1251 _ B lm; replace h461 := h461.ev E1249; replace h1044 := h1044.ev E1249; replace h654 := h654.ev E1249
                    as_aux_lemma =>
                    replace E := E.trans E1249 lc1; refine qa F fun a F => nil (hK1171 _ _ ?_); refine reg ?_; refine qm F fun a F => ?_; refine qv F (r_add F rfl rfl) fun a F => ?_; refine qa F fun a F => nil ?_; replace H := HN1160 _ (si H).symm; exact hX1159 _ _ _ (Nat.lt_succ_self _) ⟨(l1152 ++ [l1229]), A1247, C1248, (IntKind.i64.wrap (i1156 + 1)), c1245, F.sub ⟨rfl, rfl, rfl, rfl, rfl, rfl, rfl, trivial⟩, E, B, h461, h1044, h654, h1250, H⟩
                  refine loop_fuel (I := fun n a w => ∃ (l1187 : List Int) (A1188 : Option Addr) (C1189 : Nat) (i1191 : Int) (c : Nat → Nat), Fr a 297 [(3, .int .i64 a7), (4, .int .i64 a8), (11, .pointer p28), (14, .slice A1046 l1045.length C1047), (15, .slice A652 (l430 ++ [(rd ([t247, t257, t267, t277] ++ [t464, t474]) 4), (rd ([t247, t257, t267, t277] ++ [t464, t474]) 5)]).length C653), (20, .slice A1153 l1152.length C1154), (21, .int .i64 i1156), (22, .slice A1188 l1187.length C1189), (23, .int .i64 i1191)] ∧ Ev (fun x => False ∨ m ≤ x) c0 w0 c w ∧ CB (m + 19) c w ∧ RU (m + 1) c w p28 t455.2 ∧ SPT (Kint .i64) (m + 7) (m + 6) c w A1046 C1047 l1045 i1156.toNat A1178 C1179 (rd l1045 i1156) ∧ SL true (Kslice (Kint .i64)) (m + 9) 0 c w A652 C653 (l430 ++ [(rd ([t247, t257, t267, t277] ++ [t464, t474]) 4), (rd ([t247, t257, t267, t277] ++ [t464, t474]) 5)]) ∧ SL true (Kslice (Kint .i64)) (m + 18) 0 c w A1153 C1154 l1152 ∧ TW (Kint .i64) (m + 17) c w A1178 C1179 (rd l1045 i1156) A1188 C1189 l1187 ∧ loop (fun (s_ : (List Int) × Int) => haulagelaw23_RouteOwn.b19 i1156 s_.1 s_.2) n (l1187, i1191) = some x1201) (k := k) ⟨(rd l1045 i1156), A1178, C1179, 0, c1174, F.sub ⟨rfl, rfl, rfl, rfl, rfl, rfl, rfl, rfl, rfl, trivial⟩, E, B, h461, h1044, h654, h1155, h1182, HL⟩ ?_; clear HL H E F B; intro n1198 X1194 hX1194 a w1193 ⟨l1187, A1188, C1189, i1191, c1192, F, E, B, h461, h1044, h654, h1155, h1190, HL⟩; obtain ⟨n1199, ctl1197, rfl, HB, HN1195, HD1196⟩ := loop_some HL; have H : haulagelaw23_RouteOwn.b19 i1156 l1187 i1191 = some ctl1197 := HB; clear HB HL; unfold haulagelaw23_RouteOwn.b19 at H
                  as_aux_lemma =>
                  refine sq fun K1202 hK1202 => ?_; refine sr fun K1203 hK1203 => qm F fun a F => ?_; refine qv F (r_lss F rfl rfl) fun a F => ?_; refine nil (hK1203 _ _ ?_)
                  by_cases hb1204 : i1191 < 70
                  · replace H := ip hb1204 H; refine wct (fb F (dt hb1204)) (wp_skip (hK1202 _ _ ?_)); refine sq fun K1205 hK1205 => ?_; refine wp_block ?_; refine reg ?_; refine qm F fun a F => qm F fun a F => ?_; refine qv F (r_mul F rfl rfl) fun a F => ?_; refine qm F fun a F => ?_; refine qv F (r_sub F rfl rfl) fun a F => ?_; refine qv F (r_sub F rfl rfl) fun a F => ?_
                    as_aux_lemma =>
                    refine q_eff F rfl rfl (by decide) (e_buildSlice (n := 1) (e := 3) (c := c1192) (k := (Kint .i64)) (i := 0) F [(0, .int .i64 (IntKind.i64.wrap ((IntKind.i64.wrap ((IntKind.i64.wrap ((-1000) * i1156)) - i1191)) - 1)))] [.int .i64 (IntKind.i64.wrap ((IntKind.i64.wrap ((IntKind.i64.wrap ((-1000) * i1156)) - i1191)) - 1))] ([IntKind.i64.wrap ((IntKind.i64.wrap ((IntKind.i64.wrap ((-1000) * i1156)) - i1191)) - 1)] : List Int) (by exact ⟨rfl, rfl, trivial⟩) (fun w => by kernel_rfl) rfl (by decide) rfl ⟨rfl, trivial⟩ (fun q => q) 0) ?_; rintro v w1207 a ⟨c1206, A1208, C1209, rfl, E1210, h1211, B1212⟩ F; replace B := B1212 _ B (pl hm0); replace h461 := h461.ev E1210; replace h1044 := h1044.ev E1210; replace h654 := h654.ev E1210; replace h1155 := h1155.ev E1210; replace h1190 := h1190.ev E1210; replace E := E.n E1210; replace H := ifN H; obtain ⟨g1111, H⟩ := H; refine q_eff F rfl rfl (by decide) (e_appendT (e := (Kint .i64)) (ys := l1187) (vs := [IntKind.i64.wrap ((IntKind.i64.wrap ((IntKind.i64.wrap ((-1000) * i1156)) - i1191)) - 1)]) (c := c1206) F et_22 rfl rfl h1190 h1211 g1111 (len_ok g1111) (pl hm0)) ?_; rintro v w1217 a ⟨c1213, A1218, C1219, rfl, E1220, B1222, c1214, e1215, e1216, h1221⟩ F; replace B := B1222 _ B lm
                    as_aux_lemma =>
                    replace h461 := h461.ev E1220; replace h1044 := h1044.ev E1220; replace h654 := h654.ev E1220; replace h1155 := h1155.ev E1220; replace E := E.trans E1220 lc1; replace h461 := RU.rc (c' := c1214) (j' := m + 1) h461 (fun k_ hk_ => (e1215 k_ (by rw [hk_]; exact mm)).trans hk_) (fun k_ hk_ => (e1215 k_ (by rw [hk_]; exact ne_zm)).trans hk_); replace h1044 := SPT.rc (c' := c1214) (j' := m + 7) (y' := m + 6) h1044 (fun k_ hk_ => (e1215 k_ (by rw [hk_]; exact mm)).trans hk_) (fun k_ hk_ => (e1215 k_ (by rw [hk_]; exact mm)).trans hk_) (fun k_ hk_ => (e1215 k_ (by rw [hk_]; exact ne_zm)).trans hk_) (pl hm0); replace h654 := SL.rc (c' := c1214) (j' := m + 9) (i' := 0) h654 (fun k_ hk_ => (e1215 k_ (by rw [hk_]; exact mm)).trans hk_) (fun k_ hk_ => (e1215 k_ (by rw [hk_]; exact ne_zm)).trans hk_); replace h1155 := SL.rc (c' := c1214) (j' := m + 18) (i' := 0) h1155 (fun k_ hk_ => (e1215 k_ (by rw [hk_]; exact mm)).trans hk_) (fun k_ hk_ => (e1215 k_ (by rw [hk_]; exact ne_zm)).trans hk_); replace E : Ev (fun x => False ∨ m ≤ x) c0 w0 c1214 w1217 := E.recol B0 (fun b_ hb_ => e1215 b_ (by omega)); replace B : CB (m + 19) c1214 w1217 := B.recol (fun b_ => (e1216 b_).imp id (fun q_ => by rw [q_]; exact (pl hm0))); refine qa F fun a F => nil (hK1205 _ _ ?_); replace F : Fr a 297 [(3, .int .i64 a7), (4, .int .i64 a8), (11, .pointer p28), (14, .slice A1046 l1045.length C1047), (15, .slice A652 (l430 ++ [(rd ([t247, t257, t267, t277] ++ [t464, t474]) 4), (rd ([t247, t257, t267, t277] ++ [t464, t474]) 5)]).length C653), (20, .slice A1153 l1152.length C1154), (21, .int .i64 i1156), (22, .slice A1218 (l1187 ++ [IntKind.i64.wrap ((IntKind.i64.wrap ((IntKind.i64.wrap ((-1000) * i1156)) - i1191)) - 1)]).length C1219), (23, .int .i64 i1191)] := F.sub ⟨rfl, rfl, rfl, rfl, rfl, rfl, rfl, rfl, rfl, trivial⟩; refine reg ?_
                    as_aux_lemma =>
                    refine qm F fun a F => ?_; refine qv F (r_add F rfl rfl) fun a F => ?_; refine qa F fun a F => nil ?_; replace H := HN1195 _ (si H).symm; exact hX1194 _ _ _ (Nat.lt_succ_self _) ⟨(l1187 ++ [IntKind.i64.wrap ((IntKind.i64.wrap ((IntKind.i64.wrap ((-1000) * i1156)) - i1191)) - 1)]), A1218, C1219, (IntKind.i64.wrap (i1191 + 1)), c1214, F.sub ⟨rfl, rfl, rfl, rfl, rfl, rfl, rfl, rfl, rfl, trivial⟩, E, B, h461, h1044, h654, h1155, h1221, H⟩
                  replace H := im hb1204 H; refine wcf (fb F (dz hb1204)) ?_; refine wp_exit ?_; refine thenE ?_; refine thenE ?_; refine inbE ?_; have hx_ := HD1196 _ (si H).symm; have H := HR1200; rw [← hx_] at H; exact J1232 c1192 w1193 a l1187 A1188 C1189 (F.sub ⟨rfl, rfl, rfl, rfl, rfl, rfl, rfl, rfl, trivial⟩) E B h461 h1044 h654 h1155 h1190 H
                as_aux_lemma =>
                replace H := im hb1169 H; refine wcf (fb F (dz hb1169)) ?_; refine wp_exit ?_; refine thenE ?_; refine thenE ?_; refine inbE ?_; replace H := ifN H; obtain ⟨g1170, H⟩ := H; replace h1044 := SP.done h1044 g1170; have hx_ := HD1161 _ (si H).symm; have H := HR1165; rw [← hx_] at H; exact J1261 c1157 w1158 a l1152 A1153 C1154 (F.sub ⟨rfl, rfl, rfl, rfl, rfl, rfl, trivial⟩) E B h461 h1044 h654 h1155 H
              refine loop_fuel (I := fun n a w => ∃ (l896 : List (List Int)) (A893 : Option Addr) (C894 : Nat) (i897 : Int) (c : Nat → Nat), Fr a 297 [(3, .int .i64 a7), (4, .int .i64 a8), (11, .pointer p28), (14, .slice A893 l896.length C894), (15, .slice A652 (l430 ++ [(rd ([t247, t257, t267, t277] ++ [t464, t474]) 4), (rd ([t247, t257, t267, t277] ++ [t464, t474]) 5)]).length C653), (18, .int .i64 i897)] ∧ Ev (fun x => False ∨ m ≤ x) c0 w0 c w ∧ CB (m + 19) c w ∧ RU (m + 1) c w p28 t455.2 ∧ SL true (Kslice (Kint .i64)) (m + 9) 0 c w A652 C653 (l430 ++ [(rd ([t247, t257, t267, t277] ++ [t464, t474]) 4), (rd ([t247, t257, t267, t277] ++ [t464, t474]) 5)]) ∧ SP (Kint .i64) (m + 7) (m + 6) c w A893 C894 l896 0 ∧ loop (fun (s_ : (List (List Int)) × Int) => haulagelaw23_RouteOwn.b15 k s_.1 s_.2) n (l896, i897) = some x907) (k := k) ⟨([t247, t257, t267, t277] ++ [t464, t474]), A504, C505, 0, c747, F.sub ⟨rfl, rfl, rfl, rfl, rfl, rfl, trivial⟩, E, B, h461, h654, h507, HL⟩ ?_; clear HL H E F B; intro n904 X900 hX900 a w899 ⟨l896, A893, C894, i897, c898, F, E, B, h461, h654, h895, HL⟩; obtain ⟨n905, ctl903, rfl, HB, HN901, HD902⟩ := loop_some HL; have H : haulagelaw23_RouteOwn.b15 k l896 i897 = some ctl903 := HB; clear HB HL; unfold haulagelaw23_RouteOwn.b15 at H
              as_aux_lemma =>
              refine sq fun K908 hK908 => ?_; refine sr fun K909 hK909 => qm F fun a F => ?_; refine qv F (r_lss F rfl rfl) fun a F => ?_; refine nil (hK909 _ _ ?_)
              by_cases hb910 : i897 < 6
              · replace H := ip hb910 H; refine wct (fb F (dt hb910)) (wp_skip (hK908 _ _ ?_)); refine sq fun K911 hK911 => ?_; refine wp_block ?_; refine sr fun K912 hK912 => qa F fun a F => nil (hK912 _ _ ?_); refine wp_block ?_; obtain ⟨x982, HL, HR981⟩ := bind_some H; have J1036 : ∀ (c1037 : Nat → Nat) (w1038 : World) (a : Act) (l1033 : List (List Int)) (A1034 : Option Addr) (C1035 : Nat), Fr a 297 [(3, .int .i64 a7), (4, .int .i64 a8), (11, .pointer p28), (14, .slice A1034 l1033.length C1035), (15, .slice A652 (l430 ++ [(rd ([t247, t257, t267, t277] ++ [t464, t474]) 4), (rd ([t247, t257, t267, t277] ++ [t464, t474]) 5)]).length C653), (18, .int .i64 i897)] → Ev (fun x => False ∨ m ≤ x) c0 w0 c1037 w1038 → CB (m + 19) c1037 w1038 → RU (m + 1) c1037 w1038 p28 t455.2 → SL true (Kslice (Kint .i64)) (m + 9) 0 c1037 w1038 A652 C653 (l430 ++ [(rd ([t247, t257, t267, t277] ++ [t464, t474]) 4), (rd ([t247, t257, t267, t277] ++ [t464, t474]) 5)]) → SP (Kint .i64) (m + 7) (m + 6) c1037 w1038 A1034 C1035 l1033 0 → haulagelaw23_RouteOwn.j14 i897 l1033 = some ctl903 → K911 a w1038 := by
                  intro c1037 w1038 a l1033 A1034 C1035 F E B h461 h654 h1032 H; unfold haulagelaw23_RouteOwn.j14 at H
                  as_aux_lemma =>
                  refine hK911 _ _ ?_; refine reg ?_; refine qm F fun a F => ?_; refine qv F (r_add F rfl rfl) fun a F => ?_; refine qa F fun a F => nil ?_; replace H := HN901 _ (si H).symm; exact hX900 _ _ _ (Nat.lt_succ_self _) ⟨l1033, A1034, C1035, (IntKind.i64.wrap (i897 + 1)), c1037, F.sub ⟨rfl, rfl, rfl, rfl, rfl, rfl, trivial⟩, E, B, h461, h654, h1032, H⟩
                refine loop_fuel (I := fun n a w => ∃ (l971 : List (List Int)) (A968 : Option Addr) (C969 : Nat) (i972 : Int) (c : Nat → Nat), Fr a 297 [(3, .int .i64 a7), (4, .int .i64 a8), (11, .pointer p28), (14, .slice A968 l971.length C969), (15, .slice A652 (l430 ++ [(rd ([t247, t257, t267, t277] ++ [t464, t474]) 4), (rd ([t247, t257, t267, t277] ++ [t464, t474]) 5)]).length C653), (18, .int .i64 i897), (19, .int .i64 i972)] ∧ Ev (fun x => False ∨ m ≤ x) c0 w0 c w ∧ CB (m + 19) c w ∧ RU (m + 1) c w p28 t455.2 ∧ SL true (Kslice (Kint .i64)) (m + 9) 0 c w A652 C653 (l430 ++ [(rd ([t247, t257, t267, t277] ++ [t464, t474]) 4), (rd ([t247, t257, t267, t277] ++ [t464, t474]) 5)]) ∧ SP (Kint .i64) (m + 7) (m + 6) c w A968 C969 l971 0 ∧ loop (fun (s_ : (List (List Int)) × Int) => haulagelaw23_RouteOwn.b13 i897 s_.1 s_.2) n (l971, i972) = some x982) (k := k) ⟨l896, A893, C894, 0, c898, F.sub ⟨rfl, rfl, rfl, rfl, rfl, rfl, rfl, trivial⟩, E, B, h461, h654, h895, HL⟩ ?_; clear HL H E F B; intro n979 X975 hX975 a w974 ⟨l971, A968, C969, i972, c973, F, E, B, h461, h654, h970, HL⟩; obtain ⟨n980, ctl978, rfl, HB, HN976, HD977⟩ := loop_some HL; have H : haulagelaw23_RouteOwn.b13 i897 l971 i972 = some ctl978 := HB; clear HB HL; unfold haulagelaw23_RouteOwn.b13 at H
                as_aux_lemma =>
                refine sq fun K983 hK983 => ?_; refine sr fun K984 hK984 => qm F fun a F => qm F fun a F => qm F fun a F => ?_; have h985 : SL false (Kslice (Kint .i64)) (m + 7) (m + 6) c973 w974 A968 C969 l971 := SP.view h970 (fun q_ => q_); replace H := ifN H; obtain ⟨g986, H⟩ := H; obtain ⟨ad987, cs988, e989, h990, r991⟩ := SL.at h985 i897 g986.1 g986.2; obtain ⟨A992, C993, rfl, h994⟩ := r991; obtain ⟨qa995, qqa995⟩ : ∃ q, q = (ad987.add (i897.toNat * 1)) := ⟨_, rfl⟩; have h990 : AT false (m + 7) c973 w974 qa995 [.slice A992 (rd l971 i897).length C993] := by rw [qqa995]; exact h990
                refine qv F (r_indexAddr' F Try.underlying41 sz_22 rfl rfl g986.1 g986.2 e989 qqa995) fun a F => ?_; refine qv F (r_load F rfl ag_22 (AT.cell0 h990 rfl)) fun a F => ?_; refine qv F (r_lensl F Try.underlying22 rfl) fun a F => ?_; refine qv F (r_lss F rfl rfl) fun a F => ?_; refine nil (hK984 _ _ ?_)
                by_cases hb997 : i972 < ((rd l971 i897).length : Int)
                · replace H := ip hb997 H
                  as_aux_lemma =>
                  refine wct (fb F (dt hb997)) (wp_skip (hK983 _ _ ?_)); refine sq fun K998 hK998 => ?_; refine wp_block ?_; refine reg ?_; refine qm F fun a F => qm F fun a F => ?_; replace H := ifN H; obtain ⟨g999, H⟩ := H; obtain ⟨c1000, e1001, e1002, ad1003, A1004, C1005, e1006, h1007, h1008, h970⟩ := SP.lend (z := m + 16) h970 i897 g999.1 g999.2 (Nat.zero_le _) ⟨mm, (pl hm0)⟩ mm; replace h461 := RU.rc (c' := c1000) (j' := m + 1) h461 (fun k_ hk_ => (e1001 k_ (by rw [hk_]; exact mm)).trans hk_) (fun k_ hk_ => (e1001 k_ (by rw [hk_]; exact ne_zm)).trans hk_); replace h654 := SL.rc (c' := c1000) (j' := m + 9) (i' := 0) h654 (fun k_ hk_ => (e1001 k_ (by rw [hk_]; exact mm)).trans hk_) (fun k_ hk_ => (e1001 k_ (by rw [hk_]; exact ne_zm)).trans hk_); obtain ⟨qa1009, qqa1009⟩ : ∃ q, q = (ad1003.add (i897.toNat * 1)) := ⟨_, rfl⟩; have h1007 : AT true (m + 7) c1000 w974 qa1009 [.slice A1004 (rd l971 i897).length C1005] := by rw [qqa1009]; exact h1007
                  replace E : Ev (fun x => False ∨ m ≤ x) c0 w0 c1000 w974 := E.recol B0 (fun b_ hb_ => e1001 b_ (by omega)); replace B : CB (m + 19) c1000 w974 := B.recol (fun b_ => (e1002 b_).imp id (fun q_ => by rw [q_]; exact lm))
                  as_aux_lemma =>
                  refine qv F (r_indexAddr' F Try.underlying41 sz_22 rfl rfl g999.1 g999.2 e1006 qqa1009) fun a F => ?_; refine qv F (r_load F rfl ag_22 (AT.cell0 h1007 rfl)) fun a F => ?_; refine qm F fun a F => qm F fun a F => ?_; refine qv F (r_mul F rfl rfl) fun a F => ?_; refine qm F fun a F => ?_; refine qv F (r_add F rfl rfl) fun a F => ?_; replace H := ifN H; obtain ⟨g1011, H⟩ := H; obtain ⟨ad1012, cs1013, e1014, h1015, r1016⟩ := SL.at h1008 i972 g1011.1 g1011.2; obtain rfl : cs1013 = [.int .i64 (rd (rd l971 i897) i972)] := r1016; obtain ⟨qa1017, qqa1017⟩ : ∃ q, q = (ad1012.add (i972.toNat * 1)) := ⟨_, rfl⟩; have h1015 : AT true (m + 16) c1000 w974 qa1017 [.int .i64 (rd (rd l971 i897) i972)] := by rw [qqa1017]; exact h1015
                  refine qv F (r_indexAddr' F Try.underlying22 sz_3 rfl rfl g1011.1 g1011.2 e1014 qqa1017) fun a F => ?_; refine q_eff0 F rfl rfl (e_storeel0 (k := (Kint .i64)) F rfl rfl sz_3 h1008 g1011.1 g1011.2 e1014 qqa1017 h1015 rfl (nb rfl) rfl (IntKind.i64.wrap ((IntKind.i64.wrap (1000 * i897)) + i972)) rfl ne_zm) ?_; rintro w1019 a ⟨E1020, h1008, Z1021⟩ F
                  as_aux_lemma =>
                  replace B := B.size Z1021; replace h461 := h461.ev E1020; replace h654 := h654.ev E1020; replace h970 := h970.ev E1020; replace h1007 := h1007.ev E1020; replace E := E.trans E1020 lc1; have hl1022 : (rd l971 i897).length = ((rd l971 i897).set i972.toNat (IntKind.i64.wrap ((IntKind.i64.wrap (1000 * i897)) + i972))).length := by simp
                  have h1007 : AT true (m + 7) c1000 w1019 qa1009 [.slice A1004 ((rd l971 i897).set i972.toNat (IntKind.i64.wrap ((IntKind.i64.wrap (1000 * i897)) + i972))).length C1005] := by rw [← hl1022]; exact h1007
                  replace F := F.sub (L' := [(3, .int .i64 a7), (4, .int .i64 a8), (11, .pointer p28), (14, .slice A968 l971.length C969), (15, .slice A652 (l430 ++ [(rd ([t247, t257, t267, t277] ++ [t464, t474]) 4), (rd ([t247, t257, t267, t277] ++ [t464, t474]) 5)]).length C653), (18, .int .i64 i897), (19, .int .i64 i972), (176, .int .i64 i972), (177, .slice A968 l971.length C969), (178, .int .i64 i897), (179, .pointer (some qa995)), (180, .slice A992 (rd l971 i897).length C993), (181, .int .i64 ((rd l971 i897).length : Int)), (182, .bool (decide (i972 < ((rd l971 i897).length : Int)))), (185, .slice A968 l971.length C969), (186, .int .i64 i897), (187, .pointer (some qa1009)), (188, .slice A1004 ((rd l971 i897).set i972.toNat (IntKind.i64.wrap ((IntKind.i64.wrap (1000 * i897)) + i972))).length C1005), (189, .int .i64 i972), (190, .int .i64 i897), (191, .int .i64 (IntKind.i64.wrap (1000 * i897))), (192, .int .i64 i972), (193, .int .i64 (IntKind.i64.wrap ((IntKind.i64.wrap (1000 * i897)) + i972)))]) ⟨rfl, rfl, rfl, rfl, rfl, rfl, rfl, rfl, rfl, rfl, rfl, rfl, rfl, rfl, rfl, rfl, rfl, (by rw [← hl1022]; rfl), rfl, rfl, rfl, rfl, rfl, trivial⟩; obtain ⟨c1023, e1024, e1025, h970⟩ := SP.back (z := m + 16) (k := i897) (ad := ad1003) h970 g999.1 g999.2 (Nat.zero_le _) e1006 (by rw [← qqa1009]; exact h1007) h1008 ⟨mm, (pl hm0)⟩ mm; replace h461 := RU.rc (c' := c1023) (j' := m + 1) h461 (fun k_ hk_ => (e1024 k_ (by rw [hk_]; exact mm)).trans hk_) (fun k_ hk_ => (e1024 k_ (by rw [hk_]; exact ne_zm)).trans hk_); replace h654 := SL.rc (c' := c1023) (j' := m + 9) (i' := 0) h654 (fun k_ hk_ => (e1024 k_ (by rw [hk_]; exact mm)).trans hk_) (fun k_ hk_ => (e1024 k_ (by rw [hk_]; exact ne_zm)).trans hk_); replace E : Ev (fun x => False ∨ m ≤ x) c0 w0 c1023 w1019 := E.recol B0 (fun b_ hb_ => e1024 b_ (by omega)); replace B : CB (m + 19) c1023 w1019 := B.recol (fun b_ => (e1025 b_).imp id (fun q_ => by rw [q_]; exact lm)); have hl1026 : l971.length = (l971.set i897.toNat ((rd l971 i897).set i972.toNat (IntKind.i64.wrap ((IntKind.i64.wrap (1000 * i897)) + i972)))).length := by simp
                  replace F := F.sub (L' := [(3, .int .i64 a7), (4, .int .i64 a8), (11, .pointer p28), (14, .slice A968 (l971.set i897.toNat ((rd l971 i897).set i972.toNat (IntKind.i64.wrap ((IntKind.i64.wrap (1000 * i897)) + i972)))).length C969), (15, .slice A652 (l430 ++ [(rd ([t247, t257, t267, t277] ++ [t464, t474]) 4), (rd ([t247, t257, t267, t277] ++ [t464, t474]) 5)]).length C653), (18, .int .i64 i897), (19, .int .i64 i972), (176, .int .i64 i972), (177, .slice A968 (l971.set i897.toNat ((rd l971 i897).set i972.toNat (IntKind.i64.wrap ((IntKind.i64.wrap (1000 * i897)) + i972)))).length C969), (178, .int .i64 i897), (179, .pointer (some qa995)), (181, .int .i64 ((rd l971 i897).length : Int)), (182, .bool (decide (i972 < ((rd l971 i897).length : Int)))), (185, .slice A968 (l971.set i897.toNat ((rd l971 i897).set i972.toNat (IntKind.i64.wrap ((IntKind.i64.wrap (1000 * i897)) + i972)))).length C969), (186, .int .i64 i897), (189, .int .i64 i972), (190, .int .i64 i897), (191, .int .i64 (IntKind.i64.wrap (1000 * i897))), (192, .int .i64 i972), (193, .int .i64 (IntKind.i64.wrap ((IntKind.i64.wrap (1000 * i897)) + i972)))]) ⟨rfl, rfl, rfl, (by rw [← hl1026]; rfl), rfl, rfl, rfl, rfl, (by rw [← hl1026]; rfl), rfl, rfl, rfl, rfl, (by rw [← hl1026]; rfl), rfl, rfl, rfl, rfl, rfl, rfl, trivial⟩
                  as_aux_lemma =>
                  refine nil (hK998 _ _ ?_); replace F : Fr a 297 [(3, .int .i64 a7), (4, .int .i64 a8), (11, .pointer p28), (14, .slice A968 (l971.set i897.toNat ((rd l971 i897).set i972.toNat (IntKind.i64.wrap ((IntKind.i64.wrap (1000 * i897)) + i972)))).length C969), (15, .slice A652 (l430 ++ [(rd ([t247, t257, t267, t277] ++ [t464, t474]) 4), (rd ([t247, t257, t267, t277] ++ [t464, t474]) 5)]).length C653), (18, .int .i64 i897), (19, .int .i64 i972)] := F.sub ⟨rfl, rfl, rfl, rfl, rfl, rfl, rfl, trivial⟩; refine reg ?_; refine qm F fun a F => ?_; refine qv F (r_add F rfl rfl) fun a F => ?_; refine qa F fun a F => nil ?_; replace H := HN976 _ (si H).symm; exact hX975 _ _ _ (Nat.lt_succ_self _) ⟨(l971.set i897.toNat ((rd l971 i897).set i972.toNat (IntKind.i64.wrap ((IntKind.i64.wrap (1000 * i897)) + i972)))), A968, C969, (IntKind.i64.wrap (i972 + 1)), c1023, F.sub ⟨rfl, rfl, rfl, rfl, rfl, rfl, rfl, trivial⟩, E, B, h461, h654, h970, H⟩
                replace H := im hb997 H; refine wcf (fb F (dz hb997)) ?_; refine wp_exit ?_; refine thenE ?_; refine thenE ?_; refine inbE ?_; have hx_ := HD977 _ (si H).symm; have H := HR981; rw [← hx_] at H; exact J1036 c973 w974 a l971 A968 C969 (F.sub ⟨rfl, rfl, rfl, rfl, rfl, rfl, trivial⟩) E B h461 h654 h970 H
              as_aux_lemma =>
              replace H := im hb910 H; refine wcf (fb F (dz hb910)) ?_; refine wp_exit ?_; refine thenE ?_; refine thenE ?_; refine inbE ?_; have hx_ := HD902 _ (si H).symm; have H := HR906; rw [← hx_] at H; exact J1048 c898 w899 a l896 A893 C894 (F.sub ⟨rfl, rfl, rfl, rfl, rfl, trivial⟩) E B h461 h654 h895 H
            refine loop_fuel (I := fun n a w => ∃ (i660 : Int) (c : Nat → Nat), Fr a 297 [(3, .int .i64 a7), (4, .int .i64 a8), (11, .pointer p28), (14, .slice A504 ([t247, t257, t267, t277] ++ [t464, t474]).length C505), (15, .slice A652 (l430 ++ [(rd ([t247, t257, t267, t277] ++ [t464, t474]) 4), (rd ([t247, t257, t267, t277] ++ [t464, t474]) 5)]).length C653), (17, .int .i64 i660)] ∧ Ev (fun x => False ∨ m ≤ x) c0 w0 c w ∧ CB (m + 19) c w ∧ RU (m + 1) c w p28 t455.2 ∧ SP (Kint .i64) (m + 7) (m + 6) c w A504 C505 ([t247, t257, t267, t277] ++ [t464, t474]) 0 ∧ SL true (Kslice (Kint .i64)) (m + 9) 0 c w A652 C653 (l430 ++ [(rd ([t247, t257, t267, t277] ++ [t464, t474]) 4), (rd ([t247, t257, t267, t277] ++ [t464, t474]) 5)]) ∧ loop (fun (s_ : Int) => haulagelaw23_RouteOwn.b9 k t247 t257 t267 t277 l430 t464 t474 s_) n i660 = some x670) (k := k) ⟨0, c656, F.sub ⟨rfl, rfl, rfl, rfl, rfl, rfl, trivial⟩, E, B, h461, h507, h654, HL⟩ ?_; clear HL H E F B; intro n667 X663 hX663 a w662 ⟨i660, c661, F, E, B, h461, h507, h654, HL⟩; obtain ⟨n668, ctl666, rfl, HB, HN664, HD665⟩ := loop_some HL; have H : haulagelaw23_RouteOwn.b9 k t247 t257 t267 t277 l430 t464 t474 i660 = some ctl666 := HB; clear HB HL; unfold haulagelaw23_RouteOwn.b9 at H
            as_aux_lemma =>
            refine sq fun K671 hK671 => ?_; refine sr fun K672 hK672 => qm F fun a F => ?_; refine qv F (r_lss F rfl rfl) fun a F => ?_; refine nil (hK672 _ _ ?_)
            by_cases hb673 : i660 < 6
            · replace H := ip hb673 H; refine wct (fb F (dt hb673)) (wp_skip (hK671 _ _ ?_)); refine sq fun K674 hK674 => ?_; refine wp_block ?_; refine sq fun K675 hK675 => ?_; have J740 : ∀ (c741 : Nat → Nat) (w742 : World) (a : Act) (b739 : Bool), Fr a 297 [(3, .int .i64 a7), (4, .int .i64 a8), (11, .pointer p28), (14, .slice A504 ([t247, t257, t267, t277] ++ [t464, t474]).length C505), (15, .slice A652 (l430 ++ [(rd ([t247, t257, t267, t277] ++ [t464, t474]) 4), (rd ([t247, t257, t267, t277] ++ [t464, t474]) 5)]).length C653), (17, .int .i64 i660), (171, .bool b739)] → Ev (fun x => False ∨ m ≤ x) c0 w0 c741 w742 → CB (m + 19) c741 w742 → RU (m + 1) c741 w742 p28 t455.2 → SP (Kint .i64) (m + 7) (m + 6) c741 w742 A504 C505 ([t247, t257, t267, t277] ++ [t464, t474]) 0 → SL true (Kslice (Kint .i64)) (m + 9) 0 c741 w742 A652 C653 (l430 ++ [(rd ([t247, t257, t267, t277] ++ [t464, t474]) 4), (rd ([t247, t257, t267, t277] ++ [t464, t474]) 5)]) → haulagelaw23_RouteOwn.j8 i660 b739 = some ctl666 → K675 a w742 := by
                intro c741 w742 a b739 F E B h461 h507 h654 H; unfold haulagelaw23_RouteOwn.j8 at H; refine hK675 _ _ ?_
                by_cases hb743 : b739 = true
                · replace H := ip hb743 H
                  as_aux_lemma =>
                  refine wct (fb F hb743) ?_; refine sr fun K744 hK744 => qa F fun a F => nil (hK744 _ _ ?_); refine wp_ret ?_; refine inbR ?_; refine thenR ?_; refine thenR ?_; refine inbR ?_; refine thenR ?_; have hx_ := HD665 _ (si H).symm; have H := HR669; rw [← hx_] at H; replace H : some false = some r := H; obtain rfl := si H; refine out1 F rfl rfl ?_; exact ⟨cf (ct m) c741, rfl, E.lv B0, cfb⟩
                as_aux_lemma =>
                replace H := im hb743 H; refine wcf (fb F (bfalse hb743)) (wp_skip (hK674 _ _ ?_)); refine reg ?_; refine qm F fun a F => ?_; refine qv F (r_add F rfl rfl) fun a F => ?_; refine qa F fun a F => nil ?_; replace H := HN664 _ (si H).symm; exact hX663 _ _ _ (Nat.lt_succ_self _) ⟨(IntKind.i64.wrap (i660 + 1)), c741, F.sub ⟨rfl, rfl, rfl, rfl, rfl, rfl, trivial⟩, E, B, h461, h507, h654, H⟩
              have h676 : SL false (Kslice (Kint .i64)) (m + 7) (m + 6) c661 w662 A504 C505 ([t247, t257, t267, t277] ++ [t464, t474]) := SP.view h507 (fun q_ => q_); refine regD (SB No c661 w662) 28 (.q 0 (.q 1 (.q 2 (.q 3 (.q 4 (.q 5 (.q 6 (.q 7 (.e 8 (.q 9 (.q 10 (.q 11 (.q 12 (.q 13 (.q 14 (.q 15 (.q 16 (.q 17 (.q 18 (.q 19 (.q 20 (.q 21 (.q 22 (.q 23 (.e 24 (.q 25 (.q 26 (.q 27 .nil)))))))))))))))))))))))))))) Try_hm (by decide +kernel) ?_; intro w677 w1_ w2_ w3_ w4_; have E678 : Ev No c661 w662 c661 w677 := Ev.same w1_ w2_ w3_ w4_; replace B := B.same w1_; have zh654 := h654; have zh676 := h676; have ER : Ev No c661 w662 c661 w677 := Ev.same w1_ w2_ w3_ w4_
              as_aux_lemma =>
              replace h461 := h461.ev E678; replace h507 := h507.ev E678; replace h654 := h654.ev E678; replace E := E.n E678; refine dm F ER.sb fun a F => ?_; refine dm F ER.sb fun a F => ?_; replace H := ifN H; obtain ⟨g679, H⟩ := H; obtain ⟨ad680, cs681, e682, h683, r684⟩ := SL.at zh676 i660 g679.1 g679.2; obtain ⟨A685, C686, rfl, h687⟩ := r684; replace h687 := SL.fl (i' := 0) h687 (fun q => q); obtain ⟨qa688, qqa688⟩ : ∃ q, q = (ad680.add (i660.toNat * 1)) := ⟨_, rfl⟩; have h683 : AT false (m + 7) c661 w662 qa688 [.slice A685 (rd ([t247, t257, t267, t277] ++ [t464, t474]) i660).length C686] := by rw [qqa688]; exact h683
              replace h687 := h687.ev ER nq nq; have zh683 := h683
              as_aux_lemma =>
              refine dq F (fun wq hS => r_indexAddr' F Try.underlying41 sz_22 rfl rfl g679.1 g679.2 e682 qqa688) ER.sb fun a F => ?_; refine dq F (fun wq hS => r_load F rfl ag_22 (AT.cell0 (AT.sb zh683 hS nq) rfl)) ER.sb fun a F => ?_; refine dm F ER.sb fun a F => ?_; refine dm F ER.sb fun a F => ?_; replace H := ifN H; obtain ⟨g690, H⟩ := H; obtain ⟨ad691, cs692, e693, h694, r695⟩ := SL.at zh654 i660 g690.1 g690.2; obtain ⟨A696, C697, rfl, h698⟩ := r695; replace h698 := SL.fl (i' := 0) h698 (fun q => q); obtain ⟨qa699, qqa699⟩ : ∃ q, q = (ad691.add (i660.toNat * 1)) := ⟨_, rfl⟩; have h694 : AT true (m + 9) c661 w662 qa699 [.slice A696 (rd (l430 ++ [(rd ([t247, t257, t267, t277] ++ [t464, t474]) 4), (rd ([t247, t257, t267, t277] ++ [t464, t474]) 5)]) i660).length C697] := by rw [qqa699]; exact h694
              replace h698 := h698.ev ER nq nq; have zh694 := h694; refine dq F (fun wq hS => r_indexAddr' F Try.underlying41 sz_22 rfl rfl g690.1 g690.2 e693 qqa699) ER.sb fun a F => ?_
              as_aux_lemma =>
              refine dq F (fun wq hS => r_load F rfl ag_22 (AT.cell0 (AT.sb zh694 hS nq) rfl)) ER.sb fun a F => ?_; refine d_e ?_; obtain ⟨t701, q702, H⟩ := bind_some H; refine oc F Try.func15 (haulagelaw23_ints.calls k (m := m + 19) (pl hm0) B h687 h698 lm (pl hm0) _ q702) ?_; rintro e w704 ⟨c703, rfl, E705, B⟩; refine rt fun a F => ?_; replace ER := ER.trans E705 nx; replace h461 := h461.ev E705; replace h507 := h507.ev E705; replace h654 := h654.ev E705; replace E := E.n E705; refine ⟨fun _ => ER.sb, ?_⟩; refine dq F (fun wq hS => r_not F rfl) ER.sb fun a F => ?_; refine dm F ER.sb fun a F => ?_
              by_cases hb708 : t701 = true
              · replace H := ip hb708 H
                as_aux_lemma =>
                refine dy F (congrArg not hb708) (fun wq hS => r_move F rfl) ER.sb fun a F => ?_; refine dy F (congrArg not hb708) (fun wq hS => r_lss F rfl rfl) ER.sb fun a F => ?_; refine dy F (congrArg not hb708) (fun wq hS => r_move F rfl) ER.sb fun a F => ?_
                by_cases hb709 : i660 < 4
                · replace H := ip hb709 H; refine dy F (dt hb709) (fun wq hS => r_move F rfl) ER.sb fun a F => ?_; refine dy F (dt hb709) (fun wq hS => r_move F rfl) ER.sb fun a F => ?_; replace H := ifN H; obtain ⟨g710, H⟩ := H; obtain ⟨ad711, cs712, e713, h714, r715⟩ := SL.at zh676 i660 g710.1 g710.2; obtain ⟨A716, C717, rfl, h718⟩ := r715; replace h718 := SL.fl (i' := 0) h718 (fun q => q); obtain ⟨qa719, qqa719⟩ : ∃ q, q = (ad711.add (i660.toNat * 1)) := ⟨_, rfl⟩; have h714 : AT false (m + 7) c661 w662 qa719 [.slice A716 (rd ([t247, t257, t267, t277] ++ [t464, t474]) i660).length C717] := by rw [qqa719]; exact h714
                  replace h718 := h718.ev ER nq nq; have zh714 := h714
                  as_aux_lemma =>
                  refine dy F (dt hb709) (fun wq hS => r_indexAddr' F Try.underlying41 sz_22 rfl rfl g710.1 g710.2 e713 qqa719) ER.sb fun a F => ?_; refine dy F (dt hb709) (fun wq hS => r_load F rfl ag_22 (AT.cell0 (AT.sb zh714 hS nq) rfl)) ER.sb fun a F => ?_; refine dy F (dt hb709) (fun wq hS => r_move F rfl) ER.sb fun a F => ?_; refine dy F (dt hb709) (fun wq hS => r_move F rfl) ER.sb fun a F => ?_; refine d_qy F rfl rfl rfl (by decide) rfl (dt hb709) rfl (by decide) (fun wq hS => r_quo F rfl rfl (by decide)) ER.sb fun a F => ?_; refine dy F (dt hb709) (fun wq hS => r_mul F rfl rfl) ER.sb fun a F => ?_; replace H := ifN H; obtain ⟨g721, H⟩ := H; obtain ⟨ad722, cs723, e724, h725, r726⟩ := SL.at zh654 (IntKind.i64.wrap ((IntKind.i64.wrap (Int.tdiv i660 2)) * 2)) g721.1 g721.2; obtain ⟨A727, C728, rfl, h729⟩ := r726; replace h729 := SL.fl (i' := 0) h729 (fun q => q); obtain ⟨qa730, qqa730⟩ : ∃ q, q = (ad722.add ((IntKind.i64.wrap ((IntKind.i64.wrap (Int.tdiv i660 2)) * 2)).toNat * 1)) := ⟨_, rfl⟩; have h725 : AT true (m + 9) c661 w662 qa730 [.slice A727 (rd (l430 ++ [(rd ([t247, t257, t267, t277] ++ [t464, t474]) 4), (rd ([t247, t257, t267, t277] ++ [t464, t474]) 5)]) (IntKind.i64.wrap ((IntKind.i64.wrap (Int.tdiv i660 2)) * 2))).length C728] := by rw [qqa730]; exact h725
                  replace h729 := h729.ev ER nq nq; have zh725 := h725
                  as_aux_lemma =>
                  refine dy F (dt hb709) (fun wq hS => r_indexAddr' F Try.underlying41 sz_22 rfl rfl g721.1 g721.2 e724 qqa730) ER.sb fun a F => ?_; refine dy F (dt hb709) (fun wq hS => r_load F rfl ag_22 (AT.cell0 (AT.sb zh725 hS nq) rfl)) ER.sb fun a F => ?_; refine d_e ?_; obtain ⟨t732, q733, H⟩ := bind_some H; refine o_call F rfl (wanted_yes F rfl rfl (by decide) rfl (dt hb709)) rfl (by decide) (r_call F Try.func15 rfl (by kernel_rfl) rfl) (haulagelaw23_ints.calls k (m := m + 19) (pl hm0) B h718 h729 lm (pl hm0) _ q733) ?_; rintro e w735 ⟨c734, rfl, E736, B⟩; refine rt fun a F => ?_; replace ER := ER.trans E736 nx; replace h461 := h461.ev E736; replace h507 := h507.ev E736; replace h654 := h654.ev E736; replace E := E.n E736; refine ⟨fun _ => ER.sb, ?_⟩; refine dy F (dt hb709) (fun wq hS => r_not F rfl) ER.sb fun a F => ?_
                  as_aux_lemma =>
                  refine dy F (congrArg not hb708) (fun wq hS => r_pick_t F rfl (dt hb709) rfl) ER.sb fun a F => ?_; refine dq F (fun wq hS => r_pick_f F rfl (congrArg not hb708) rfl) ER.sb fun a F => ?_; refine d_nil ?_; exact J740 c734 w735 a (!t732) (F.sub ⟨rfl, rfl, rfl, rfl, rfl, rfl, rfl, trivial⟩) E B h461 h507 h654 H
                replace H := im hb709 H; refine dn F (dz hb709) ER.sb fun a F => ?_; refine dn F (dz hb709) ER.sb fun a F => ?_; refine dn F (dz hb709) ER.sb fun a F => ?_; refine dn F (dz hb709) ER.sb fun a F => ?_; refine dn F (dz hb709) ER.sb fun a F => ?_; refine dn F (dz hb709) ER.sb fun a F => ?_; refine dn F (dz hb709) ER.sb fun a F => ?_; refine dn F (dz hb709) ER.sb fun a F => ?_; refine dn F (dz hb709) ER.sb fun a F => ?_
                as_aux_lemma =>
                refine dn F (dz hb709) ER.sb fun a F => ?_; refine d_e ?_; refine o_no F rfl rfl rfl (by decide) rfl (dz hb709) rfl (by decide) fun a F => ?_; refine ⟨fun _ => ER.sb, ?_⟩; refine dn F (dz hb709) ER.sb fun a F => ?_; refine dy F (congrArg not hb708) (fun wq hS => r_pick_f F rfl (dz hb709) rfl) ER.sb fun a F => ?_; refine dq F (fun wq hS => r_pick_f F rfl (congrArg not hb708) rfl) ER.sb fun a F => ?_; refine d_nil ?_; exact J740 c703 w704 a false (F.sub ⟨rfl, rfl, rfl, rfl, rfl, rfl, rfl, trivial⟩) E B h461 h507 h654 H
              replace H := im hb708 H; refine dn F (congrArg not (bfalse hb708)) ER.sb fun a F => ?_; refine dn F (congrArg not (bfalse hb708)) ER.sb fun a F => ?_; refine dn F (congrArg not (bfalse hb708)) ER.sb fun a F => ?_; refine du F ER.sb fun a F => ?_
              as_aux_lemma =>
              refine du F ER.sb fun a F => ?_; refine du F ER.sb fun a F => ?_; refine du F ER.sb fun a F => ?_; refine du F ER.sb fun a F => ?_; refine du F ER.sb fun a F => ?_; refine du F ER.sb fun a F => ?_; refine du F ER.sb fun a F => ?_; refine du F ER.sb fun a F => ?_; refine du F ER.sb fun a F => ?_; refine d_e ?_; refine o_nu F rfl rfl rfl (by decide) rfl rfl (by decide) fun a F => ?_; refine ⟨fun _ => ER.sb, ?_⟩; refine du F ER.sb fun a F => ?_; refine dn F (congrArg not (bfalse hb708)) ER.sb fun a F => ?_
              as_aux_lemma =>
              refine dq F (fun wq hS => r_pick_t F rfl (congrArg not (bfalse hb708)) rfl) ER.sb fun a F => ?_; refine d_nil ?_; exact J740 c703 w704 a true (F.sub ⟨rfl, rfl, rfl, rfl, rfl, rfl, rfl, trivial⟩) E B h461 h507 h654 H
            replace H := im hb673 H; refine wcf (fb F (dz hb673)) ?_; refine wp_exit ?_; refine thenE ?_; refine thenE ?_; refine inbE ?_; have hx_ := HD665 _ (si H).symm; have H := HR669; rw [← hx_] at H; exact J746 c661 w662 a  (F.sub ⟨rfl, rfl, rfl, rfl, rfl, trivial⟩) E B h461 h507 h654 H
          have h510 : SL false (Kslice (Kint .i64)) (m + 7) (m + 6) c500 w503 A504 C505 ([t247, t257, t267, t277] ++ [t464, t474]) := SP.view h507 (fun q_ => q_)
          as_aux_lemma =>
          refine regD (SB (fun x => x = m + 9) c500 w503) 14 (.q 0 (.q 2 (.q 3 (.q 4 (.q 7 (.q 8 (.q 9 (.f 1 (.f 5 (.e 6 (.e 10 (.e 11 (.e 12 (.q 13 .nil))))) 6 (.e 5 (.e 10 (.e 11 (.e 12 (.q 13 .nil)))))) 6 (.e 1 (.e 5 (.e 10 (.e 11 (.e 12 (.q 13 .nil)))))))))))))) Try_hm (by decide +kernel) ?_; intro w511 w1_ w2_ w3_ w4_; have E512 : Ev No c500 w503 c500 w511 := Ev.same w1_ w2_ w3_ w4_; replace B := B.same w1_; have zh510 := h510; have ER : Ev (fun x => x = m + 9) c500 w503 c500 w511 := Ev.same w1_ w2_ w3_ w4_; replace h429 := h429.ev E512; replace h461 := h461.ev E512; replace h507 := h507.ev E512; replace E := E.n E512; refine dm F ER.sb fun a F => ?_; refine dm F ER.sb fun a F => ?_; replace H := ifN H; obtain ⟨g513, H⟩ := H; obtain ⟨ad514, cs515, e516, h517, r518⟩ := SL.at zh510 4 g513.1 g513.2; obtain ⟨A519, C520, rfl, h521⟩ := r518
          as_aux_lemma =>
          replace h521 := SL.fl (i' := 0) h521 (fun q => q); obtain ⟨qa522, qqa522⟩ : ∃ q, q = (ad514.add ((4 : Int).toNat * 1)) := ⟨_, rfl⟩; have h517 : AT false (m + 7) c500 w503 qa522 [.slice A519 (rd ([t247, t257, t267, t277] ++ [t464, t474]) 4).length C520] := by rw [qqa522]; exact h517
          replace h521 := h521.ev ER mm ne_zm; have zh517 := h517; refine dq F (fun wq hS => r_indexAddr' F Try.underlying41 sz_22 rfl rfl g513.1 g513.2 e516 qqa522) ER.sb fun a F => ?_; refine dq F (fun wq hS => r_load F rfl ag_22 (AT.cell0 (AT.sb zh517 hS mm) rfl)) ER.sb fun a F => ?_; refine dm F ER.sb fun a F => ?_; replace H := ifN H; obtain ⟨g524, H⟩ := H; obtain ⟨ad525, cs526, e527, h528, r529⟩ := SL.at zh510 5 g524.1 g524.2; obtain ⟨A530, C531, rfl, h532⟩ := r529; replace h532 := SL.fl (i' := 0) h532 (fun q => q); obtain ⟨qa533, qqa533⟩ : ∃ q, q = (ad525.add ((5 : Int).toNat * 1)) := ⟨_, rfl⟩; have h528 : AT false (m + 7) c500 w503 qa533 [.slice A530 (rd ([t247, t257, t267, t277] ++ [t464, t474]) 5).length C531] := by rw [qqa533]; exact h528
          as_aux_lemma =>
          replace h532 := h532.ev ER mm ne_zm; have zh528 := h528; refine dq F (fun wq hS => r_indexAddr' F Try.underlying41 sz_22 rfl rfl g524.1 g524.2 e527 qqa533) ER.sb fun a F => ?_; refine dq F (fun wq hS => r_load F rfl ag_22 (AT.cell0 (AT.sb zh528 hS mm) rfl)) ER.sb fun a F => ?_; refine d_f ?_ ?_
          · refine o_eff F rfl rfl rfl (by decide) (e_build0 (ee := 3) F (fun w => by kernel_rfl) c500 (m + 14)) ?_; rintro v w536 a ⟨c535, A537, rfl, E538, B539⟩ F; replace B := B539 _ B lm; replace ER := ER.trans E538 nx; replace h429 := h429.ev E538; replace h461 := h461.ev E538; replace h507 := h507.ev E538; replace h521 := h521.ev E538; replace h532 := h532.ev E538; replace E := E.n E538
            as_aux_lemma =>
            refine ⟨fun _ => ER.sb, ?_⟩; refine d_f ?_ ?_
            · replace H := ifN H; obtain ⟨g541, H⟩ := H; refine o_eff F rfl rfl rfl (by decide) (e_append0 (e := (Kint .i64)) (vs := (rd ([t247, t257, t267, t277] ++ [t464, t474]) 4)) (c := c535) (j := 0) F et_22 rfl rfl h521 g541 (len_ok g541)) ?_; rintro v w543 a ⟨c542, A544, C545, rfl, E546, h547, B548⟩ F; replace B := B548 _ B (pl hm0); replace ER := ER.trans E546 nx; replace h429 := h429.ev E546; replace h461 := h461.ev E546; replace h507 := h507.ev E546; replace h532 := h532.ev E546; replace E := E.n E546; refine ⟨fun _ => ER.sb, ?_⟩; refine d_e ?_
              as_aux_lemma =>
              refine o_eff F rfl rfl rfl (by decide) (e_build0 (ee := 3) F (fun w => by kernel_rfl) c542 (m + 15)) ?_; rintro v w550 a ⟨c549, A551, rfl, E552, B553⟩ F; replace B := B553 _ B lm; replace ER := ER.trans E552 nx; replace h429 := h429.ev E552; replace h461 := h461.ev E552; replace h507 := h507.ev E552; replace h532 := h532.ev E552; replace h547 := h547.ev E552; replace E := E.n E552; refine ⟨fun _ => ER.sb, ?_⟩; refine d_e ?_; replace H := ifN H; obtain ⟨g555, H⟩ := H
              as_aux_lemma =>
              refine o_eff F rfl rfl rfl (by decide) (e_append0 (e := (Kint .i64)) (vs := (rd ([t247, t257, t267, t277] ++ [t464, t474]) 5)) (c := c549) (j := 0) F et_22 rfl rfl h532 g555 (len_ok g555)) ?_; rintro v w557 a ⟨c556, A558, C559, rfl, E560, h561, B562⟩ F; replace B := B562 _ B (pl hm0); replace ER := ER.trans E560 nx; replace h429 := h429.ev E560; replace h461 := h461.ev E560; replace h507 := h507.ev E560; replace h547 := h547.ev E560; replace E := E.n E560; refine ⟨fun _ => ER.sb, ?_⟩; refine d_e ?_; refine o_eff F rfl rfl rfl (by decide) (e_buildSlice (n := 2) (e := 22) (c := c556) (k := (Kslice (Kint .i64))) (i := 0) F [(0, .slice A544 (rd ([t247, t257, t267, t277] ++ [t464, t474]) 4).length C545), (1, .slice A558 (rd ([t247, t257, t267, t277] ++ [t464, t474]) 5).length C559)] [.slice A544 (rd ([t247, t257, t267, t277] ++ [t464, t474]) 4).length C545, .slice A558 (rd ([t247, t257, t267, t277] ++ [t464, t474]) 5).length C559] ([(rd ([t247, t257, t267, t277] ++ [t464, t474]) 4), (rd ([t247, t257, t267, t277] ++ [t464, t474]) 5)] : List (List Int)) (by exact ⟨rfl, rfl, rfl, rfl, trivial⟩) (fun w => by kernel_rfl) rfl (by decide) rfl ⟨⟨A544, C545, rfl, (SL.fl h547.r (fun q => q))⟩, ⟨A558, C559, rfl, (SL.fl h561.r (fun q => q))⟩, trivial⟩ (fun q => q) 0) ?_; rintro v w564 a ⟨c563, A565, C566, rfl, E567, h568, B569⟩ F; replace B := B569 _ B (pl hm0)
              as_aux_lemma =>
              replace ER := ER.trans E567 nx; replace h429 := h429.ev E567; replace h461 := h461.ev E567; replace h507 := h507.ev E567; replace E := E.n E567; refine ⟨fun _ => ER.sb, ?_⟩; refine d_e ?_; replace H := ifN H; obtain ⟨g570, H⟩ := H; refine o_eff F rfl rfl rfl (by decide) (e_append (k := (Kslice (Kint .i64))) (xs := l430) (ys := [(rd ([t247, t257, t267, t277] ++ [t464, t474]) 4), (rd ([t247, t257, t267, t277] ++ [t464, t474]) 5)]) (c := c563) (j := (m + 9)) (i := 0) F et_41 rfl rfl h429 h568 g570 (len_ok g570) ne_zm) ?_; rintro v w572 a ⟨c571, A573, C574, rfl, E575, h576, B577⟩ F; replace B := B577 _ B lm; replace ER := ER.trans E575 (fun x q => by replace q : x = m + 9 := q; show x = m + 9; omega); replace h461 := h461.ev E575
              as_aux_lemma =>
              replace h507 := h507.ev E575; replace E := E.trans E575 lc1; refine ⟨fun _ => ER.sb, ?_⟩; refine da F ER.sb fun a F => ?_; refine d_nil ?_; exact J655 c571 w572 a A573 C574 (F.sub ⟨rfl, rfl, rfl, rfl, rfl, trivial⟩) E B h461 h507 h576 H
            replace H := ifN H; obtain ⟨g541, H⟩ := H; refine o_eff F rfl rfl rfl (by decide) (e_build0 (ee := 3) F (fun w => by kernel_rfl) c535 (m + 15)) ?_; rintro v w579 a ⟨c578, A580, rfl, E581, B582⟩ F; replace B := B582 _ B lm; replace ER := ER.trans E581 nx; replace h429 := h429.ev E581; replace h461 := h461.ev E581
            as_aux_lemma =>
            replace h507 := h507.ev E581; replace h521 := h521.ev E581; replace h532 := h532.ev E581; replace E := E.n E581; refine ⟨fun _ => ER.sb, ?_⟩; refine d_e ?_; refine o_eff F rfl rfl rfl (by decide) (e_append0 (e := (Kint .i64)) (vs := (rd ([t247, t257, t267, t277] ++ [t464, t474]) 4)) (c := c578) (j := 0) F et_22 rfl rfl h521 g541 (len_ok g541)) ?_; rintro v w585 a ⟨c584, A586, C587, rfl, E588, h589, B590⟩ F; replace B := B590 _ B (pl hm0); replace ER := ER.trans E588 nx; replace h429 := h429.ev E588; replace h461 := h461.ev E588; replace h507 := h507.ev E588; replace h532 := h532.ev E588
            as_aux_lemma =>
            replace E := E.n E588; refine ⟨fun _ => ER.sb, ?_⟩; refine d_e ?_; replace H := ifN H; obtain ⟨g555, H⟩ := H; refine o_eff F rfl rfl rfl (by decide) (e_append0 (e := (Kint .i64)) (vs := (rd ([t247, t257, t267, t277] ++ [t464, t474]) 5)) (c := c584) (j := 0) F et_22 rfl rfl h532 g555 (len_ok g555)) ?_; rintro v w592 a ⟨c591, A593, C594, rfl, E595, h596, B597⟩ F; replace B := B597 _ B (pl hm0); replace ER := ER.trans E595 nx; replace h429 := h429.ev E595; replace h461 := h461.ev E595; replace h507 := h507.ev E595; replace h589 := h589.ev E595; replace E := E.n E595
            as_aux_lemma =>
            refine ⟨fun _ => ER.sb, ?_⟩; refine d_e ?_; refine o_eff F rfl rfl rfl (by decide) (e_buildSlice (n := 2) (e := 22) (c := c591) (k := (Kslice (Kint .i64))) (i := 0) F [(0, .slice A586 (rd ([t247, t257, t267, t277] ++ [t464, t474]) 4).length C587), (1, .slice A593 (rd ([t247, t257, t267, t277] ++ [t464, t474]) 5).length C594)] [.slice A586 (rd ([t247, t257, t267, t277] ++ [t464, t474]) 4).length C587, .slice A593 (rd ([t247, t257, t267, t277] ++ [t464, t474]) 5).length C594] ([(rd ([t247, t257, t267, t277] ++ [t464, t474]) 4), (rd ([t247, t257, t267, t277] ++ [t464, t474]) 5)] : List (List Int)) (by exact ⟨rfl, rfl, rfl, rfl, trivial⟩) (fun w => by kernel_rfl) rfl (by decide) rfl ⟨⟨A586, C587, rfl, (SL.fl h589.r (fun q => q))⟩, ⟨A593, C594, rfl, (SL.fl h596.r (fun q => q))⟩, trivial⟩ (fun q => q) 0) ?_; rintro v w599 a ⟨c598, A600, C601, rfl, E602, h603, B604⟩ F; replace B := B604 _ B (pl hm0); replace ER := ER.trans E602 nx; replace h429 := h429.ev E602; replace h461 := h461.ev E602; replace h507 := h507.ev E602; replace E := E.n E602; refine ⟨fun _ => ER.sb, ?_⟩; refine d_e ?_; replace H := ifN H; obtain ⟨g570, H⟩ := H
            as_aux_lemma =>
            refine o_eff F rfl rfl rfl (by decide) (e_append (k := (Kslice (Kint .i64))) (xs := l430) (ys := [(rd ([t247, t257, t267, t277] ++ [t464, t474]) 4), (rd ([t247, t257, t267, t277] ++ [t464, t474]) 5)]) (c := c598) (j := (m + 9)) (i := 0) F et_41 rfl rfl h429 h603 g570 (len_ok g570) ne_zm) ?_; rintro v w606 a ⟨c605, A607, C608, rfl, E609, h610, B611⟩ F; replace B := B611 _ B lm; replace ER := ER.trans E609 (fun x q => by replace q : x = m + 9 := q; show x = m + 9; omega); replace h461 := h461.ev E609; replace h507 := h507.ev E609; replace E := E.trans E609 lc1; refine ⟨fun _ => ER.sb, ?_⟩; refine da F ER.sb fun a F => ?_; refine d_nil ?_; exact J655 c605 w606 a A607 C608 (F.sub ⟨rfl, rfl, rfl, rfl, rfl, trivial⟩) E B h461 h507 h610 H
          refine o_eff F rfl rfl rfl (by decide) (e_build0 (ee := 3) F (fun w => by kernel_rfl) c500 (m + 15)) ?_; rintro v w613 a ⟨c612, A614, rfl, E615, B616⟩ F; replace B := B616 _ B lm
          as_aux_lemma =>
          replace ER := ER.trans E615 nx; replace h429 := h429.ev E615; replace h461 := h461.ev E615; replace h507 := h507.ev E615; replace h521 := h521.ev E615; replace h532 := h532.ev E615; replace E := E.n E615; refine ⟨fun _ => ER.sb, ?_⟩; refine d_e ?_; refine o_eff F rfl rfl rfl (by decide) (e_build0 (ee := 3) F (fun w => by kernel_rfl) c612 (m + 14)) ?_; rintro v w619 a ⟨c618, A620, rfl, E621, B622⟩ F; replace B := B622 _ B lm; replace ER := ER.trans E621 nx; replace h429 := h429.ev E621
          as_aux_lemma =>
          replace h461 := h461.ev E621; replace h507 := h507.ev E621; replace h521 := h521.ev E621; replace h532 := h532.ev E621; replace E := E.n E621; refine ⟨fun _ => ER.sb, ?_⟩; refine d_e ?_; replace H := ifN H; obtain ⟨g541, H⟩ := H; refine o_eff F rfl rfl rfl (by decide) (e_append0 (e := (Kint .i64)) (vs := (rd ([t247, t257, t267, t277] ++ [t464, t474]) 4)) (c := c618) (j := 0) F et_22 rfl rfl h521 g541 (len_ok g541)) ?_; rintro v w625 a ⟨c624, A626, C627, rfl, E628, h629, B630⟩ F; replace B := B630 _ B (pl hm0); replace ER := ER.trans E628 nx; replace h429 := h429.ev E628
          as_aux_lemma =>
          replace h461 := h461.ev E628; replace h507 := h507.ev E628; replace h532 := h532.ev E628; replace E := E.n E628; refine ⟨fun _ => ER.sb, ?_⟩; refine d_e ?_; replace H := ifN H; obtain ⟨g555, H⟩ := H; refine o_eff F rfl rfl rfl (by decide) (e_append0 (e := (Kint .i64)) (vs := (rd ([t247, t257, t267, t277] ++ [t464, t474]) 5)) (c := c624) (j := 0) F et_22 rfl rfl h532 g555 (len_ok g555)) ?_; rintro v w632 a ⟨c631, A633, C634, rfl, E635, h636, B637⟩ F; replace B := B637 _ B (pl hm0); replace ER := ER.trans E635 nx; replace h429 := h429.ev E635; replace h461 := h461.ev E635
          as_aux_lemma =>
          replace h507 := h507.ev E635; replace h629 := h629.ev E635; replace E := E.n E635; refine ⟨fun _ => ER.sb, ?_⟩; refine d_e ?_; refine o_eff F rfl rfl rfl (by decide) (e_buildSlice (n := 2) (e := 22) (c := c631) (k := (Kslice (Kint .i64))) (i := 0) F [(0, .slice A626 (rd ([t247, t257, t267, t277] ++ [t464, t474]) 4).length C627), (1, .slice A633 (rd ([t247, t257, t267, t277] ++ [t464, t474]) 5).length C634)] [.slice A626 (rd ([t247, t257, t267, t277] ++ [t464, t474]) 4).length C627, .slice A633 (rd ([t247, t257, t267, t277] ++ [t464, t474]) 5).length C634] ([(rd ([t247, t257, t267, t277] ++ [t464, t474]) 4), (rd ([t247, t257, t267, t277] ++ [t464, t474]) 5)] : List (List Int)) (by exact ⟨rfl, rfl, rfl, rfl, trivial⟩) (fun w => by kernel_rfl) rfl (by decide) rfl ⟨⟨A626, C627, rfl, (SL.fl h629.r (fun q => q))⟩, ⟨A633, C634, rfl, (SL.fl h636.r (fun q => q))⟩, trivial⟩ (fun q => q) 0) ?_; rintro v w639 a ⟨c638, A640, C641, rfl, E642, h643, B644⟩ F; replace B := B644 _ B (pl hm0); replace ER := ER.trans E642 nx; replace h429 := h429.ev E642; replace h461 := h461.ev E642; replace h507 := h507.ev E642; replace E := E.n E642; refine ⟨fun _ => ER.sb, ?_⟩
          as_aux_lemma =>
          refine d_e ?_; replace H := ifN H; obtain ⟨g570, H⟩ := H; refine o_eff F rfl rfl rfl (by decide) (e_append (k := (Kslice (Kint .i64))) (xs := l430) (ys := [(rd ([t247, t257, t267, t277] ++ [t464, t474]) 4), (rd ([t247, t257, t267, t277] ++ [t464, t474]) 5)]) (c := c638) (j := (m + 9)) (i := 0) F et_41 rfl rfl h429 h643 g570 (len_ok g570) ne_zm) ?_; rintro v w646 a ⟨c645, A647, C648, rfl, E649, h650, B651⟩ F; replace B := B651 _ B lm; replace ER := ER.trans E649 (fun x q => by replace q : x = m + 9 := q; show x = m + 9; omega); replace h461 := h461.ev E649; replace h507 := h507.ev E649; replace E := E.trans E649 lc1; refine ⟨fun _ => ER.sb, ?_⟩; refine da F ER.sb fun a F => ?_; refine d_nil ?_; exact J655 c645 w646 a A647 C648 (F.sub ⟨rfl, rfl, rfl, rfl, rfl, trivial⟩) E B h461 h507 h650 H
        refine loop_fuel (I := fun n a w => ∃ (l366 : List (List Int)) (A367 : Option Addr) (C368 : Nat) (i370 : Int) (c : Nat → Nat), Fr a 297 [(3, .int .i64 a7), (4, .int .i64 a8), (11, .pointer p28), (14, .slice A302 [t247, t257, t267, t277].length C303), (15, .slice A367 l366.length C368), (16, .int .i64 i370)] ∧ Ev (fun x => False ∨ m ≤ x) c0 w0 c w ∧ CB (m + 19) c w ∧ RU (m + 1) c w p28 o242 ∧ SP (Kint .i64) (m + 7) (m + 6) c w A302 C303 [t247, t257, t267, t277] 0 ∧ SL true (Kslice (Kint .i64)) (m + 9) 0 c w A367 C368 l366 ∧ loop (fun (s_ : (List (List Int)) × Int) => haulagelaw23_RouteOwn.b5 t247 t257 t267 t277 s_.1 s_.2) n (l366, i370) = some x380) (k := k) ⟨[], none, 0, 0, c300, F.sub ⟨rfl, rfl, rfl, rfl, rfl, rfl, trivial⟩, E, B, h241, h305, SL.nil, HL⟩ ?_; clear HL H E F B; intro n377 X373 hX373 a w372 ⟨l366, A367, C368, i370, c371, F, E, B, h241, h305, h369, HL⟩; obtain ⟨n378, ctl376, rfl, HB, HN374, HD375⟩ := loop_some HL; have H : haulagelaw23_RouteOwn.b5 t247 t257 t267 t277 l366 i370 = some ctl376 := HB; clear HB HL; unfold haulagelaw23_RouteOwn.b5 at H
        as_aux_lemma =>
        refine sq fun K381 hK381 => ?_; refine sr fun K382 hK382 => qm F fun a F => ?_; refine qv F (r_lss F rfl rfl) fun a F => ?_; refine nil (hK382 _ _ ?_)
        by_cases hb383 : i370 < 4
        · replace H := ip hb383 H; refine wct (fb F (dt hb383)) (wp_skip (hK381 _ _ ?_)); refine sq fun K384 hK384 => ?_; refine wp_block ?_; refine reg ?_; refine qm F fun a F => ?_; refine q_eff F rfl rfl (by decide) (e_build0 (ee := 3) F (fun w => by kernel_rfl) c371 (m + 8)) ?_; rintro v w386 a ⟨c385, A387, rfl, E388, B389⟩ F; replace B := B389 _ B lm; replace h241 := h241.ev E388
          as_aux_lemma =>
          replace h305 := h305.ev E388; replace h369 := h369.ev E388; replace E := E.n E388; refine qm F fun a F => qm F fun a F => ?_; have h391 : SL false (Kslice (Kint .i64)) (m + 7) (m + 6) c385 w386 A302 C303 [t247, t257, t267, t277] := SP.view h305 (fun q_ => q_); replace H := ifN H; obtain ⟨g392, H⟩ := H; obtain ⟨ad393, cs394, e395, h396, r397⟩ := SL.at h391 i370 g392.1 g392.2; obtain ⟨A398, C399, rfl, h400⟩ := r397; replace h400 := SL.fl (i' := 0) h400 (fun q => q); obtain ⟨qa401, qqa401⟩ : ∃ q, q = (ad393.add (i370.toNat * 1)) := ⟨_, rfl⟩; have h396 : AT false (m + 7) c385 w386 qa401 [.slice A398 (rd [t247, t257, t267, t277] i370).length C399] := by rw [qqa401]; exact h396
          refine qv F (r_indexAddr' F Try.underlying41 sz_22 rfl rfl g392.1 g392.2 e395 qqa401) fun a F => ?_; refine qv F (r_load F rfl ag_22 (AT.cell0 h396 rfl)) fun a F => ?_
          as_aux_lemma =>
          replace H := ifN H; obtain ⟨g343, H⟩ := H; refine q_eff F rfl rfl (by decide) (e_append0 (e := (Kint .i64)) (vs := (rd [t247, t257, t267, t277] i370)) (c := c385) (j := 0) F et_22 rfl rfl h400 g343 (len_ok g343)) ?_; rintro v w404 a ⟨c403, A405, C406, rfl, E407, h408, B409⟩ F; replace B := B409 _ B (pl hm0); replace h241 := h241.ev E407; replace h305 := h305.ev E407; replace h369 := h369.ev E407; replace E := E.n E407; refine q_eff F rfl rfl (by decide) (e_buildSlice (n := 1) (e := 22) (c := c403) (k := (Kslice (Kint .i64))) (i := 0) F [(0, .slice A405 (rd [t247, t257, t267, t277] i370).length C406)] [.slice A405 (rd [t247, t257, t267, t277] i370).length C406] ([(rd [t247, t257, t267, t277] i370)] : List (List Int)) (by exact ⟨rfl, rfl, trivial⟩) (fun w => by kernel_rfl) rfl (by decide) rfl ⟨⟨A405, C406, rfl, (SL.fl h408.r (fun q => q))⟩, trivial⟩ (fun q => q) 0) ?_; rintro v w411 a ⟨c410, A412, C413, rfl, E414, h415, B416⟩ F; replace B := B416 _ B (pl hm0); replace h241 := h241.ev E414; replace h305 := h305.ev E414
          as_aux_lemma =>
          replace h369 := h369.ev E414; replace E := E.n E414; replace H := ifN H; obtain ⟨g358, H⟩ := H; refine q_eff F rfl rfl (by decide) (e_append (k := (Kslice (Kint .i64))) (xs := l366) (ys := [(rd [t247, t257, t267, t277] i370)]) (c := c410) (j := (m + 9)) (i := 0) F et_41 rfl rfl h369 h415 g358 (len_ok g358) ne_zm) ?_; rintro v w418 a ⟨c417, A419, C420, rfl, E421, h422, B423⟩ F; replace B := B423 _ B lm; replace h241 := h241.ev E421; replace h305 := h305.ev E421; replace E := E.trans E421 lc1; refine qa F fun a F => nil (hK384 _ _ ?_); replace F : Fr a 297 [(3, .int .i64 a7), (4, .int .i64 a8), (11, .pointer p28), (14, .slice A302 [t247, t257, t267, t277].length C303), (15, .slice A419 (l366 ++ [(rd [t247, t257, t267, t277] i370)]).length C420), (16, .int .i64 i370)] := F.sub ⟨rfl, rfl, rfl, rfl, rfl, rfl, trivial⟩; refine reg ?_; refine qm F fun a F => ?_
          as_aux_lemma =>
          refine qv F (r_add F rfl rfl) fun a F => ?_; refine qa F fun a F => nil ?_; replace H := HN374 _ (si H).symm; exact hX373 _ _ _ (Nat.lt_succ_self _) ⟨(l366 ++ [(rd [t247, t257, t267, t277] i370)]), A419, C420, (IntKind.i64.wrap (i370 + 1)), c417, F.sub ⟨rfl, rfl, rfl, rfl, rfl, rfl, trivial⟩, E, B, h241, h305, h422, H⟩
        replace H := im hb383 H; refine wcf (fb F (dz hb383)) ?_; refine wp_exit ?_; refine thenE ?_; refine thenE ?_; refine inbE ?_; have hx_ := HD375 _ (si H).symm; have H := HR379; rw [← hx_] at H; exact J433 c371 w372 a l366 A367 C368 (F.sub ⟨rfl, rfl, rfl, rfl, rfl, trivial⟩) E B h241 h305 h369 H
      refine loop_fuel (I := fun n a w => ∃ (o143 : Option Rou) (i144 : Int) (c : Nat → Nat), Fr a 297 [(2, .slice A4 a3.length C5), (3, .int .i64 a7), (4, .int .i64 a8), (11, .pointer p28), (13, .int .i64 i144)] ∧ Ev (fun x => False ∨ m ≤ x) c0 w0 c w ∧ CB (m + 19) c w ∧ SL false K_haulagelaw23_Op 0 0 c w A4 C5 a3 ∧ RU (m + 1) c w p28 o143 ∧ loop (fun (s_ : (Option Rou) × Int) => haulagelaw23_RouteOwn.b3 a3 s_.1 s_.2) n (o143, i144) = some x154) (k := k) ⟨t22.1, 0, c35, F.sub ⟨rfl, rfl, rfl, rfl, rfl, trivial⟩, E, B, h6, h29, HL⟩ ?_; clear HL H E F B; intro n151 X147 hX147 a w146 ⟨o143, i144, c145, F, E, B, h6, h142, HL⟩; obtain ⟨n152, ctl150, rfl, HB, HN148, HD149⟩ := loop_some HL; have H : haulagelaw23_RouteOwn.b3 a3 o143 i144 = some ctl150 := HB; clear HB HL; unfold haulagelaw23_RouteOwn.b3 at H
      as_aux_lemma =>
      refine sq fun K155 hK155 => ?_; refine sr fun K156 hK156 => qm F fun a F => qm F fun a F => ?_; refine qv F (r_lensl F Try.underlying38 rfl) fun a F => ?_; refine qv F (r_lss F rfl rfl) fun a F => ?_; refine nil (hK156 _ _ ?_)
      by_cases hb157 : i144 < (a3.length : Int)
      · replace H := ip hb157 H; refine wct (fb F (dt hb157)) (wp_skip (hK155 _ _ ?_)); refine sq fun K158 hK158 => ?_; refine wp_block ?_; refine sq fun K159 hK159 => ?_; have J173 : ∀ (c174 : Nat → Nat) (w175 : World) (a : Act) (b172 : Bool), Fr a 297 [(2, .slice A4 a3.length C5), (3, .int .i64 a7), (4, .int .i64 a8), (11, .pointer p28), (13, .int .i64 i144), (56, .bool b172)] → Ev (fun x => False ∨ m ≤ x) c0 w0 c174 w175 → CB (m + 19) c174 w175 → SL false K_haulagelaw23_Op 0 0 c174 w175 A4 C5 a3 → RU (m + 1) c174 w175 p28 o143 → haulagelaw23_RouteOwn.j2 a3 o143 i144 b172 = some ctl150 → K159 a w175 := by
          intro c174 w175 a b172 F E B h6 h142 H; unfold haulagelaw23_RouteOwn.j2 at H; refine hK159 _ _ ?_
          by_cases hb176 : b172 = true
          · replace H := ip hb176 H
            as_aux_lemma =>
            refine wct (fb F hb176) ?_; refine regD (SB (fun x => x = m + 1) c174 w175) 12 (.q 0 (.q 1 (.q 2 (.q 3 (.q 4 (.q 5 (.q 6 (.q 7 (.q 8 (.q 9 (.q 10 (.e 11 .nil)))))))))))) Try_hm (by decide +kernel) ?_; intro w177 w1_ w2_ w3_ w4_; have E178 : Ev No c174 w175 c174 w177 := Ev.same w1_ w2_ w3_ w4_; replace B := B.same w1_; have zh6 := h6; have ER : Ev (fun x => x = m + 1) c174 w175 c174 w177 := Ev.same w1_ w2_ w3_ w4_; replace h6 := h6.ev E178; replace h142 := h142.ev E178; replace E := E.n E178; refine dm F ER.sb fun a F => ?_; refine dm F ER.sb fun a F => ?_; refine dm F ER.sb fun a F => ?_; replace H := ifN H; obtain ⟨g179, H⟩ := H; obtain ⟨ad180, cs181, e182, h183, r184⟩ := SL.at zh6 i144 g179.1 g179.2; obtain ⟨A185, C186, rfl, h187⟩ := r184; obtain ⟨qa188, qqa188⟩ : ∃ q, q = (ad180.add (i144.toNat * 5)) := ⟨_, rfl⟩; have h183 : AT false 0 c174 w175 qa188 [.int .i64 ((rd a3 i144).Who), .int .i64 ((rd a3 i144).Kind), .int .i64 ((rd a3 i144).Shard), .int .i64 ((rd a3 i144).Server), .slice A185 ((rd a3 i144).Key).length C186] := by rw [qqa188]; exact h183
            have zh183 := h183
            as_aux_lemma =>
            refine dq F (fun wq hS => r_indexAddr' F Try.underlying38 sz_40 rfl rfl g179.1 g179.2 e182 qqa188) ER.sb fun a F => ?_; refine df F ff_40_2 ER.sb fun a F => ?_; refine dq F (fun wq hS => r_load F rfl ag_3 (AT.cell (AT.sb zh183 hS ne_zm) rfl)) ER.sb fun a F => ?_; refine dm F ER.sb fun a F => ?_; refine dm F ER.sb fun a F => ?_; replace H := ifN H; obtain ⟨g190, H⟩ := H; obtain ⟨ad191, cs192, e193, h194, r195⟩ := SL.at zh6 i144 g190.1 g190.2; obtain ⟨A196, C197, rfl, h198⟩ := r195; obtain ⟨qa199, qqa199⟩ : ∃ q, q = (ad191.add (i144.toNat * 5)) := ⟨_, rfl⟩; have h194 : AT false 0 c174 w175 qa199 [.int .i64 ((rd a3 i144).Who), .int .i64 ((rd a3 i144).Kind), .int .i64 ((rd a3 i144).Shard), .int .i64 ((rd a3 i144).Server), .slice A196 ((rd a3 i144).Key).length C197] := by rw [qqa199]; exact h194
            have zh194 := h194; refine dq F (fun wq hS => r_indexAddr' F Try.underlying38 sz_40 rfl rfl g190.1 g190.2 e193 qqa199) ER.sb fun a F => ?_; refine df F ff_40_3 ER.sb fun a F => ?_
            as_aux_lemma =>
            refine dq F (fun wq hS => r_load F rfl ag_3 (AT.cell (AT.sb zh194 hS ne_zm) rfl)) ER.sb fun a F => ?_; refine d_e ?_; obtain ⟨t101, q102, H⟩ := bind_some H; refine oc F Try.func12 (route_Route_Fine.calls (m := m + 19) (pl hm0) B h142 (by omega) _ q102) ?_; rintro e w202 ⟨c201, rfl, E203, B, h205⟩; refine rt fun a F => ?_; replace ER := ER.trans E203 (fun x q => by replace q : x = m + 1 := q; show x = m + 1; omega); replace h6 := h6.ev E203; replace E := E.trans E203 lc1; refine ⟨fun _ => ER.sb, ?_⟩; refine d_nil ?_; refine hK158 _ _ ?_; replace F : Fr a 297 [(2, .slice A4 a3.length C5), (3, .int .i64 a7), (4, .int .i64 a8), (11, .pointer p28), (13, .int .i64 i144)] := F.sub ⟨rfl, rfl, rfl, rfl, rfl, trivial⟩; refine reg ?_
            as_aux_lemma =>
            refine qm F fun a F => ?_; refine qv F (r_add F rfl rfl) fun a F => ?_; refine qa F fun a F => nil ?_; replace H := HN148 _ (si H).symm; exact hX147 _ _ _ (Nat.lt_succ_self _) ⟨t101.2, (IntKind.i64.wrap (i144 + 1)), c201, F.sub ⟨rfl, rfl, rfl, rfl, rfl, trivial⟩, E, B, h6, h205, H⟩
          replace H := im hb176 H; refine wcf (fb F (bfalse hb176)) ?_; refine regD (SB (fun x => x = m + 1) c174 w175) 12 (.q 0 (.q 1 (.q 2 (.q 3 (.q 4 (.q 5 (.q 6 (.q 7 (.q 8 (.q 9 (.q 10 (.e 11 .nil)))))))))))) Try_hm (by decide +kernel) ?_; intro w207 w1_ w2_ w3_ w4_; have E208 : Ev No c174 w175 c174 w207 := Ev.same w1_ w2_ w3_ w4_; replace B := B.same w1_; have zh6 := h6; have ER : Ev (fun x => x = m + 1) c174 w175 c174 w207 := Ev.same w1_ w2_ w3_ w4_; replace h6 := h6.ev E208
          as_aux_lemma =>
          replace h142 := h142.ev E208; replace E := E.n E208; refine dm F ER.sb fun a F => ?_; refine dm F ER.sb fun a F => ?_; refine dm F ER.sb fun a F => ?_; replace H := ifN H; obtain ⟨g209, H⟩ := H; obtain ⟨ad210, cs211, e212, h213, r214⟩ := SL.at zh6 i144 g209.1 g209.2; obtain ⟨A215, C216, rfl, h217⟩ := r214; obtain ⟨qa218, qqa218⟩ : ∃ q, q = (ad210.add (i144.toNat * 5)) := ⟨_, rfl⟩; have h213 : AT false 0 c174 w175 qa218 [.int .i64 ((rd a3 i144).Who), .int .i64 ((rd a3 i144).Kind), .int .i64 ((rd a3 i144).Shard), .int .i64 ((rd a3 i144).Server), .slice A215 ((rd a3 i144).Key).length C216] := by rw [qqa218]; exact h213
          have zh213 := h213; refine dq F (fun wq hS => r_indexAddr' F Try.underlying38 sz_40 rfl rfl g209.1 g209.2 e212 qqa218) ER.sb fun a F => ?_; refine df F ff_40_2 ER.sb fun a F => ?_
          as_aux_lemma =>
          refine dq F (fun wq hS => r_load F rfl ag_3 (AT.cell (AT.sb zh213 hS ne_zm) rfl)) ER.sb fun a F => ?_; refine dm F ER.sb fun a F => ?_; refine dm F ER.sb fun a F => ?_; replace H := ifN H; obtain ⟨g220, H⟩ := H; obtain ⟨ad221, cs222, e223, h224, r225⟩ := SL.at zh6 i144 g220.1 g220.2; obtain ⟨A226, C227, rfl, h228⟩ := r225; obtain ⟨qa229, qqa229⟩ : ∃ q, q = (ad221.add (i144.toNat * 5)) := ⟨_, rfl⟩; have h224 : AT false 0 c174 w175 qa229 [.int .i64 ((rd a3 i144).Who), .int .i64 ((rd a3 i144).Kind), .int .i64 ((rd a3 i144).Shard), .int .i64 ((rd a3 i144).Server), .slice A226 ((rd a3 i144).Key).length C227] := by rw [qqa229]; exact h224
          have zh224 := h224; refine dq F (fun wq hS => r_indexAddr' F Try.underlying38 sz_40 rfl rfl g220.1 g220.2 e223 qqa229) ER.sb fun a F => ?_; refine df F ff_40_3 ER.sb fun a F => ?_; refine dq F (fun wq hS => r_load F rfl ag_3 (AT.cell (AT.sb zh224 hS ne_zm) rfl)) ER.sb fun a F => ?_; refine d_e ?_; obtain ⟨t133, q134, H⟩ := bind_some H
          as_aux_lemma =>
          refine oc F Try.func13 (route_Route_Hint.calls (m := m + 19) (pl hm0) B h142 (by omega) _ q134) ?_; rintro e w232 ⟨c231, rfl, E233, B, h235⟩; refine rt fun a F => ?_; replace ER := ER.trans E233 (fun x q => by replace q : x = m + 1 := q; show x = m + 1; omega); replace h6 := h6.ev E233; replace E := E.trans E233 lc1; refine ⟨fun _ => ER.sb, ?_⟩; refine d_nil ?_; refine hK158 _ _ ?_; replace F : Fr a 297 [(2, .slice A4 a3.length C5), (3, .int .i64 a7), (4, .int .i64 a8), (11, .pointer p28), (13, .int .i64 i144)] := F.sub ⟨rfl, rfl, rfl, rfl, rfl, trivial⟩; refine reg ?_; refine qm F fun a F => ?_; refine qv F (r_add F rfl rfl) fun a F => ?_; refine qa F fun a F => nil ?_
          as_aux_lemma =>
          replace H := HN148 _ (si H).symm; exact hX147 _ _ _ (Nat.lt_succ_self _) ⟨t133.2, (IntKind.i64.wrap (i144 + 1)), c231, F.sub ⟨rfl, rfl, rfl, rfl, rfl, trivial⟩, E, B, h6, h235, H⟩
        refine reg ?_; refine qm F fun a F => qm F fun a F => ?_; replace H := ifN H; obtain ⟨g160, H⟩ := H; obtain ⟨ad161, cs162, e163, h164, r165⟩ := SL.at h6 i144 g160.1 g160.2; obtain ⟨A166, C167, rfl, h168⟩ := r165; obtain ⟨qa169, qqa169⟩ : ∃ q, q = (ad161.add (i144.toNat * 5)) := ⟨_, rfl⟩; have h164 : AT false 0 c145 w146 qa169 [.int .i64 ((rd a3 i144).Who), .int .i64 ((rd a3 i144).Kind), .int .i64 ((rd a3 i144).Shard), .int .i64 ((rd a3 i144).Server), .slice A166 ((rd a3 i144).Key).length C167] := by rw [qqa169]; exact h164
        refine qv F (r_indexAddr' F Try.underlying38 sz_40 rfl rfl g160.1 g160.2 e163 qqa169) fun a F => ?_; refine qf F ff_40_1 fun a F => ?_; refine ql F ag_3 h164 fun a F => ?_; refine qv F (r_eql F rfl rfl) fun a F => ?_
        as_aux_lemma =>
        refine qm F fun a F => ?_
        by_cases hb171 : ((rd a3 i144).Kind) = 0
        · replace H := ip hb171 H; refine qy F (dt hb171) ?_; refine qm F fun a F => ?_; refine qy F (dt hb171) ?_; refine qv F (r_lss F rfl rfl) fun a F => ?_; refine qv F (r_pick_t F rfl (dt hb171) rfl) fun a F => ?_; refine nil ?_; exact J173 c145 w146 a (decide (i144 < 3)) (F.sub ⟨rfl, rfl, rfl, rfl, rfl, rfl, trivial⟩) E B h6 h142 H
        replace H := im hb171 H; refine qn F (dz hb171) fun a F => qn F (dz hb171) fun a F => ?_; refine qv F (r_pick_f F rfl (dz hb171) rfl) fun a F => ?_; refine nil ?_; exact J173 c145 w146 a false (F.sub ⟨rfl, rfl, rfl, rfl, rfl, rfl, trivial⟩) E B h6 h142 H
      as_aux_lemma =>
      replace H := im hb157 H; refine wcf (fb F (dz hb157)) ?_; refine wp_exit ?_; refine thenE ?_; refine thenE ?_; refine inbE ?_; have hx_ := HD149 _ (si H).symm; have H := HR153; rw [← hx_] at H; exact J243 c145 w146 a o143 (F.sub ⟨rfl, rfl, rfl, trivial⟩) E B h142 H
    replace H := im hb40 H; refine wct (fb F (congrArg not (dz hb40))) ?_; refine sr fun K41 hK41 => qm F fun a F => ?_; refine qv F (r_peqlA F Try.underlying24 rfl rfl (RU.isNone h29)) fun a F => ?_
    as_aux_lemma =>
    refine qa F fun a F => nil (hK41 _ _ ?_); replace F : Fr a 297 [(10, .bool (Option.isNone t22.1))] := F.sub ⟨rfl, trivial⟩; refine wp_ret ?_; refine thenR ?_; obtain rfl := si H; refine out1 F rfl rfl ?_; exact ⟨cf (ct m) c35, rfl, E.lv B0, cfb⟩
  replace H := im hb19 H; refine wct (fb F (congrArg not (bfalse hb19))) ?_; refine sr fun K20 hK20 => qa F fun a F => nil (hK20 _ _ ?_); refine wp_ret ?_; refine thenR ?_; obtain rfl := si H; refine out1 F rfl rfl ?_; exact ⟨cf (ct m) c14, rfl, E.lv B0, cfb⟩
end Go.Proofs.Ytohljkjaggcapaa.G
/-! The plain law of RouteHomes. -/
namespace Go.Proofs.Ytohljkjaggcapaa.G
open Go Go.Proofs.Ytohljkjaggcapaa.RT Go.Proofs.Ytohljkjaggcapaa.JQ Go.Proofs.Ytohljkjaggcapaa.JF
set_option linter.unusedVariables false
set_option linter.unusedSimpArgs false
/-! ### loops, numbers -/
theorem bind_eq {α β : Type} {x : Option α} {f : α → Option β} {a : α} (h : x = some a) : x.bind f = f a := by rw [h]; rfl
theorem loop_next {S X : Type} {f : S → Option (Ctl S X)} {n : Nat} {s s' : S} (h : f s = some (.next s')) : loop f (n + 1) s = loop f n s' := by
  show (f s).bind _ = _; rw [h]; rfl
theorem loop_done {S X : Type} {f : S → Option (Ctl S X)} {n : Nat} {s : S} {x : X} (h : f s = some (.done x)) : loop f (n + 1) s = some x := by
  show (f s).bind _ = _; rw [h]; rfl
theorem loop_inv {S X : Type} {f : S → Option (Ctl S X)} {I : Nat → S → Prop} {P : X → Prop} {N : Nat}
    (step : ∀ i s, i < N → I i s → (∃ s', f s = some (.next s') ∧ I (i + 1) s') ∨ (∃ x, f s = some (.done x) ∧ P x))
    (last : ∀ s, I N s → ∃ x, f s = some (.done x) ∧ P x) : ∀ (n i : Nat) (s : S) (m : Nat), I i s → i + n = N → n < m → ∃ x, loop f m s = some x ∧ P x
  | _, _, _, 0, _, _, h => absurd h (by omega)
  | 0, i, s, m + 1, hI, hN, _ => by
    obtain rfl : i = N := by omega
    obtain ⟨x, h1, h2⟩ := last s hI
    exact ⟨x, loop_done h1, h2⟩
  | n + 1, i, s, m + 1, hI, hN, hm => by
    rcases step i s (by omega) hI with ⟨s', h1, h2⟩ | ⟨x, h1, h2⟩
    · rw [loop_next h1]
      exact loop_inv step last n (i + 1) s' m h2 (by omega) (by omega)
    · exact ⟨x, loop_done h1, h2⟩
theorem wr {n : Int} (h0 : -1000000000000000000 ≤ n) (h1 : n ≤ 1000000000000000000) : IntKind.i64.wrap n = n := by rw [IntKind.wrap_i64]; omega
theorem wrS (i : Nat) (h : i < 1000000000000000) : IntKind.i64.wrap ((i : Int) + 1) = ((i + 1 : Nat) : Int) := by rw [wr (by omega) (by omega)]; omega
theorem rd_eq {α : Type} [Inhabited α] {xs : List α} {i : Nat} (h : i < xs.length) : rd xs (i : Int) = xs[i] := by
  unfold rd
  rw [Int.toNat_natCast, List.getD_eq_getElem?_getD, List.getElem?_eq_getElem h]
  rfl
def Fuel (k : Nat) : Prop := 1099511627776 ≤ k
theorem num_eq (a : Int) : haulagelaw23_num.f a = some a := rfl
theorem ints_loop (a b : List Int) (hl : a.length = b.length) : ∀ (n i m : Nat), i + n = a.length → n < m → a.length < 4000000000 →
    loop (fun (s_ : Int) => haulagelaw23_ints.b1 a b s_) m (i : Int) = some (if a.drop i = b.drop i then Sum.inl () else Sum.inr false)
  | _, _, 0, _, h, _ => absurd h (by omega)
  | 0, i, m + 1, h, _, _ => by
    refine loop_done ?_
    unfold haulagelaw23_ints.b1
    rw [if_neg (by omega), if_pos]
    rw [List.drop_of_length_le (by omega), List.drop_of_length_le (by omega)]
  | n + 1, i, m + 1, h, hm, hb => by
    have hi : i < a.length := by omega
    have hj : i < b.length := by omega
    rw [List.drop_eq_getElem_cons hi, List.drop_eq_getElem_cons hj]
    by_cases c : a[i] = b[i]
    · rw [loop_next (s' := ((i + 1 : Nat) : Int)), ints_loop a b hl n (i + 1) m (by omega) (by omega) hb]
      · simp only [c, List.cons.injEq, true_and]
      · unfold haulagelaw23_ints.b1
        rw [if_pos (by omega), if_pos (by omega), if_pos (by omega), rd_eq hi, rd_eq hj, if_pos c, wrS i (by omega)]
    · rw [if_neg (by simp only [List.cons.injEq, c, false_and, not_false_eq_true])]
      refine loop_done ?_
      unfold haulagelaw23_ints.b1
      rw [if_pos (by omega), if_pos (by omega), if_pos (by omega), rd_eq hi, rd_eq hj, if_neg c]
theorem ints_eq {k : Nat} (hk : Fuel k) (a b : List Int) (h : a.length < 4000000000 ∨ b.length < 4000000000) : haulagelaw23_ints.f k a b = some (decide (a = b)) := by
  have h24 : 1099511627776 ≤ k := hk
  unfold haulagelaw23_ints.f
  by_cases c : a.length = b.length
  · rw [if_pos (by omega), show (0 : Int) = ((0 : Nat) : Int) from rfl, bind_eq (ints_loop a b c a.length 0 k (by omega) (by omega) (by omega))]
    simp only [List.drop_zero]
    by_cases e : a = b
    · simp [e, haulagelaw23_ints.j2]
    · simp [e]
  · rw [if_neg (by omega), decide_eq_false (fun e => c (by rw [e]))]
/-! ### routes -/
theorem new_eq {a c : Int} (a0 : 1 ≤ a) (a1 : a ≤ 8) (c0 : 1 ≤ c) (c1 : c ≤ 64) : route_New.f a c = some (some ⟨RS.new a c, 0⟩, 0) := by
  unfold route_New.f; rw [if_neg (by omega)]
theorem new_no {a c : Int} (h : a < 1 ∨ 8 < a ∨ c < 1 ∨ 64 < c) : route_New.f a c = some (none, 2) := by
  unfold route_New.f; rw [if_pos h]
theorem where_eq (r : Rou) (s : Int) : route_Route_Where.f (some r) s = some (r.s.where_ s) := rfl
theorem shard_eq (r : Rou) (l : List Int) : route_Route_Shard.f (some r) l = some (jumpV (fnvV [l]) r.s.shards) := rfl
theorem fine_eq {r : Rou} {s v : Int} (h : r.s.is s v = true) (hn : r.n < 4611686018427387904) : route_Route_Fine.f (some r) s v = some (true, some ⟨r.s.fine s v, r.n + 1⟩) := by
  dsimp only [route_Route_Fine.f]; rw [if_pos h, if_pos hn]
theorem hint_eq {r : Rou} {s v : Int} (h : r.s.is s v = true) (hv : r.s.where_ s ≠ v) (hn : r.n < 4611686018427387904) : route_Route_Hint.f (some r) s v = some (true, some ⟨r.s.hint s v, r.n + 1⟩) := by
  dsimp only [route_Route_Hint.f]; rw [if_pos h, if_neg hv, if_pos hn]
theorem hint_eq_same {r : Rou} {s v : Int} (h : r.s.is s v = true) (hv : r.s.where_ s = v) : route_Route_Hint.f (some r) s v = some (false, some ⟨r.s.hints1, r.n⟩) := by
  dsimp only [route_Route_Hint.f]; rw [if_pos h, if_pos hv]
theorem known_true {k : Nat} (hk : Fuel k) : haulagelaw23_known.f k = some true := by
  unfold haulagelaw23_known.f
  rw [bind_eq (new_eq (by omega) (by omega) (by omega) (by omega)), bind_eq (num_eq _), if_pos rfl]
  unfold haulagelaw23_known.j1
  rw [if_neg (by simp), bind_eq (fine_eq k1_is (by decide))]
  refine Eq.trans (bind_eq (hint_eq_same (r := ⟨K1, 0 + 1⟩) k2_is k2_at)) ?_
  refine Eq.trans (bind_eq (hint_eq (r := ⟨K1.hints1, 0 + 1⟩) k3_is k3_at (by decide))) ?_
  rw [if_pos rfl, if_neg (by simp), if_pos rfl]
  refine Eq.trans (bind_eq (where_eq _ _)) ?_
  refine Eq.trans (if_pos k4_at) ?_
  have et : route_Route_Trail.f (some ⟨K1.hints1.hint 0 1, 0 + 1 + 1⟩) 0 = some [2] := by
    dsimp only [route_Route_Trail.f]
    rw [if_pos (by omega)]
    exact congrArg some k4_tr
  refine Eq.trans (bind_eq et) ?_
  rw [bind_eq (ints_eq hk _ _ (by simp))]
  rfl
theorem where_new {a c i : Int} (a0 : 1 ≤ a) (i0 : 0 ≤ i) (i1 : i < c) : (RS.new a c).where_ i = homeV i a := by
  unfold RS.where_
  rw [if_pos (by unfold RS.is RS.new; simp; omega)]
  rfl
theorem home_more (i : Int) {a : Int} (a0 : 1 ≤ a) (a1 : a ≤ 8) : homeV i (a + 1) = homeV i a ∨ homeV i (a + 1) = a := jumpV_more _ a0 (by omega)
section
variable {k : Nat} {a1 a2 : Int} {a3 : List (List Int)}
theorem homes_loop1 (hk : Fuel k) (s0 : 1 ≤ a1) (s1 : a1 ≤ 8) (h0 : 1 ≤ a2) (h1 : a2 ≤ 64) (t : Option Rou × Int) (ht : t = if a1 < 8 then (some ⟨RS.new (a1 + 1) a2, 0⟩, 0) else (none, 2)) :
    loop (fun (s_ : Int) => haulagelaw23_RouteHomes.b3 a1 a2 (some ⟨RS.new a1 a2, 0⟩, 0) t s_) k 0 = some (.inl ()) := by
  have h24 : 1099511627776 ≤ k := hk
  by_cases c : a1 < 8
  · rw [if_pos c] at ht; subst ht
    obtain ⟨x, hx, rfl⟩ := loop_inv (f := fun (s_ : Int) => haulagelaw23_RouteHomes.b3 a1 a2 (some ⟨RS.new a1 a2, 0⟩, 0) (some ⟨RS.new (a1 + 1) a2, 0⟩, 0) s_) (I := fun i s => s = (i : Int)) (P := fun x => x = .inl ()) (N := a2.toNat) (by
      rintro i s hi rfl
      refine .inl ⟨((i + 1 : Nat) : Int), ?_, rfl⟩
      unfold haulagelaw23_RouteHomes.b3
      rw [if_pos (by omega), bind_eq (num_eq _)]
      unfold haulagelaw23_RouteHomes.j1
      rw [if_pos (by simp), bind_eq (where_eq _ _), bind_eq (where_eq _ _)]
      simp only
      rw [where_new (by omega) (by omega) (by omega), where_new (by omega) (by omega) (by omega)]
      have fin : haulagelaw23_RouteHomes.j2 (i : Int) false = some (.next ((i + 1 : Nat) : Int)) := by
        unfold haulagelaw23_RouteHomes.j2; rw [if_neg (by simp), wrS i (by omega)]
      rcases home_more (i : Int) s0 s1 with e | e
      · rw [if_pos e]; exact fin
      · by_cases q : homeV i (a1 + 1) = homeV i a1
        · rw [if_pos q]; exact fin
        · rw [if_neg q, bind_eq (where_eq _ _)]
          simp only
          rw [where_new (by omega) (by omega) (by omega), e]
          simpa using fin) (by
      rintro s rfl
      refine ⟨_, ?_, rfl⟩
      unfold haulagelaw23_RouteHomes.b3 haulagelaw23_RouteHomes.j1
      rw [if_neg (by omega), if_neg (by simp)]) a2.toNat 0 ((0 : Nat) : Int) k rfl (by omega) (by omega)
    exact hx
  · rw [if_neg c] at ht; subst ht
    obtain ⟨k, rfl⟩ : ∃ k', k = k' + 1 := ⟨k - 1, by omega⟩
    refine loop_done ?_
    unfold haulagelaw23_RouteHomes.b3 haulagelaw23_RouteHomes.j1
    rw [if_pos (by omega), bind_eq (num_eq _), if_neg (by simp)]
theorem homes_loop2 (hk : Fuel k) (s0 : 1 ≤ a1) (s1 : a1 ≤ 8) (h0 : 1 ≤ a2) (h1 : a2 ≤ 64) (t : Option Rou × Int) (ht : t = if a2 < 64 then (some ⟨RS.new a1 (a2 + 1), 0⟩, 0) else (none, 2)) :
    loop (fun (s_ : Int) => haulagelaw23_RouteHomes.b6 a2 (some ⟨RS.new a1 a2, 0⟩, 0) t s_) k 0 = some (.inl ()) := by
  have h24 : 1099511627776 ≤ k := hk
  by_cases c : a2 < 64
  · rw [if_pos c] at ht; subst ht
    obtain ⟨x, hx, rfl⟩ := loop_inv (f := fun (s_ : Int) => haulagelaw23_RouteHomes.b6 a2 (some ⟨RS.new a1 a2, 0⟩, 0) (some ⟨RS.new a1 (a2 + 1), 0⟩, 0) s_) (I := fun i s => s = (i : Int)) (P := fun x => x = .inl ()) (N := a2.toNat) (by
      rintro i s hi rfl
      refine .inl ⟨((i + 1 : Nat) : Int), ?_, rfl⟩
      unfold haulagelaw23_RouteHomes.b6
      rw [if_pos (by omega), bind_eq (num_eq _)]
      unfold haulagelaw23_RouteHomes.j5
      rw [if_pos (by simp), bind_eq (where_eq _ _), bind_eq (where_eq _ _)]
      simp only
      rw [where_new (by omega) (by omega) (by omega), where_new (by omega) (by omega) (by omega), if_pos rfl, wrS i (by omega)]) (by
      rintro s rfl
      refine ⟨_, ?_, rfl⟩
      unfold haulagelaw23_RouteHomes.b6 haulagelaw23_RouteHomes.j5
      rw [if_neg (by omega), if_neg (by simp)]) a2.toNat 0 ((0 : Nat) : Int) k rfl (by omega) (by omega)
    exact hx
  · rw [if_neg c] at ht; subst ht
    obtain ⟨k, rfl⟩ : ∃ k', k = k' + 1 := ⟨k - 1, by omega⟩
    refine loop_done ?_
    unfold haulagelaw23_RouteHomes.b6 haulagelaw23_RouteHomes.j5
    rw [if_pos (by omega), bind_eq (num_eq _), if_neg (by simp)]
theorem homes_loop3 (hk : Fuel k) (s0 : 1 ≤ a1) (s1 : a1 ≤ 8) (h0 : 1 ≤ a2) (h1 : a2 ≤ 64) (hl : a3.length < 1000000000) (t : Option Rou × Int) (ht : t = if a2 < 64 then (some ⟨RS.new a1 (a2 + 1), 0⟩, 0) else (none, 2)) :
    loop (fun (s_ : Int) => haulagelaw23_RouteHomes.b10 a2 a3 (some ⟨RS.new a1 a2, 0⟩, 0) t s_) k 0 = some (.inl ()) := by
  have h24 : 1099511627776 ≤ k := hk
  by_cases c : a2 < 64
  · rw [if_pos c] at ht; subst ht
    obtain ⟨x, hx, rfl⟩ := loop_inv (f := fun (s_ : Int) => haulagelaw23_RouteHomes.b10 a2 a3 (some ⟨RS.new a1 a2, 0⟩, 0) (some ⟨RS.new a1 (a2 + 1), 0⟩, 0) s_) (I := fun i s => s = (i : Int)) (P := fun x => x = .inl ()) (N := a3.length) (by
      rintro i s hi rfl
      refine .inl ⟨((i + 1 : Nat) : Int), ?_, rfl⟩
      unfold haulagelaw23_RouteHomes.b10
      rw [if_pos (by omega), bind_eq (num_eq _)]
      unfold haulagelaw23_RouteHomes.j8
      rw [if_pos (by simp), if_pos (by omega), if_pos (by omega), bind_eq (shard_eq _ _), bind_eq (shard_eq _ _)]
      have fin : haulagelaw23_RouteHomes.j9 (i : Int) false = some (.next ((i + 1 : Nat) : Int)) := by
        unfold haulagelaw23_RouteHomes.j9; rw [if_neg (by simp), wrS i (by omega)]
      show (if jumpV (fnvV [rd a3 i]) (a2 + 1) = jumpV (fnvV [rd a3 i]) a2 then _ else _) = _
      by_cases q : jumpV (fnvV [rd a3 i]) (a2 + 1) = jumpV (fnvV [rd a3 i]) a2
      · rw [if_pos q]; exact fin
      · rcases jumpV_more (fnvV [rd a3 i]) h0 (by omega) with e | e
        · exact absurd e q
        · rw [if_neg q, if_pos (by omega), bind_eq (shard_eq _ _)]
          show haulagelaw23_RouteHomes.j9 (i : Int) (!decide (jumpV (fnvV [rd a3 i]) (a2 + 1) = a2)) = _
          rw [e]
          simpa using fin) (by
      rintro s rfl
      refine ⟨_, ?_, rfl⟩
      unfold haulagelaw23_RouteHomes.b10 haulagelaw23_RouteHomes.j8
      rw [if_neg (by omega), if_neg (by simp)]) a3.length 0 ((0 : Nat) : Int) k rfl (by omega) (by omega)
    exact hx
  · rw [if_neg c] at ht; subst ht
    obtain ⟨k, rfl⟩ : ∃ k', k = k' + 1 := ⟨k - 1, by omega⟩
    refine loop_done ?_
    unfold haulagelaw23_RouteHomes.b10 haulagelaw23_RouteHomes.j8
    by_cases q : (0 : Int) < a3.length
    · rw [if_pos q, bind_eq (num_eq _), if_neg (by simp)]
    · rw [if_neg q, if_neg (by simp)]
theorem RouteHomes_true (hk : Fuel k) (hl : a3.length < 1000000000) : haulagelaw23_RouteHomes.f k a1 a2 a3 = some true := by
  have h24 : 1099511627776 ≤ k := hk
  unfold haulagelaw23_RouteHomes.f
  rw [bind_eq (known_true hk), if_pos rfl]
  by_cases c : a1 < 1 ∨ 8 < a1 ∨ a2 < 1 ∨ 64 < a2
  · rw [bind_eq (new_no c), bind_eq (num_eq _), if_neg (by simp)]; rfl
  · have s0 : 1 ≤ a1 := by omega
    have s1 : a1 ≤ 8 := by omega
    have h0 : 1 ≤ a2 := by omega
    have h1 : a2 ≤ 64 := by omega
    rw [bind_eq (new_eq s0 s1 h0 h1), bind_eq (num_eq _), if_pos rfl, wr (n := a1 + 1) (by omega) (by omega)]
    have e1 : route_New.f (a1 + 1) a2 = some (if a1 < 8 then (some ⟨RS.new (a1 + 1) a2, 0⟩, 0) else (none, 2)) := by
      by_cases q : a1 < 8
      · rw [if_pos q]; exact new_eq (by omega) (by omega) h0 h1
      · rw [if_neg q]; exact new_no (by omega)
    have e2 : route_New.f a1 (a2 + 1) = some (if a2 < 64 then (some ⟨RS.new a1 (a2 + 1), 0⟩, 0) else (none, 2)) := by
      by_cases q : a2 < 64
      · rw [if_pos q]; exact new_eq s0 s1 (by omega) (by omega)
      · rw [if_neg q]; exact new_no (by omega)
    rw [bind_eq e1, bind_eq (homes_loop1 hk s0 s1 h0 h1 _ rfl)]
    show haulagelaw23_RouteHomes.j4 k a1 a2 a3 _ _ = _
    unfold haulagelaw23_RouteHomes.j4
    rw [wr (n := a2 + 1) (by omega) (by omega), bind_eq e2, bind_eq (homes_loop2 hk s0 s1 h0 h1 _ rfl)]
    show haulagelaw23_RouteHomes.j7 k a1 a2 a3 _ _ _ = _
    unfold haulagelaw23_RouteHomes.j7
    rw [bind_eq (homes_loop3 hk s0 s1 h0 h1 hl _ rfl)]
    show haulagelaw23_RouteHomes.j11 a1 a2 _ _ = _
    unfold haulagelaw23_RouteHomes.j11
    rw [bind_eq (num_eq _)]
    by_cases q1 : a1 < 8
    · rw [if_pos q1]
      simp only [q1, decide_true, beq_self_eq_true, if_true]
      rw [bind_eq (num_eq _)]
      by_cases q2 : a2 < 64
      · rw [if_pos q2]; simp [q2]
      · rw [if_neg q2]; simp [q2]
    · rw [if_neg q1, if_pos (by simp; omega), bind_eq (num_eq _)]
      by_cases q2 : a2 < 64
      · rw [if_pos q2]; simp [q2]
      · rw [if_neg q2]; simp [q2]
end
end Go.Proofs.Ytohljkjaggcapaa.G
/-! The plain law of RouteBooks. -/
namespace Go.Proofs.Ytohljkjaggcapaa.G
open Go Go.Proofs.Ytohljkjaggcapaa.RT Go.Proofs.Ytohljkjaggcapaa.JQ Go.Proofs.Ytohljkjaggcapaa.JF
set_option linter.unusedVariables false
set_option linter.unusedSimpArgs false
/-! ### a route's shards -/
structure Good (a1 a2 : Int) (S : RS) : Prop where
  sv : S.servers = a1
  sh : S.shards = a2
  s0 : 1 ≤ a1
  s1 : a1 ≤ 8
  h0 : 1 ≤ a2
  h1 : a2 ≤ 64
  wf : ∀ k v, S.wh k = some v → 0 ≤ v ∧ v < a1
theorem is_iff (S : RS) (s v : Int) : S.is s v = true ↔ 0 ≤ s ∧ s < S.shards ∧ 0 ≤ v ∧ v < S.servers := by unfold RS.is; simp
section
variable {a1 a2 : Int} {S : RS}
theorem Good.where_in (h : Good a1 a2 S) {s : Int} (i0 : 0 ≤ s) (i1 : s < a2) : 0 ≤ S.where_ s ∧ S.where_ s < a1 := by
  unfold RS.where_
  have := h.s0
  rw [if_pos ((is_iff S s 0).2 (by rw [h.sv, h.sh]; omega))]
  cases e : S.wh s with
  | some v => exact h.wf s v e
  | none => simp only; rw [h.sv]; exact jumpV_bd h.s0 (by have := h.s1; omega)
theorem Good.where_out (h : Good a1 a2 S) {s : Int} (i : ¬ (0 ≤ s ∧ s < a2)) : S.where_ s = -1 := by
  unfold RS.where_
  rw [if_neg (fun q => i (by have := (is_iff S s 0).1 q; rw [h.sh] at this; exact ⟨this.1, this.2.1⟩))]
theorem where_set (h : Good a1 a2 S) {S' : RS} (es : S'.servers = S.servers) (eh : S'.shards = S.shards) {s v : Int} (hi : S.is s v = true) (ew : S'.wh = fun j => if j = s then some v else S.wh j) (t : Int) :
    S'.where_ t = if t = s then v else S.where_ t := by
  obtain ⟨i0, i1, i2, i3⟩ := (is_iff S s v).1 hi
  have e1 : S'.is t 0 = S.is t 0 := by unfold RS.is; rw [es, eh]
  by_cases c : t = s
  · subst c
    rw [if_pos rfl]
    unfold RS.where_
    rw [if_pos ((is_iff S' t 0).2 (by rw [es, eh]; omega)), ew]
    simp
  · rw [if_neg c]
    unfold RS.where_
    rw [e1, ew, es]
    simp only [if_neg c]
theorem where_fine (h : Good a1 a2 S) {s v : Int} (hi : S.is s v = true) (t : Int) : (S.fine s v).where_ t = if t = s then v else S.where_ t := where_set h (S' := S.fine s v) rfl rfl hi rfl t
theorem where_hint (h : Good a1 a2 S) {s v : Int} (hi : S.is s v = true) (t : Int) : (S.hint s v).where_ t = if t = s then v else S.where_ t := where_set h (S' := S.hint s v) rfl rfl hi rfl t
theorem Good.set (h : Good a1 a2 S) {S' : RS} (es : S'.servers = S.servers) (eh : S'.shards = S.shards) {s v : Int} (hi : S.is s v = true) (ew : S'.wh = fun j => if j = s then some v else S.wh j) : Good a1 a2 S' := by
  obtain ⟨i0, i1, i2, i3⟩ := (is_iff S s v).1 hi
  refine ⟨es.trans h.sv, eh.trans h.sh, h.s0, h.s1, h.h0, h.h1, fun k u hu => ?_⟩
  rw [ew] at hu
  simp only at hu
  split at hu
  · cases hu; exact ⟨i2, by rw [← h.sv]; exact i3⟩
  · exact h.wf k u hu
theorem Good.new (s0 : 1 ≤ a1) (s1 : a1 ≤ 8) (h0 : 1 ≤ a2) (h1 : a2 ≤ 64) : Good a1 a2 (RS.new a1 a2) := ⟨rfl, rfl, s0, s1, h0, h1, fun k v h => by cases h⟩
/-! ### the lists of servers -/
theorem mem_at (x v : Int) : x ∈ atV S v ↔ (0 ≤ x ∧ x < S.shards) ∧ S.where_ x = v := by
  unfold atV
  rw [List.mem_filter, List.mem_map]
  constructor
  · rintro ⟨⟨n, hn, rfl⟩, h⟩
    exact ⟨by have := List.mem_range.1 hn; omega, of_decide_eq_true h⟩
  · rintro ⟨h, h2⟩
    exact ⟨⟨x.toNat, List.mem_range.2 (by omega), by omega⟩, decide_eq_true h2⟩
theorem at_rises (v : Int) : (atV S v).Pairwise (· < ·) := by
  unfold atV
  refine List.Pairwise.filter _ ?_
  rw [List.pairwise_map]
  exact List.pairwise_lt_range.imp (fun h => by omega)
def upTo (S : RS) (t : Int) : Nat := ((List.map (fun n : Nat => (n : Int)) (List.range S.shards.toNat)).filter fun s => decide (S.where_ s ≤ t)).length
theorem filter_step (f : Int → Int) (t : Int) : ∀ l : List Int, (l.filter fun s => decide (f s ≤ t)).length = (l.filter fun s => decide (f s ≤ t - 1)).length + (l.filter fun s => decide (f s = t)).length
  | [] => rfl
  | x :: l => by
    have := filter_step f t l
    simp only [List.filter_cons]
    by_cases c1 : f x ≤ t - 1
    · rw [if_pos (by simp; omega), if_pos (by simp; omega), if_neg (by simp; omega)]
      simp only [List.length_cons]; omega
    · by_cases c2 : f x = t
      · rw [if_pos (by simp; omega), if_neg (by simp; omega), if_pos (by simp; omega)]
        simp only [List.length_cons]; omega
      · rw [if_neg (by simp; omega), if_neg (by simp; omega), if_neg (by simp; omega)]
        exact this
theorem upTo_step (t : Int) : upTo S t = upTo S (t - 1) + (atV S t).length := filter_step _ _ _
theorem upTo_none (h : Good a1 a2 S) : upTo S (-2) = 0 := by
  unfold upTo
  rw [List.length_eq_zero_iff, List.filter_eq_nil_iff]
  intro x hx
  obtain ⟨n, hn, rfl⟩ := List.mem_map.1 hx
  have hn := List.mem_range.1 hn
  rw [h.sh] at hn
  have := h.where_in (s := n) (by omega) (by omega)
  simp; omega
theorem upTo_all (h : Good a1 a2 S) : (upTo S a1 : Int) = a2 := by
  unfold upTo
  rw [List.filter_eq_self.2]
  · simp [h.sh]; have := h.h0; omega
  · intro x hx
    obtain ⟨n, hn, rfl⟩ := List.mem_map.1 hx
    have hn := List.mem_range.1 hn
    rw [h.sh] at hn
    have := h.where_in (s := n) (by omega) (by omega)
    simp; omega
theorem at_le (h : Good a1 a2 S) (v : Int) : (atV S v).length ≤ 64 := by
  unfold atV
  refine Nat.le_trans (List.length_filter_le _ _) ?_
  simp [h.sh]; have := h.h1; omega
end
/-! ### the script -/
section
variable {k : Nat} {a1 a2 a11 : Int} {a3 : List haulagelaw23_Op} {a7 : List (List Int)}
theorem j7_yes {t97 : Int} {b : Bool} {i : Nat} {r : Rou} {mv : Int} (hi : i < 1000000000) (hw : r.s.where_ (rd a3 (i : Int)).Shard = (rd a3 (i : Int)).Server) (v0 : 0 ≤ (rd a3 (i : Int)).Server) (v1 : (rd a3 (i : Int)).Server < a1) :
    haulagelaw23_RouteBooks.j7 a1 a3 a11 t97 b i (some r) mv true = some (.next (some r, b || decide ((rd a3 (i : Int)).Shard = a11), mv, ((i + 1 : Nat) : Int))) := by
  unfold haulagelaw23_RouteBooks.j7
  rw [if_pos rfl, bind_eq (where_eq _ _), if_pos hw, if_neg (by omega), if_neg (by omega)]
  unfold haulagelaw23_RouteBooks.j8
  rw [if_neg (by simp), wrS i (by omega)]
  cases b <;> simp
theorem j7_no {t97 : Int} {b : Bool} {i : Nat} {r : Rou} {mv : Int} (hi : i < 1000000000) (hw : r.s.where_ (rd a3 (i : Int)).Shard = t97) :
    haulagelaw23_RouteBooks.j7 a1 a3 a11 t97 b i (some r) mv false = some (.next (some r, b, mv, ((i + 1 : Nat) : Int))) := by
  unfold haulagelaw23_RouteBooks.j7
  rw [if_neg (by simp), bind_eq (where_eq _ _)]
  unfold haulagelaw23_RouteBooks.j8
  rw [if_neg (by simp [hw]), wrS i (by omega)]
  cases b <;> simp
structure Bk (a1 a2 was a11 : Int) (i : Nat) (s : (Option Rou) × Bool × Int × Int) (r : Rou) : Prop where
  e : s.1 = some r
  ix : s.2.2.2 = (i : Int)
  g : Good a1 a2 r.s
  n : r.n ≤ i
  mv : s.2.2.1 = r.s.moved
  m0 : 0 ≤ r.s.moved
  m1 : r.s.moved ≤ i
  st : s.2.1 = false → r.s.where_ a11 = was
theorem fine_eq_no {r : Rou} {s v : Int} (h : ¬ r.s.is s v = true) : route_Route_Fine.f (some r) s v = some (false, some r) := by
  dsimp only [route_Route_Fine.f]; rw [if_neg h]
theorem hint_eq_no {r : Rou} {s v : Int} (h : ¬ r.s.is s v = true) : route_Route_Hint.f (some r) s v = some (false, some r) := by
  dsimp only [route_Route_Hint.f]; rw [if_neg h]
set_option maxHeartbeats 1000000 in
theorem books_step {was : Int} {i : Nat} {s : (Option Rou) × Bool × Int × Int} {r : Rou} (hl : a3.length < 1000000000) (hi : i < a3.length) (h : Bk a1 a2 was a11 i s r) :
    ∃ s' r', haulagelaw23_RouteBooks.b9 a1 a3 a11 s.1 s.2.1 s.2.2.1 s.2.2.2 = some (.next s') ∧ Bk a1 a2 was a11 (i + 1) s' r' := by
  obtain ⟨s1, b, mv, si⟩ := s
  obtain ⟨e, ei, g, hn, hm, m0, m1, st⟩ := h
  simp only at e ei hm st
  subst e; subst ei
  simp only
  unfold haulagelaw23_RouteBooks.b9
  rw [if_pos (by omega), if_pos (by omega), bind_eq (where_eq _ _)]
  have n62 : r.n < 4611686018427387904 := by omega
  by_cases k0 : (rd a3 (i : Int)).Kind = 0
  · rw [if_pos k0]
    by_cases c : r.s.is (rd a3 (i : Int)).Shard (rd a3 (i : Int)).Server = true
    · rw [bind_eq (fine_eq c n62)]
      obtain ⟨i0, i1, i2, i3⟩ := (is_iff _ _ _).1 c
      rw [g.sv] at i3
      rw [j7_yes (by omega) (by show (r.s.fine _ _).where_ _ = _; rw [where_fine g c, if_pos rfl]) i2 i3]
      refine ⟨_, ⟨r.s.fine _ _, r.n + 1⟩, rfl, rfl, rfl, g.set rfl rfl c rfl, by show r.n + 1 ≤ i + 1; omega, hm, m0, by show r.s.moved ≤ _; omega, fun q => ?_⟩
      simp only [Bool.or_eq_false_iff, decide_eq_false_iff_not] at q
      show (r.s.fine _ _).where_ a11 = was
      rw [where_fine g c, if_neg (fun z => q.2 z.symm)]
      exact st q.1
    · rw [bind_eq (fine_eq_no c), j7_no (by omega) rfl]
      exact ⟨_, r, rfl, rfl, rfl, g, by omega, hm, m0, by omega, st⟩
  · rw [if_neg k0]
    by_cases k1 : (rd a3 (i : Int)).Kind = 1
    · rw [if_pos k1]
      by_cases c : r.s.is (rd a3 (i : Int)).Shard (rd a3 (i : Int)).Server = true
      · obtain ⟨i0, i1, i2, i3⟩ := (is_iff _ _ _).1 c
        rw [g.sv] at i3
        by_cases cv : r.s.where_ (rd a3 (i : Int)).Shard = (rd a3 (i : Int)).Server
        · rw [bind_eq (hint_eq_same c cv), if_neg (by simp)]
          unfold haulagelaw23_RouteBooks.j5
          rw [if_neg (by simp [cv])]
          unfold haulagelaw23_RouteBooks.j6
          rw [if_neg (by simp), j7_no (r := ⟨r.s.hints1, r.n⟩) (t97 := r.s.where_ (rd a3 (i : Int)).Shard) (by omega) rfl]
          exact ⟨_, ⟨r.s.hints1, r.n⟩, rfl, rfl, rfl, ⟨g.sv, g.sh, g.s0, g.s1, g.h0, g.h1, g.wf⟩, by show r.n ≤ i + 1; omega, hm, m0, by show r.s.moved ≤ _; omega, st⟩
        · rw [bind_eq (hint_eq c cv n62), if_pos rfl]
          unfold haulagelaw23_RouteBooks.j5
          rw [if_neg (by simp [cv])]
          unfold haulagelaw23_RouteBooks.j6
          rw [if_neg (by simp), j7_yes (by omega) (by show (r.s.hint _ _).where_ _ = _; rw [where_hint g c, if_pos rfl]) i2 i3]
          have em : (r.s.hint (rd a3 (i : Int)).Shard (rd a3 (i : Int)).Server).moved = r.s.moved + 1 := w64_id (by omega) (by omega)
          refine ⟨_, ⟨r.s.hint _ _, r.n + 1⟩, rfl, rfl, rfl, g.set rfl rfl c rfl, by show r.n + 1 ≤ i + 1; omega, ?_, by show 0 ≤ (r.s.hint _ _).moved; rw [em]; omega, by show (r.s.hint _ _).moved ≤ _; rw [em]; omega, fun q => ?_⟩
          · show IntKind.i64.wrap (mv + 1) = (r.s.hint _ _).moved
            rw [em, hm, wr (by omega) (by omega)]
          · simp only [Bool.or_eq_false_iff, decide_eq_false_iff_not] at q
            show (r.s.hint _ _).where_ a11 = was
            rw [where_hint g c, if_neg (fun z => q.2 z.symm)]
            exact st q.1
      · rw [bind_eq (hint_eq_no c), if_neg (by simp)]
        have fin : haulagelaw23_RouteBooks.j5 a1 a3 a11 (r.s.where_ (rd a3 (i : Int)).Shard) (false, some r) b (i : Int) mv = haulagelaw23_RouteBooks.j6 a1 a3 a11 (r.s.where_ (rd a3 (i : Int)).Shard) (false, some r) b (i : Int) mv false := by
          unfold haulagelaw23_RouteBooks.j5
          by_cases q1 : (false == decide (r.s.where_ (rd a3 (i : Int)).Shard = (rd a3 (i : Int)).Server)) = true
          · rw [if_pos q1]
            by_cases q2 : 0 ≤ r.s.where_ (rd a3 (i : Int)).Shard
            · rw [if_pos q2]
              by_cases q3 : 0 ≤ (rd a3 (i : Int)).Server
              · rw [if_pos q3, decide_eq_false]
                intro q4
                refine c ((is_iff _ _ _).2 ?_)
                rw [g.sh, g.sv]
                by_cases q5 : 0 ≤ (rd a3 (i : Int)).Shard ∧ (rd a3 (i : Int)).Shard < a2
                · exact ⟨q5.1, q5.2, q3, q4⟩
                · have := g.where_out q5; omega
              · rw [if_neg q3]
            · rw [if_neg q2]
          · rw [if_neg q1]
        rw [fin]
        unfold haulagelaw23_RouteBooks.j6
        rw [if_neg (by simp), j7_no (by omega) rfl]
        exact ⟨_, r, rfl, rfl, rfl, g, by omega, hm, m0, by omega, st⟩
    · rw [if_neg k1, j7_no (by omega) rfl]
      exact ⟨_, r, rfl, rfl, rfl, g, by omega, hm, m0, by omega, st⟩
theorem books_script (hk : Fuel k) (s0 : 1 ≤ a1) (s1 : a1 ≤ 8) (h0 : 1 ≤ a2) (h1 : a2 ≤ 64) (hl : a3.length < 1000000000) :
    ∃ r b mv, loop (fun (s_ : (Option Rou) × Bool × Int × Int) => haulagelaw23_RouteBooks.b9 a1 a3 a11 s_.1 s_.2.1 s_.2.2.1 s_.2.2.2) k (some ⟨RS.new a1 a2, 0⟩, false, 0, 0) = some (.inl (some r, b, mv)) ∧
      Good a1 a2 r.s ∧ mv = r.s.moved ∧ (b = false → r.s.where_ a11 = (RS.new a1 a2).where_ a11) := by
  have h24 : 1099511627776 ≤ k := hk
  obtain ⟨x, hx, r, b, mv, rfl, h⟩ := loop_inv (f := fun (s_ : (Option Rou) × Bool × Int × Int) => haulagelaw23_RouteBooks.b9 a1 a3 a11 s_.1 s_.2.1 s_.2.2.1 s_.2.2.2)
    (I := fun i s => ∃ r, Bk a1 a2 ((RS.new a1 a2).where_ a11) a11 i s r)
    (P := fun x => ∃ r b mv, x = Sum.inl (some r, b, mv) ∧ Good a1 a2 r.s ∧ mv = r.s.moved ∧ (b = false → r.s.where_ a11 = (RS.new a1 a2).where_ a11)) (N := a3.length)
    (fun i s hi ⟨r, h⟩ => by obtain ⟨s', r', e, h'⟩ := books_step (a3 := a3) hl hi h; exact .inl ⟨s', e, r', h'⟩)
    (fun s ⟨r, h⟩ => by
      obtain ⟨s1, b, mv, si⟩ := s
      obtain ⟨e, ei, g, hn, hm, m0, m1, st⟩ := h
      simp only at e ei hm st
      subst e; subst ei
      refine ⟨_, ?_, r, b, mv, rfl, g, hm, st⟩
      simp only
      unfold haulagelaw23_RouteBooks.b9
      rw [if_neg (by omega)]) a3.length 0 (some ⟨RS.new a1 a2, 0⟩, false, ((0 : Nat) : Int), ((0 : Nat) : Int)) k ⟨⟨RS.new a1 a2, 0⟩, rfl, rfl, Good.new s0 s1 h0 h1, Nat.le_refl _, rfl, Int.le_refl 0, by show (0 : Int) ≤ ((0 : Nat) : Int); omega, fun _ => rfl⟩ (by omega) (by omega)
  exact ⟨r, b, mv, hx, h⟩
/-! ### the lists -/
theorem books_list (hk : Fuel k) {r : Rou} (g : Good a1 a2 r.s) (v : Int) (n : Int) (n0 : 0 ≤ n) (n1 : n ≤ 100000) :
    loop (fun (s_ : Int × Int) => haulagelaw23_RouteBooks.b13 (some r) v (atV r.s v) s_.1 s_.2) k (n, 0) = some (.inl (n + (atV r.s v).length)) := by
  have h24 : 1099511627776 ≤ k := hk
  have hle := at_le g v
  obtain ⟨x, hx, rfl⟩ := loop_inv (f := fun (s_ : Int × Int) => haulagelaw23_RouteBooks.b13 (some r) v (atV r.s v) s_.1 s_.2) (I := fun i s => s = (n + i, (i : Int))) (P := fun x => x = .inl (n + (atV r.s v).length)) (N := (atV r.s v).length) (by
    rintro i s hi rfl
    refine .inl ⟨(n + ((i + 1 : Nat) : Int), ((i + 1 : Nat) : Int)), ?_, rfl⟩
    simp only
    unfold haulagelaw23_RouteBooks.b13
    rw [if_pos (by omega), if_pos (by omega), bind_eq (where_eq _ _), rd_eq hi]
    have hm := (mem_at (S := r.s) _ v).1 (List.getElem_mem hi)
    rw [if_pos hm.2]
    have fin : haulagelaw23_RouteBooks.j12 (n + i) (i : Int) false = some (.next (n + ((i + 1 : Nat) : Int), ((i + 1 : Nat) : Int))) := by
      unfold haulagelaw23_RouteBooks.j12
      rw [if_neg (by simp), wrS i (by omega), wr (by omega) (by omega)]
      congr 3
      omega
    by_cases q : i = 0
    · subst q; rw [if_neg (by simp)]; exact fin
    · rw [if_pos (by omega), if_pos (by omega), wr (by omega) (by omega), if_pos (by omega)]
      have e1 : ((i : Int) - 1) = ((i - 1 : Nat) : Int) := by omega
      rw [e1, rd_eq (by omega)]
      have hr := List.pairwise_iff_getElem.1 (at_rises (S := r.s) v) (i - 1) i (by omega) hi (by omega)
      rw [decide_eq_false (by omega)]
      exact fin) (by
    rintro s rfl
    refine ⟨_, ?_, rfl⟩
    simp only
    unfold haulagelaw23_RouteBooks.b13
    rw [if_neg (by omega)]) (atV r.s v).length 0 (n + ((0 : Nat) : Int), ((0 : Nat) : Int)) k rfl (by omega) (by omega)
  simpa using hx
theorem at_eq (r : Rou) (v : Int) : route_Route_At.f (some r) v = some (atV r.s v) := rfl
theorem books_lists (hk : Fuel k) {r : Rou} (g : Good a1 a2 r.s) :
    loop (fun (s_ : Int × Int) => haulagelaw23_RouteBooks.b15 k a1 (some r) s_.1 s_.2) k (0, -1) = some (.inl a2) := by
  have h24 : 1099511627776 ≤ k := hk
  have hs1 := g.s1
  have hs0 := g.s0
  have small : ∀ t : Int, upTo r.s t ≤ 64 := fun t => by
    unfold upTo
    refine Nat.le_trans (List.length_filter_le _ _) ?_
    simp [g.sh]; have := g.h1; omega
  obtain ⟨x, hx, rfl⟩ := loop_inv (f := fun (s_ : Int × Int) => haulagelaw23_RouteBooks.b15 k a1 (some r) s_.1 s_.2) (I := fun i s => s = ((upTo r.s ((i : Int) - 2) : Int), (i : Int) - 1)) (P := fun x => x = .inl a2) (N := a1.toNat + 2) (by
    rintro i s hi rfl
    refine .inl ⟨((upTo r.s (((i + 1 : Nat) : Int) - 2) : Int), ((i + 1 : Nat) : Int) - 1), ?_, rfl⟩
    simp only
    unfold haulagelaw23_RouteBooks.b15
    rw [if_pos (by omega), bind_eq (at_eq _ _), bind_eq (books_list hk g _ _ (by omega) (by have := small ((i : Int) - 2); omega))]
    simp only
    unfold haulagelaw23_RouteBooks.j14
    rw [wr (by omega) (by omega)]
    have e1 : ((i : Int) - 1 + 1) = ((i + 1 : Nat) : Int) - 1 := by omega
    have e2 : (upTo r.s ((i : Int) - 2) : Int) + (atV r.s ((i : Int) - 1)).length = (upTo r.s (((i + 1 : Nat) : Int) - 2) : Int) := by
      have := upTo_step (S := r.s) ((i : Int) - 1)
      have e3 : ((i + 1 : Nat) : Int) - 2 = (i : Int) - 1 := by omega
      have e4 : (i : Int) - 1 - 1 = (i : Int) - 2 := by omega
      rw [e3, this, e4]
      omega
    rw [e1, e2]) (by
    rintro s rfl
    refine ⟨_, ?_, rfl⟩
    simp only
    unfold haulagelaw23_RouteBooks.b15
    rw [if_neg (by omega)]
    have e3 : ((a1.toNat + 2 : Nat) : Int) - 2 = a1 := by omega
    rw [e3, upTo_all g]) (a1.toNat + 2) 0 ((upTo r.s (((0 : Nat) : Int) - 2) : Int), ((0 : Nat) : Int) - 1) k rfl (by omega) (by omega)
  have e5 : (upTo r.s (((0 : Nat) : Int) - 2) : Int) = 0 := by
    have := upTo_none g
    have e6 : (((0 : Nat) : Int) - 2) = -2 := by omega
    rw [e6, this]; rfl
  rw [e5] at hx
  simpa using hx
theorem books_keys (hk : Fuel k) {r : Rou} (g : Good a1 a2 r.s) (hl : a7.length < 1000000000) :
    loop (fun (s_ : Int) => haulagelaw23_RouteBooks.b18 a2 a7 (some r) s_) k 0 = some (.inl ()) := by
  have h24 : 1099511627776 ≤ k := hk
  obtain ⟨x, hx, rfl⟩ := loop_inv (f := fun (s_ : Int) => haulagelaw23_RouteBooks.b18 a2 a7 (some r) s_) (I := fun i s => s = (i : Int)) (P := fun x => x = .inl ()) (N := a7.length) (by
    rintro i s hi rfl
    refine .inl ⟨((i + 1 : Nat) : Int), ?_, rfl⟩
    unfold haulagelaw23_RouteBooks.b18
    rw [if_pos (by omega), if_pos (by omega), bind_eq (shard_eq _ _), g.sh]
    have := jumpV_bd (h := fnvV [rd a7 (i : Int)]) g.h0 (by have := g.h1; omega)
    rw [if_neg (by omega), decide_eq_false (by omega)]
    unfold haulagelaw23_RouteBooks.j17
    rw [if_neg (by simp), wrS i (by omega)]) (by
    rintro s rfl
    refine ⟨_, ?_, rfl⟩
    unfold haulagelaw23_RouteBooks.b18
    rw [if_neg (by omega)]) a7.length 0 ((0 : Nat) : Int) k rfl (by omega) (by omega)
  exact hx
theorem counts_eq (r : Rou) : route_Route_Counts.f (some r) = some (r.s.good, r.s.hints, r.s.moved) := rfl
theorem RouteBooks_true (hk : Fuel k) (hl : a3.length < 1000000000) (hl7 : a7.length < 1000000000) : haulagelaw23_RouteBooks.f k a1 a2 a3 a7 a11 = some true := by
  have h24 : 1099511627776 ≤ k := hk
  unfold haulagelaw23_RouteBooks.f
  rw [bind_eq (known_true hk), if_pos rfl]
  by_cases c : a1 < 1 ∨ 8 < a1 ∨ a2 < 1 ∨ 64 < a2
  · rw [bind_eq (new_no c), bind_eq (num_eq _), if_neg (by simp)]; rfl
  · have s0 : 1 ≤ a1 := by omega
    have s1 : a1 ≤ 8 := by omega
    have h0 : 1 ≤ a2 := by omega
    have h1 : a2 ≤ 64 := by omega
    rw [bind_eq (new_eq s0 s1 h0 h1), bind_eq (num_eq _), if_pos rfl, bind_eq (where_eq _ _)]
    obtain ⟨r, b, mv, e, g, hm, st⟩ := books_script (a11 := a11) (a3 := a3) hk s0 s1 h0 h1 hl
    rw [bind_eq e]
    simp only
    unfold haulagelaw23_RouteBooks.j10
    rw [bind_eq (counts_eq r)]
    have fin : haulagelaw23_RouteBooks.j11 k a1 a2 a7 (some r) (!decide (r.s.moved = mv)) = some true := by
      unfold haulagelaw23_RouteBooks.j11
      rw [if_neg (by simp [hm]), bind_eq (books_lists hk g)]
      simp only
      unfold haulagelaw23_RouteBooks.j16
      rw [bind_eq (books_keys hk g hl7)]
      simp only
      unfold haulagelaw23_RouteBooks.j19
      simp
    cases b with
    | true => rw [if_pos rfl]; exact fin
    | false =>
      rw [if_neg (by simp), bind_eq (where_eq _ _), if_pos (st rfl)]
      exact fin
end
end Go.Proofs.Ytohljkjaggcapaa.G
/-! Lists of lists that are written full, gone on with, looked at: the plain side. -/
namespace Go.Proofs.Ytohljkjaggcapaa.G
open Go
set_option linter.unusedVariables false
set_option linter.unusedSimpArgs false
theorem oa_next {S X : Type} {f : S → Option (Ctl S X)} {n : Nat} {s s' : S} (h : f s = some (.next s')) : loop f (n + 1) s = loop f n s' := by
  show (f s).bind _ = _; rw [h]; rfl
theorem oa_done {S X : Type} {f : S → Option (Ctl S X)} {n : Nat} {s : S} {x : X} (h : f s = some (.done x)) : loop f (n + 1) s = some x := by
  show (f s).bind _ = _; rw [h]; rfl
theorem oa_count' {S X : Type} {f : S → Option (Ctl S X)} {s : Nat → S} {x : X} {N : Nat} (step : ∀ i, i < N → f (s i) = some (.next (s (i + 1)))) (last : f (s N) = some (.done x)) : ∀ (n i m : Nat), i + n = N → n < m → loop f m (s i) = some x
  | _, _, 0, _, h => absurd h (by omega)
  | 0, i, m + 1, hN, _ => by
    obtain rfl : i = N := by omega
    exact oa_done last
  | n + 1, i, m + 1, hN, hm => by rw [oa_next (step i (by omega))]; exact oa_count' step last n (i + 1) m (by omega) (by omega)
/-- a loop that counts up to its end -/
theorem oa_count {S X : Type} {f : S → Option (Ctl S X)} {s : Nat → S} {x : X} {N k : Nat} (hk : N < k) (step : ∀ i, i < N → f (s i) = some (.next (s (i + 1)))) (last : f (s N) = some (.done x)) : loop f k (s 0) = some x := oa_count' step last N 0 k (by omega) hk
theorem oa_rd {α : Type} [Inhabited α] {xs : List α} {i : Nat} (h : i < xs.length) : rd xs (i : Int) = xs[i] := by
  unfold rd
  rw [Int.toNat_natCast, List.getD_eq_getElem?_getD, List.getElem?_eq_getElem h]
  rfl
theorem oa_rdm {α : Type} [Inhabited α] {v : Nat → α} {n k : Nat} (h : k < n) : rd ((List.range n).map v) (k : Int) = v k := by rw [oa_rd (by simpa using h)]; simp
theorem oa_rdl {α : Type} [Inhabited α] {a b : List α} {k : Nat} (h : k < a.length) : rd (a ++ b) (k : Int) = rd a (k : Int) := by rw [oa_rd (by simp; omega), oa_rd h, List.getElem_append_left h]
theorem oa_rdr {α : Type} [Inhabited α] {a : List α} {v : Nat → α} {n k : Nat} (h : k < n) : rd (a ++ (List.range n).map v) ((a.length + k : Nat) : Int) = v k := by
  rw [oa_rd (by simp; omega), List.getElem_append_right (by omega)]; simp
theorem oa_set {α : Type} {v : Nat → α} {l : List α} {k : Nat} (h : k < l.length) : ((List.range k).map v ++ l.drop k).set k (v k) = (List.range (k + 1)).map v ++ l.drop (k + 1) := by
  have e : k - ((List.range k).map v).length = 0 := by simp
  rw [List.drop_eq_getElem_cons h, List.set_append_right _ _ (by simp), e, List.set_cons_zero, List.range_succ, List.map_append, List.append_assoc]; rfl
section
set_option linter.unusedSectionVars false
variable {α : Type} [Inhabited α] {L L0 : List (List α)} {i k len n : Nat}
def oaM (v : Nat → Nat → α) (L : List (List α)) : List (List α) := L.mapIdx fun i l => (List.range l.length).map (v i)
def oaG (n : Nat) (v : Nat → Nat → α) (L : List (List α)) : List (List α) := L.mapIdx fun i l => l ++ (List.range n).map (v i)
theorem oaM_len (v : Nat → Nat → α) : (oaM v L).length = L.length := by simp [oaM]
theorem oaG_len (v : Nat → Nat → α) : (oaG n v L).length = L.length := by simp [oaG]
theorem oaM_rd (v : Nat → Nat → α) (h : i < L.length) : rd (oaM v L) (i : Int) = (List.range (rd L (i : Int)).length).map (v i) := by
  rw [oa_rd (by rw [oaM_len]; exact h), oa_rd h]; simp [oaM]
theorem oaG_rd (v : Nat → Nat → α) (h : i < L.length) : rd (oaG n v L) (i : Int) = rd L (i : Int) ++ (List.range n).map (v i) := by
  rw [oa_rd (by rw [oaG_len]; exact h), oa_rd h]; simp [oaG]
theorem oa_rdset (h : i < L.length) (l : List α) : rd (L.set i l) (i : Int) = l := by rw [oa_rd (by simpa using h)]; simp
/-- one list is written full -/
theorem oa_fill1 {f : List (List α) × Int → Option (Ctl (List (List α) × Int) (List (List α)))} {v : Nat → α} (hk : len < k) (hi : i < L.length) (hl : (rd L (i : Int)).length = len)
    (step : ∀ (M : List (List α)) (k : Nat), M.length = L.length → (rd M (i : Int)).length = len → k < len → f (M, (k : Int)) = some (.next (M.set i ((rd M (i : Int)).set k (v k)), ((k + 1 : Nat) : Int))))
    (stop : ∀ (M : List (List α)), M.length = L.length → (rd M (i : Int)).length = len → f (M, (len : Int)) = some (.done M)) : loop f k (L, 0) = some (L.set i ((List.range len).map v)) := by
  have e0 : (L, (0 : Int)) = (fun k : Nat => (L.set i ((List.range k).map v ++ (rd L (i : Int)).drop k), (k : Int))) 0 := by
    simp only [List.range_zero, List.map_nil, List.nil_append, List.drop_zero, oa_rd hi]
    rw [List.set_getElem_self]; rfl
  rw [e0]
  refine oa_count (s := fun k : Nat => (L.set i ((List.range k).map v ++ (rd L (i : Int)).drop k), (k : Int))) (N := len) hk (fun k hkk => ?_) ?_
  · rw [step _ k (by simp) (by rw [oa_rdset hi]; simp; omega) hkk, oa_rdset hi, oa_set (by omega), List.set_set]
  · rw [stop _ (by simp) (by rw [oa_rdset hi]; simp; omega), List.drop_of_length_le (by omega), List.append_nil]
theorem oa_tk {L M : List (List α)} (h : M.length = L.length) (hi : i < L.length) : rd (M.take i ++ L.drop i) (i : Int) = rd L (i : Int) := by
  rw [oa_rd (by simp; omega), oa_rd hi, List.getElem_append_right (by simp; omega)]
  simp; congr 1; omega
theorem oa_tks {L M : List (List α)} (h : M.length = L.length) (hi : i < L.length) : (M.take i ++ L.drop i).set i (rd M (i : Int)) = M.take (i + 1) ++ L.drop (i + 1) := by
  rw [List.drop_eq_getElem_cons hi, List.set_append_right _ _ (by simp; omega), oa_rd (by omega)]
  have : i - (M.take i).length = 0 := by simp; omega
  rw [this, List.set_cons_zero, List.take_add_one, List.getElem?_eq_getElem (by omega), Option.toList_some, List.append_assoc]; rfl
/-- all are written full -/
theorem oa_fill {f : List (List α) × Int → Option (Ctl (List (List α) × Int) (List (List α)))} {v : Nat → Nat → α} (hk : L0.length < k)
    (step : ∀ (L : List (List α)) (i : Nat), L.length = L0.length → i < L0.length → rd L (i : Int) = rd L0 (i : Int) → f (L, (i : Int)) = some (.next (L.set i ((List.range (rd L0 (i : Int)).length).map (v i)), ((i + 1 : Nat) : Int))))
    (stop : ∀ (L : List (List α)), L.length = L0.length → f (L, (L0.length : Int)) = some (.done L)) : loop f k (L0, 0) = some (oaM v L0) := by
  have e0 : (L0, (0 : Int)) = (fun i : Nat => ((oaM v L0).take i ++ L0.drop i, (i : Int))) 0 := by simp
  have hl := oaM_len (L := L0) v
  rw [e0]
  refine oa_count (s := fun i : Nat => ((oaM v L0).take i ++ L0.drop i, (i : Int))) (N := L0.length) hk (fun i hi => ?_) ?_
  · rw [step _ i (by simp; omega) hi (oa_tk hl hi), ← oaM_rd v hi, oa_tks hl hi]
  · rw [stop _ (by simp; omega), List.drop_of_length_le (Nat.le_refl _), List.append_nil, List.take_of_length_le (by omega)]
/-- one list is gone on with -/
theorem oa_grow1 {f : List α × Int → Option (Ctl (List α × Int) (List α))} {v : Nat → α} {l0 : List α} (hk : n < k)
    (step : ∀ (l : List α) (k : Nat), l.length = l0.length + k → k < n → f (l, (k : Int)) = some (.next (l ++ [v k], ((k + 1 : Nat) : Int))))
    (stop : ∀ (l : List α), f (l, (n : Int)) = some (.done l)) : loop f k (l0, 0) = some (l0 ++ (List.range n).map v) := by
  have e0 : (l0, (0 : Int)) = (fun k : Nat => (l0 ++ (List.range k).map v, (k : Int))) 0 := by simp
  rw [e0]
  refine oa_count (s := fun k : Nat => (l0 ++ (List.range k).map v, (k : Int))) (N := n) hk (fun k hkk => ?_) ?_
  · rw [step _ k (by simp) hkk, List.range_succ, List.map_append, List.append_assoc]; rfl
  · rw [stop]
/-- all are gone on with -/
theorem oa_grow {f : List (List α) × Int → Option (Ctl (List (List α) × Int) (List (List α)))} {v : Nat → Nat → α} (hk : L.length < k)
    (step : ∀ (M : List (List α)) (i : Nat), M.length = i → i < L.length → f (M, (i : Int)) = some (.next (M ++ [rd L (i : Int) ++ (List.range n).map (v i)], ((i + 1 : Nat) : Int))))
    (stop : ∀ (M : List (List α)), M.length = L.length → f (M, (L.length : Int)) = some (.done M)) : loop f k ([], 0) = some (oaG n v L) := by
  have e0 : (([] : List (List α)), (0 : Int)) = (fun i : Nat => ((oaG n v L).take i, (i : Int))) 0 := by simp
  have hl := oaG_len (n := n) (L := L) v
  rw [e0]
  refine oa_count (s := fun i : Nat => ((oaG n v L).take i, (i : Int))) (N := L.length) hk (fun i hi => ?_) ?_
  · rw [step _ i (by simp; omega) hi, ← oaG_rd v hi, List.take_add_one, List.getElem?_eq_getElem (by omega), oa_rd (by omega)]; rfl
  · rw [stop _ (by simp; omega), List.take_of_length_le (by omega)]
end
end Go.Proofs.Ytohljkjaggcapaa.G
/-! The plain law of RouteOwn. -/
namespace Go.Proofs.Ytohljkjaggcapaa.G
open Go Go.Proofs.Ytohljkjaggcapaa.RT Go.Proofs.Ytohljkjaggcapaa.JQ Go.Proofs.Ytohljkjaggcapaa.JF
set_option linter.unusedVariables false
set_option linter.unusedSimpArgs false
/-! ### routes: their trails are short -/
structure GoodT (a1 a2 : Int) (r : Rou) (n : Nat) : Prop where
  g : Good a1 a2 r.s
  n : r.n ≤ n
  t : ∀ s, ((r.s.tr s).length : Int) ≤ a1
section
variable {a1 a2 : Int} {r : Rou} {n : Nat}
theorem GoodT.le (h : GoodT a1 a2 r n) (s : Int) : (r.s.tr s).length ≤ 8 := by have := h.t s; have := h.g.s1; omega
theorem GoodT.fine (h : GoodT a1 a2 r n) (s v : Int) (hn : n < 1000000000000) : ∃ b r', route_Route_Fine.f (some r) s v = some (b, some r') ∧ GoodT a1 a2 r' (n + 1) := by
  by_cases c : r.s.is s v = true
  · refine ⟨_, _, fine_eq c (by have := h.n; omega), h.g.set rfl rfl c rfl, by show r.n + 1 ≤ n + 1; have := h.n; omega, fun x => ?_⟩
    show (((if x = s then [] else r.s.tr x) : List Int).length : Int) ≤ a1
    split
    · have := h.g.s0; simp; omega
    · exact h.t x
  · exact ⟨_, _, fine_eq_no c, h.g, by have := h.n; omega, h.t⟩
theorem GoodT.hint (h : GoodT a1 a2 r n) (s v : Int) (hn : n < 1000000000000) : ∃ b r', route_Route_Hint.f (some r) s v = some (b, some r') ∧ GoodT a1 a2 r' (n + 1) := by
  by_cases c : r.s.is s v = true
  · by_cases cv : r.s.where_ s = v
    · exact ⟨_, _, hint_eq_same c cv, ⟨h.g.sv, h.g.sh, h.g.s0, h.g.s1, h.g.h0, h.g.h1, h.g.wf⟩, by show r.n ≤ n + 1; have := h.n; omega, h.t⟩
    · refine ⟨_, _, hint_eq c cv (by have := h.n; omega), h.g.set rfl rfl c rfl, by show r.n + 1 ≤ n + 1; have := h.n; omega, fun x => ?_⟩
      show (((if x = s then (r.s.tr s ++ [r.s.where_ s]).drop ((r.s.tr s).length + 1 - r.s.servers.toNat) else r.s.tr x) : List Int).length : Int) ≤ a1
      split
      · rw [List.length_drop, List.length_append, List.length_singleton, h.g.sv]
        have := h.g.s0; omega
      · exact h.t x
  · exact ⟨_, _, hint_eq_no c, h.g, by have := h.n; omega, h.t⟩
theorem trail_eq {s : Int} (h0 : -9223372036854775808 ≤ s) (h1 : s ≤ 9223372036854775807) : route_Route_Trail.f (some r) s = some (r.s.tr s) := by
  dsimp only [route_Route_Trail.f]; rw [if_pos ⟨h0, h1⟩]
end
section
variable {k : Nat} {a1 a2 a7 a8 : Int} {a3 : List haulagelaw23_Op}
theorem own_script (hk : Fuel k) (s0 : 1 ≤ a1) (s1 : a1 ≤ 8) (h0 : 1 ≤ a2) (h1 : a2 ≤ 64) (hl : a3.length < 1000000000) :
    ∃ r, loop (fun (s_ : (Option Rou) × Int) => haulagelaw23_RouteOwn.b3 a3 s_.1 s_.2) k (some ⟨RS.new a1 a2, 0⟩, 0) = some (some r) ∧ GoodT a1 a2 r 1000000000 := by
  have h24 : 1099511627776 ≤ k := hk
  obtain ⟨x, hx, r, rfl, h⟩ := loop_inv (f := fun (s_ : (Option Rou) × Int) => haulagelaw23_RouteOwn.b3 a3 s_.1 s_.2)
    (I := fun i s => ∃ r, s = (some r, (i : Int)) ∧ GoodT a1 a2 r i) (P := fun x => ∃ r, x = some r ∧ GoodT a1 a2 r a3.length) (N := a3.length)
    (by
      rintro i s hi ⟨r, rfl, h⟩
      refine .inl ?_
      have step : ∀ b, ∃ r', haulagelaw23_RouteOwn.j2 a3 (some r) (i : Int) b = some (.next (some r', ((i + 1 : Nat) : Int))) ∧ GoodT a1 a2 r' (i + 1) := by
        intro b
        unfold haulagelaw23_RouteOwn.j2
        cases b with
        | true =>
          obtain ⟨b, r', e, h'⟩ := h.fine (rd a3 (i : Int)).Shard (rd a3 (i : Int)).Server (by omega)
          exact ⟨r', by rw [if_pos rfl, if_pos (by omega), if_pos (by omega), bind_eq e, wrS i (by omega)], h'⟩
        | false =>
          obtain ⟨b, r', e, h'⟩ := h.hint (rd a3 (i : Int)).Shard (rd a3 (i : Int)).Server (by omega)
          exact ⟨r', by rw [if_neg (by simp), if_pos (by omega), if_pos (by omega), bind_eq e, wrS i (by omega)], h'⟩
      simp only
      unfold haulagelaw23_RouteOwn.b3
      rw [if_pos (by omega), if_pos (by omega)]
      split
      · obtain ⟨r', e, h'⟩ := step (decide ((i : Int) < 3)); exact ⟨_, e, r', rfl, h'⟩
      · obtain ⟨r', e, h'⟩ := step false; exact ⟨_, e, r', rfl, h'⟩)
    (by
      rintro s ⟨r, rfl, h⟩
      refine ⟨_, ?_, r, rfl, h⟩
      simp only
      unfold haulagelaw23_RouteOwn.b3
      rw [if_neg (by omega)]) a3.length 0 (some ⟨RS.new a1 a2, 0⟩, ((0 : Nat) : Int)) k ⟨_, rfl, Good.new s0 s1 h0 h1, Nat.le_refl _, fun s => by show (([] : List Int).length : Int) ≤ a1; simp; omega⟩ (by omega) (by omega)
  exact ⟨r, hx, h.g, by have := h.n; omega, h.t⟩
variable {x0 x1 x2 x3 x4 x5 : List Int} {y0 y1 y2 y3 : List Int}
theorem rd6 : ∀ i : Nat, i < 6 → i = 0 ∨ i = 1 ∨ i = 2 ∨ i = 3 ∨ i = 4 ∨ i = 5 := by omega
/-- the copies -/
theorem own_was (hk : Fuel k) (b0 : x0.length ≤ 64) (b1 : x1.length ≤ 64) (b2 : x2.length ≤ 64) (b3 : x3.length ≤ 64) :
    loop (fun (s_ : (List (List Int)) × Int) => haulagelaw23_RouteOwn.b5 x0 x1 x2 x3 s_.1 s_.2) k ([], 0) = some [x0, x1, x2, x3] := by
  have h24 : 1099511627776 ≤ k := hk
  have e0 : (([] : List (List Int)), (0 : Int)) = ([x0, x1, x2, x3].take 0, ((0 : Nat) : Int)) := rfl
  rw [e0]
  refine oa_count (s := fun i : Nat => ([x0, x1, x2, x3].take i, (i : Int))) (N := 4) (by omega) (fun i hi => ?_) ?_
  · unfold haulagelaw23_RouteOwn.b5
    have hb : (rd [x0, x1, x2, x3] (i : Int)).length ≤ 64 := by
      rcases (by omega : i = 0 ∨ i = 1 ∨ i = 2 ∨ i = 3) with rfl | rfl | rfl | rfl <;> assumption
    simp only
    rw [if_pos (by omega), if_pos (by simp only [List.length_cons, List.length_nil]; omega), if_pos (by omega), if_pos (by simp [List.length_take]; omega), wrS i (by omega), oa_rd (by simpa using hi), List.take_add_one, List.getElem?_eq_getElem (by simpa using hi)]
    rfl
  · unfold haulagelaw23_RouteOwn.b5
    simp only
    rw [if_neg (by omega)]; rfl
theorem own_same (hk : Fuel k) (L : List (List Int)) (hL : L = [x0, x1, x2, x3, x4, x5]) (q0 : x0 = x1) (q2 : x2 = x3) (hb : ∀ i : Nat, i < 6 → (rd L (i : Int)).length ≤ 64) :
    loop (fun (s_ : Int) => haulagelaw23_RouteOwn.b9 k x0 x1 x2 x3 [x0, x1, x2, x3] x4 x5 s_) k 0 = some (.inl ()) := by
  have h24 : 1099511627776 ≤ k := hk
  have eL : [x0, x1, x2, x3] ++ [x4, x5] = L := by rw [hL]; rfl
  have eW : [x0, x1, x2, x3] ++ [rd L 4, rd L 5] = L := by rw [hL]; rfl
  have ll : L.length = 6 := by rw [hL]; rfl
  refine oa_count (s := fun i : Nat => (i : Int)) (N := 6) (by omega) (fun i hi => ?_) ?_
  · unfold haulagelaw23_RouteOwn.b9
    have hbi := hb i hi
    rw [eL, eW, if_pos (by omega), if_pos (by omega), if_pos (by omega), bind_eq (ints_eq hk _ _ (.inl (by omega))), if_pos (by simp)]
    have fin : haulagelaw23_RouteOwn.j8 (i : Int) false = some (.next ((i + 1 : Nat) : Int)) := by
      unfold haulagelaw23_RouteOwn.j8; rw [if_neg (by simp), wrS i (by omega)]
    by_cases c : i < 4
    · have e : rd L (i : Int) = rd L (IntKind.i64.wrap (IntKind.i64.wrap (Int.tdiv (i : Int) 2) * 2)) := by
        rw [hL]
        rcases (by omega : i = 0 ∨ i = 1 ∨ i = 2 ∨ i = 3) with rfl | rfl | rfl | rfl
        · rfl
        · exact q0.symm
        · rfl
        · exact q2.symm
      have hj : 0 ≤ IntKind.i64.wrap (IntKind.i64.wrap (Int.tdiv (i : Int) 2) * 2) ∧ IntKind.i64.wrap (IntKind.i64.wrap (Int.tdiv (i : Int) 2) * 2) < (L.length : Int) := by
        rw [ll]
        rcases (by omega : i = 0 ∨ i = 1 ∨ i = 2 ∨ i = 3) with rfl | rfl | rfl | rfl <;> decide
      rw [if_pos (by omega), if_pos (by omega), if_pos hj, bind_eq (ints_eq hk _ _ (.inl (by omega)))]
      rw [decide_eq_true e]
      exact fin
    · rw [if_neg (by omega)]; exact fin
  · unfold haulagelaw23_RouteOwn.b9
    rw [if_neg (by omega)]
def vA (i k : Nat) : Int := 1000 * (i : Int) + (k : Int)
def vB (i k : Nat) : Int := -1000 * (i : Int) - (k : Int) - 1
theorem own_fill (hk : Fuel k) {L : List (List Int)} (ll : L.length = 6) (hb : ∀ i : Nat, i < 6 → (rd L (i : Int)).length ≤ 64) :
    loop (fun (s_ : (List (List Int)) × Int) => haulagelaw23_RouteOwn.b15 k s_.1 s_.2) k (L, 0) = some (oaM vA L) := by
  have h24 : 1099511627776 ≤ k := hk
  refine oa_fill (by omega) (fun M i hl hi hM => ?_) (fun M hl => ?_)
  · simp only
    unfold haulagelaw23_RouteOwn.b15
    have hbi := hb i (by omega)
    rw [if_pos (by omega), bind_eq (oa_fill1 (v := vA i) (L := M) (i := i) (len := (rd L (i : Int)).length) (by omega) (by omega) (by rw [hM]) (fun M' q e1 e2 e3 => ?_) (fun M' e1 e2 => ?_))]
    · unfold haulagelaw23_RouteOwn.j14; rw [wrS i (by omega)]
    · simp only
      unfold haulagelaw23_RouteOwn.b13
      rw [if_pos (by omega), if_pos (by omega), if_pos (by omega), if_pos (by omega), wrS q (by omega), wr (n := 1000 * (i : Int)) (by omega) (by omega), wr (by omega) (by omega)]
      rfl
    · simp only
      unfold haulagelaw23_RouteOwn.b13
      rw [if_pos (by omega), if_neg (by omega)]
  · simp only
    unfold haulagelaw23_RouteOwn.b15
    rw [if_neg (by omega)]
theorem own_grow (hk : Fuel k) {L : List (List Int)} (ll : L.length = 6) (hb : ∀ i : Nat, i < 6 → (rd L (i : Int)).length ≤ 64) :
    loop (fun (s_ : (List (List Int)) × Int) => haulagelaw23_RouteOwn.b21 k L s_.1 s_.2) k ([], 0) = some (oaG 70 vB L) := by
  have h24 : 1099511627776 ≤ k := hk
  refine oa_grow (by omega) (fun M i hl hi => ?_) (fun M hl => ?_)
  · simp only
    unfold haulagelaw23_RouteOwn.b21
    have hbi := hb i (by omega)
    rw [if_pos (by omega), if_pos (by omega), bind_eq (oa_grow1 (v := vB i) (n := 70) (by omega) (fun l q e1 e2 => ?_) (fun l => ?_))]
    · unfold haulagelaw23_RouteOwn.j20; rw [if_pos (by simp only [List.length_cons, List.length_nil]; omega), wrS i (by omega)]
    · simp only
      unfold haulagelaw23_RouteOwn.b19
      have hv : IntKind.i64.wrap (IntKind.i64.wrap (IntKind.i64.wrap (-1000 * (i : Int)) - (q : Int)) - 1) = vB i q := by
        rw [wr (n := -1000 * (i : Int)) (by omega) (by omega), wr (n := -1000 * (i : Int) - (q : Int)) (by omega) (by omega), wr (by omega) (by omega)]; rfl
      rw [if_pos (by omega), if_pos (by simp only [List.length_cons, List.length_nil]; omega), wrS q (by omega), hv]
    · simp only
      unfold haulagelaw23_RouteOwn.b19
      rw [if_neg (by omega)]
  · simp only
    unfold haulagelaw23_RouteOwn.b21
    rw [if_neg (by omega), if_pos (by omega)]
theorem own_look (hk : Fuel k) {L : List (List Int)} (ll : L.length = 6) (hb : ∀ i : Nat, i < 6 → (rd L (i : Int)).length ≤ 64) :
    loop (fun (s_ : Int) => haulagelaw23_RouteOwn.b28 k (oaM vA L) (oaG 70 vB (oaM vA L)) s_) k 0 = some (.inl ()) := by
  have h24 : 1099511627776 ≤ k := hk
  have l1 := oaM_len (L := L) vA
  have l2 := oaG_len (n := 70) (L := oaM vA L) vB
  refine oa_count (s := fun i : Nat => (i : Int)) (N := 6) (by omega) (fun i hi => ?_) ?_
  · have hbi := hb i hi
    have e1 := oaM_rd (L := L) (i := i) vA (by omega)
    have e2 := oaG_rd (n := 70) (L := oaM vA L) (i := i) vB (by omega)
    obtain ⟨n, hn⟩ : ∃ n, n = (rd L (i : Int)).length := ⟨_, rfl⟩
    have n1 : (rd (oaM vA L) (i : Int)).length = n := by rw [e1]; simp [hn]
    have n2 : (rd (oaG 70 vB (oaM vA L)) (i : Int)).length = n + 70 := by rw [e2]; simp [n1]
    unfold haulagelaw23_RouteOwn.b28
    rw [if_pos (by omega), if_pos (by omega)]
    have A : loop (fun (s_ : Int) => haulagelaw23_RouteOwn.b24 (oaM vA L) (oaG 70 vB (oaM vA L)) (i : Int) s_) k 0 = some (.inl ()) := by
      refine oa_count (s := fun q : Nat => (q : Int)) (N := n) (by omega) (fun q hq => ?_) ?_
      · unfold haulagelaw23_RouteOwn.b24
        have v1 : rd (rd (oaM vA L) (i : Int)) (q : Int) = vA i q := by rw [e1]; exact oa_rdm (by omega)
        have v2 : rd (rd (oaG 70 vB (oaM vA L)) (i : Int)) (q : Int) = vA i q := by rw [e2, oa_rdl (by omega)]; exact v1
        rw [if_pos (by omega), if_pos (by omega), if_pos (by omega), v1, v2, wr (n := 1000 * (i : Int)) (by omega) (by omega), wr (n := 1000 * (i : Int) + (q : Int)) (by omega) (by omega), if_pos (by rfl), if_pos (by omega), if_pos (by omega), if_pos (by omega), if_pos (by omega)]
        unfold haulagelaw23_RouteOwn.j23
        rw [if_neg (by simp), wrS q (by omega)]
      · unfold haulagelaw23_RouteOwn.b24
        rw [if_neg (by omega)]
    have Bq : loop (fun (s_ : Int) => haulagelaw23_RouteOwn.b26 (oaM vA L) (oaG 70 vB (oaM vA L)) (i : Int) s_) k 0 = some (.inl ()) := by
      refine oa_count (s := fun q : Nat => (q : Int)) (N := 70) (by omega) (fun q hq => ?_) ?_
      · unfold haulagelaw23_RouteOwn.b26
        have v2 : rd (rd (oaG 70 vB (oaM vA L)) (i : Int)) (((n + q : Nat)) : Int) = vB i q := by rw [e2, ← n1]; exact oa_rdr hq
        have hw : IntKind.i64.wrap (((rd (oaM vA L) (i : Int)).length : Int) + (q : Int)) = ((n + q : Nat) : Int) := by rw [n1, wr (by omega) (by omega)]; omega
        have hv : IntKind.i64.wrap (IntKind.i64.wrap (IntKind.i64.wrap (-1000 * (i : Int)) - (q : Int)) - 1) = vB i q := by
          rw [wr (n := -1000 * (i : Int)) (by omega) (by omega), wr (n := -1000 * (i : Int) - (q : Int)) (by omega) (by omega), wr (by omega) (by omega)]; rfl
        rw [if_pos (by omega), if_pos (by omega), hw, if_pos (by omega), v2, hv, if_pos rfl, wrS q (by omega)]
      · unfold haulagelaw23_RouteOwn.b26
        rw [if_neg (by omega)]
    refine (bind_eq A).trans ?_
    unfold haulagelaw23_RouteOwn.j25
    refine (bind_eq Bq).trans ?_
    show haulagelaw23_RouteOwn.j27 (i : Int) = _
    unfold haulagelaw23_RouteOwn.j27
    rw [wrS i (by omega)]
  · unfold haulagelaw23_RouteOwn.b28
    rw [if_neg (by omega)]
theorem RouteOwn_true (hk : Fuel k) (hl : a3.length < 1000000000) (r7 : -9223372036854775808 ≤ a7 ∧ a7 ≤ 9223372036854775807) : haulagelaw23_RouteOwn.f k a1 a2 a3 a7 a8 = some true := by
  have h24 : 1099511627776 ≤ k := hk
  unfold haulagelaw23_RouteOwn.f
  rw [bind_eq (known_true hk), if_pos rfl]
  by_cases c : a1 < 1 ∨ 8 < a1 ∨ a2 < 1 ∨ 64 < a2
  · rw [bind_eq (new_no c), bind_eq (num_eq _), if_neg (by simp)]; rfl
  · have s0 : 1 ≤ a1 := by omega
    have s1 : a1 ≤ 8 := by omega
    have h0 : 1 ≤ a2 := by omega
    have h1 : a2 ≤ 64 := by omega
    rw [bind_eq (new_eq s0 s1 h0 h1), bind_eq (num_eq _), if_pos rfl]
    obtain ⟨r, e, h⟩ := own_script (a3 := a3) hk s0 s1 h0 h1 hl
    rw [bind_eq e]
    have t1 := h.le a7
    have t2 := at_le h.g a8
    unfold haulagelaw23_RouteOwn.j4
    rw [bind_eq (trail_eq r7.1 r7.2), bind_eq (trail_eq r7.1 r7.2), bind_eq (at_eq _ a8), bind_eq (at_eq _ a8), bind_eq (own_was hk (by omega) (by omega) t2 t2)]
    unfold haulagelaw23_RouteOwn.j6
    obtain ⟨b1, r1, e1, g1⟩ := h.hint a7 a8 (by omega)
    obtain ⟨b2, r2, e2, g2⟩ := g1.hint a7 0 (by omega)
    obtain ⟨b3, r3, e3, g3⟩ := g2.fine a7 a8 (by omega)
    have t3 := g3.le a7
    have t4 := at_le g3.g a8
    obtain ⟨x0, hx0⟩ : ∃ x, x = r.s.tr a7 := ⟨_, rfl⟩
    obtain ⟨x2, hx2⟩ : ∃ x, x = atV r.s a8 := ⟨_, rfl⟩
    obtain ⟨x4, hx4⟩ : ∃ x, x = r3.s.tr a7 := ⟨_, rfl⟩
    obtain ⟨x5, hx5⟩ : ∃ x, x = atV r3.s a8 := ⟨_, rfl⟩
    rw [bind_eq e1, bind_eq e2, bind_eq e3, bind_eq (trail_eq r7.1 r7.2), bind_eq (at_eq _ a8), ← hx0, ← hx2, ← hx4, ← hx5]
    rw [← hx0] at t1
    rw [← hx2] at t2
    rw [← hx4] at t3
    rw [← hx5] at t4
    have hb : ∀ i : Nat, i < 6 → (rd [x0, x0, x2, x2, x4, x5] (i : Int)).length ≤ 64 := by
      intro i hi
      rcases rd6 i hi with rfl | rfl | rfl | rfl | rfl | rfl
      · exact Nat.le_trans t1 (by omega)
      · exact Nat.le_trans t1 (by omega)
      · exact t2
      · exact t2
      · exact Nat.le_trans t3 (by omega)
      · exact t4
    have c4 : rd ([x0, x0, x2, x2] ++ [x4, x5]) 4 = x4 := rfl
    have c5 : rd ([x0, x0, x2, x2] ++ [x4, x5]) 5 = x5 := rfl
    rw [if_pos (by simp), if_pos (by simp), if_pos (by simp), c4, c5, if_pos (by omega), if_pos (by omega), if_pos (by simp)]
    unfold haulagelaw23_RouteOwn.j7
    refine (bind_eq (own_same hk _ rfl rfl rfl hb)).trans ?_
    show haulagelaw23_RouteOwn.j10 k a7 a8 x0 x0 x2 x2 [x0, x0, x2, x2] (b3, some r3) x4 x5 = _
    unfold haulagelaw23_RouteOwn.j10
    refine (bind_eq (own_fill hk (L := [x0, x0, x2, x2] ++ [x4, x5]) rfl hb)).trans ?_
    unfold haulagelaw23_RouteOwn.j16
    have hb2 : ∀ i : Nat, i < 6 → (rd (oaM vA ([x0, x0, x2, x2] ++ [x4, x5])) (i : Int)).length ≤ 64 := by
      intro i hi
      rw [oaM_rd vA (by simpa using hi)]
      simp only [List.length_map, List.length_range]
      exact hb i hi
    refine (bind_eq (own_grow hk (by rw [oaM_len]; rfl) hb2)).trans ?_
    unfold haulagelaw23_RouteOwn.j22
    refine (bind_eq (own_look hk (L := [x0, x0, x2, x2] ++ [x4, x5]) rfl hb)).trans ?_
    show haulagelaw23_RouteOwn.j29 k a7 a8 x0 x0 x2 x2 [x0, x0, x2, x2] (b3, some r3) x4 x5 = _
    unfold haulagelaw23_RouteOwn.j29
    rw [if_pos (by simp), bind_eq (trail_eq r7.1 r7.2), c4, c5]
    have d4 : rd ([x0, x0, x2, x2] ++ [x4, x5]) 4 = x4 := rfl
    have d5 : rd ([x0, x0, x2, x2] ++ [x4, x5]) 5 = x5 := rfl
    rw [d4, d5, bind_eq (ints_eq hk _ _ (.inr (by omega))), ← hx4, if_pos (by simp), if_pos (by simp), bind_eq (at_eq _ a8), bind_eq (ints_eq hk _ _ (.inr (by omega))), ← hx5]
    simp
end
end Go.Proofs.Ytohljkjaggcapaa.G
/- The row of 'RouteOwn' (its '..UptoSaid'): whatever the input of bulk at most 1048576, the law returns true and the input reads as it did. -/
namespace Go.Proofs.Ytohljkjaggcapaa.routeOwn
open Go.ChangeShapes Go.WideShapes Go.ChangeAt Go.RowKit
set_option linter.unusedVariables false
set_option maxRecDepth 100000 in
theorem contract (H : Type) (enc : TypeId × Value → H) (W : World) (base : Nat) (args : Array Value) (ds gs : List (DataW H)) (before : List MemPlace)
    (hval : ∀ (j : Nat) t v, Try.f5.params[j]? = some t → args[j]? = some v → Value.okWide Try.prog W .any base t v)
    (hW : DataW.Whole enc Try.prog Try.f5.params.toList Rows.routeOwnSpec.vars false W args.toList ds gs before) (hk : Rows.uptoSmall H (ds ++ gs) = true) :
    Calls Try.prog 5 args W fun e W' => ∃ v, e = .returned v ∧ Rows.routeOwnSpec.post enc Try.prog Try.f5 false true false false W args v W' := by
  have hW' := hW
  obtain ⟨p, q, hA0, hV, rfl, hfz, hnd⟩ := hW
  have hA : DataW.TrodAll enc Try.prog W 0 (fun _ => true) true Try.f5.params.toList args.toList ds p := hA0
  rw [Try.params5] at hA hval
  obtain ⟨v0, vs0, d0, ds0, p0, q0, hargs, rfl, rfl, h0, r0⟩ := trodAll_cons hA
  obtain ⟨v1, vs1, d1, ds1, p1, q1, rfl, rfl, rfl, h1, r1⟩ := trodAll_cons r0
  obtain ⟨v2, vs2, d2, ds2, p2, q2, rfl, rfl, rfl, h2, r2⟩ := trodAll_cons r1
  obtain ⟨v3, vs3, d3, ds3, p3, q3, rfl, rfl, rfl, h3, r3⟩ := trodAll_cons r2
  obtain ⟨v4, vs4, d4, ds4, p4, q4, rfl, rfl, rfl, h4, r4⟩ := trodAll_cons r3
  obtain ⟨rfl, rfl, rfl⟩ := trodAll_nil r4
  obtain rfl : args = #[v0, v1, v2, v3, v4] := by cases args; simp_all
  obtain ⟨rfl, rfl⟩ := trodVars_none hV
  obtain ⟨a0, rfl, rfl, rfl, w0⟩ := open_int Try.underlying3 (hval 0 3 v0 rfl rfl) h0
  obtain ⟨a1, rfl, rfl, rfl, w1⟩ := open_int Try.underlying3 (hval 1 3 v1 rfl rfl) h1
  have k2 := h2
  have lt2 : ∀ x ∈ p2, x.block < W.heap.size := by obtain ⟨m, hm⟩ := k2; exact DataW.trod_lt m _ _ _ hm
  obtain ⟨A2, C2, a2, rfl, s2, b2, o2⟩ := G.arg_ops (okWide_slice Try.underlying38 (hval 2 38 v2 rfl rfl)) h2
  have l2 := G.opsum_len a2
  obtain ⟨a3, rfl, rfl, rfl, w3⟩ := open_int Try.underlying3 (hval 3 3 v3 rfl rfl) h3
  obtain ⟨a4, rfl, rfl, rfl, w4⟩ := open_int Try.underlying3 (hval 4 3 v4 rfl rfl) h4
  have hb : Rows.uptoBulkAll [(DataW.lit (H := H) (.int .i64 a0)), (DataW.lit (H := H) (.int .i64 a1)), d2, (DataW.lit (H := H) (.int .i64 a3)), (DataW.lit (H := H) (.int .i64 a4))] ≤ 1048576 := of_decide_eq_true hk
  simp only [Rows.uptoBulkAll] at hb
  refine (G.haulagelaw23_RouteOwn.calls 1099511627776 (m := 1) (c0 := G.c0) (w0 := W) (Nat.lt_succ_self 0) (fun _ _ => Nat.lt_succ_self 0) s2 true (G.RouteOwn_true (k := 1099511627776) (Nat.le_refl _) (a1 := a0) (a2 := a1) (a3 := a2) (a7 := a3) (a8 := a4) (by omega) (G.intok.range w3))).mono fun e W' ⟨c_, he, ev_, _⟩ => ?_
  subst he
  have bel : Below W.heap.size W W' := G.Ev.below ev_
  exact ⟨_, rfl, _, _, _, [], _, [], hW', trodAll_mk1 (shut_bool Try.underlying4 _), (trodAll_cons_mk (shut_int Try.underlying3 w0) (trodAll_cons_mk (shut_int Try.underlying3 w1) (trodAll_cons_mk (Below.trod G.row_laidOut (by kernel_rfl) (of_decide_eq_true (by kernel_rfl)) k2 bel lt2) (trodAll_cons_mk (shut_int Try.underlying3 w3) (trodAll_cons_mk (shut_int Try.underlying3 w4) trodAll_mk0))))), rfl, bel.frame _, fun h => by cases h⟩
set_option maxRecDepth 100000 in
theorem lifted (os : Os) (started : os.Started) (H : Type) (enc : TypeId × Value → H) (F : Stop.Interp) :
    ReturnsInHanded {} Try.checked os 5 .any ((Rows.OpenSpec.upto Rows.routeOwnSpec).pre6 enc Try.prog Try.f5 Rows.routeOwnUptoRow.domain false) (((Rows.OpenSpec.upto Rows.routeOwnSpec).at F).post enc Try.prog Try.f5 false true false false) := by
  refine returnsInHanded_of_cond (C := Try.checked) (s := Rows.OpenSpec.upto Rows.routeOwnSpec) (k := Rows.uptoSmall) rfl G.row_own started (by kernel_rfl) Try.func5
    (OpenSpec.witness (enc := enc) (C := Try.checked) (s := Rows.OpenSpec.upto Rows.routeOwnSpec) (k := Rows.uptoSmall) rfl false ⟨#[], #[.int .i64 0, .int .i64 0, .slice none 0 0, .int .i64 0, .int .i64 0], []⟩ 8 (by kernel_rfl) (by kernel_rfl) (by kernel_rfl)
      (x := ([.lit (.int .i64 0), .lit (.int .i64 0), .nil, .lit (.int .i64 0), .lit (.int .i64 0)], [], [])) (by kernel_rfl) rfl (by kernel_rfl)) ?_
  intro W base args ds gs before hval hW _ hk _
  exact contract H enc W base args ds gs before hval hW hk
theorem over : Rows.routeOwnUptoRow.holds Try.pinned (Rows.OpenSpec.upto Rows.routeOwnSpec) :=
  OpenClaim.holds_of_cond 5 Try.f5 rfl rfl rfl rfl rfl rfl rfl ⟨rfl, rfl, rfl, rfl, rfl⟩ rfl rfl rfl rfl rfl (by kernel_rfl) Try.func5 (by kernel_rfl)
    (of_decide_eq_true (by kernel_rfl)) (by unfold Func.isWrapper; first | (rw [if_pos (by decide +kernel)]; kernel_rfl) | (rw [if_neg (by decide +kernel)]; exact ⟨rfl, rfl⟩))
    (fun os started H enc _ F => lifted os started H enc F)
theorem proved : Rows.RouteOwnUptoSaid := over
end Go.Proofs.Ytohljkjaggcapaa.routeOwn
namespace Go.Proofs.Ytohljkjaggcapaa
/-- The row, under a short name, for the claim. -/
theorem routeOwn_holds : Rows.RouteOwnUptoSaid := routeOwn.proved
end Go.Proofs.Ytohljkjaggcapaa
