/- Words and laws on which the row of 'BagScript' hangs (its '..UptoSaid': bulk at most 1048576). -/
import Derived.Test.YtdlokohmdnkdoaaHBagScriptA
import Derived.Shelf.SlSortCmp.NoneTotal
import Derived.WalkSpells
namespace Go.Proofs.Ytdlokohmdnkdoaa.G
open Go Go.RowKit
open Go.Maps (Keyed IsMap Tidy)
set_option linter.unusedVariables false
set_option linter.unusedSimpArgs false
section
variable {β : Type} {q : IntKind} {K : TypeId} {mk : List Value → Value} {P : Program} {j jr i : Nat} {c : Nat → Nat} {w : World} {o : MkV β} {b r : Nat} {ks : List Int} {cnt : Nat}
def MR (q : IntKind) (K : TypeId) (e : Go.Proofs.Ytdlokohmdnkdoaa.G.K β) (mk : List Value → Value) (P : Program) (j jr i : Nat) (c : Nat → Nat) (w : World) (b r : Nat) (o : MkV β) (ks : List Int) (cnt : Nat) : Prop :=
 c b = j ∧ c r = jr ∧ ∃ (D0 : DataW Value) (left : Lit → Bool), w.ranges P K heldElem b r o.n D0 left cnt ∧ (∀ k, MKat e mk i c w D0 (.int q k) (o.f k)) ∧ (Maps.size D0 : Int) = o.len ∧ ks.Nodup ∧ (∀ x, x ∈ ks ↔ ((o.f x).isSome = true ∧ left (.int q x) = false)) ∧ (∀ kl, left kl = true → Maps.has D0 kl = true) ∧ ks.length + cnt ≤ Maps.size D0
theorem MKat.ev {M : Nat → Prop} {c' : Nat → Nat} {w' : World} {e : Go.Proofs.Ytdlokohmdnkdoaa.G.K β} {D0 : DataW Value} {kl : Lit} {x : Option β} (h : MKat e mk i c w D0 kl x) (E : Ev M c w c' w') (hi : ¬ M i) : MKat e mk i c' w' D0 kl x := by
 cases x with
 | none => exact h
 | some x => obtain ⟨h1, cs, h2, h3⟩ := h; exact ⟨h1, cs, h2, e.ev h3 E hi⟩
theorem ranges_ev {M : Nat → Prop} {c' : Nat → Nat} {w' : World} {R : Value → Option (DataW Value × List MemPlace)} {n : Nat} {D0 : DataW Value} {left : Lit → Bool} (h : w.ranges P K R b r n D0 left cnt) (E : Ev M c w c' w') (hb : ¬ M (c b)) (hr : ¬ M (c r)) : w'.ranges P K R b r n D0 left cnt := by
 have h1 := h.owns.lt
 have h2 := h.lt
 obtain ⟨es, clock, since, seen, c0, q1, q2, q3, q4, q5, rest⟩ := h
 exact ⟨es, clock, since, seen, c0, (E.blk b h1 hb).trans q1, q2, q3, q4, (E.blk r h2 hr).trans q5, rest⟩
theorem MR.ev {M : Nat → Prop} {c' : Nat → Nat} {w' : World} {e : Go.Proofs.Ytdlokohmdnkdoaa.G.K β} (h : MR q K e mk P j jr i c w b r o ks cnt) (E : Ev M c w c' w') (hj : ¬ M j) (hjr : ¬ M jr) (hi : ¬ M i) : MR q K e mk P j jr i c' w' b r o ks cnt := by
 obtain ⟨h1, h2, D0, left, hrg, hk, hs, hn, hm, hh, hc⟩ := h
 exact ⟨(E.col _ hrg.owns.lt (by rw [h1]; exact hj)).trans h1, (E.col _ hrg.lt (by rw [h2]; exact hjr)).trans h2, D0, left, ranges_ev hrg E (by rw [h1]; exact hj) (by rw [h2]; exact hjr), fun k => (hk k).ev E hi, hs, hn, hm, hh, hc⟩
theorem MKat.has {e : Go.Proofs.Ytdlokohmdnkdoaa.G.K β} {D0 : DataW Value} {kl : Lit} {x : Option β} (h : MKat e mk i c w D0 kl x) : Maps.has D0 kl = x.isSome := by
 cases x with
 | none => exact h
 | some x => exact h.1
end
section
variable {β : Type} {q : IntKind} {K : TypeId} {e : Go.Proofs.Ytdlokohmdnkdoaa.G.K β} {mk : List Value → Value} {P : Program} {a : Act} {N : Nat} {L : List (Nat × Value)} {D : List Deferred} {w w' : World} {v u : Value} {x y m : Operand} {d : Option Tmp} {t et ty : TypeId} {pos : String} {af : Array Edge} {gd : Option (Nat × Bool)} {c : Nat → Nat} {j jr i : Nat} {p : Option Addr} {o : MkV β}
theorem q_nextK {ops : Array Oper} {rest : List Oper} {K0 : Act → World → Prop} {dd : Nat} {it : Operand} {b r cnt : Nat} {ks : List Int} (F : Fr a N L D) (hN : dd < N) (hk : P.underlying K = some (.int q)) (hx : ev L it = some (.pointer (some ⟨r, 0, none⟩))) (h : MR q K e mk P j jr i c w b r o ks cnt) (hij : i ≠ jr) (hjj : j ≠ jr)
  (done : (∀ x, x ∈ ks ↔ (o.f x).isSome = true) → ks.Nodup → (ks.length : Int) ≤ o.len → ∀ a', Fr a' N ((dd, .tuple #[.bool false]) :: L) D → wL P ops K0 rest a' w)
  (more : ∀ (x : Int) (y : β) (cs : List Value) w' cnt' a', o.f x = some y → x ∉ ks → MR q K e mk P j jr i c w' b r o (ks ++ [x]) cnt' → cnt' < cnt → Ev (fun z => z = jr) c w c w' → w'.heap.size = w.heap.size → e.rep i c w' cs y → (Lit.int q x).wf = true →
   (Instr.entry (.pointer (some ⟨r, 0, none⟩))).run P w' = .ok (.tuple #[.int q x, mk cs]) w' → Fr a' N ((dd, .tuple #[.bool true, .int q x, mk cs]) :: L) D → wL P ops K0 rest a' w') :
  wL P ops K0 ({ dst := some dd, op := .next it false, type := ty, pos := pos, after := af, guard := none } :: rest) a w := by
 obtain ⟨h1, h2, D0, left, hrg, hat, hs, hn, hm, hh, hc⟩ := h
 rcases hrg.next (Maps.int_keyed hk) ty with ⟨h0, hl, hrun⟩ | ⟨key, v, kl, y, w', cnt', hkey, hlk, hv, hat1, hrun, hrg1, hlt, hgr, hsz, hen⟩
 ·refine q_val F rfl rfl hN (by simp [execOp, F.ev hx, hrun, Result.andThen]) fun a' F' => done (fun x => ⟨fun h => ((hm x).1 h).1, fun h => (hm x).2 ⟨h, hl _⟩⟩) hn (by omega) a' F'
 ·obtain ⟨x, rfl, rfl, hwf⟩ := Maps.keyOf_int_inv hk hkey
  have hy : y = (.held v, []) := by simp only [heldElem, Option.some.injEq] at hv; exact hv.symm
  subst hy
  have E : Ev (fun z => z = jr) c w c w' := ⟨hgr.os, hgr.tape, hgr.output, hgr.size, fun _ _ _ => rfl, fun k hk hm => hgr.block k hk (fun e => hm (by injection e with e; rw [e]; exact h2))⟩
  have hx1 := hat x
  have hsome := hx1.has
  rw [hh _ hlk] at hsome
  obtain ⟨y, hy⟩ := Option.isSome_iff_exists.1 hsome.symm
  rw [hy] at hx1
  obtain ⟨g1, cs, g2, g3⟩ := hx1
  have hve : v = mk cs := by
   have h3 := hat1 (.held undef)
   rw [g2] at h3
   injection h3 with h3
   exact h3.symm
  subst hve
  have hleft : ∀ y, (left (.int q y) && !(Lit.int q y).sameKey (.int q x)) = false ↔ left (.int q y) = false ∨ y = x := fun y => by
   by_cases e : y = x
   ·subst e
    rw [WideAt.sameKey_self (show WideAt.IsKeyLit (.int q y) from trivial)]
    simp
   ·have : (Lit.int q y).sameKey (.int q x) = false := by
     cases hs : (Lit.int q y).sameKey (.int q x)
     ·rfl
     ·have := WideAt.sameKey_eq hs; injection this with _ h; exact absurd h e
    rw [this]; simp [e]
  have hnx : x ∉ ks := fun hx => by have := ((hm x).1 hx).2; rw [hlk] at this; cases this
  refine q_val F rfl rfl hN (by simp [execOp, F.ev hx, hrun, Result.andThen]) fun a' F' => more x y cs w' cnt' a' hy hnx ⟨h1, h2, D0, _, hrg1, fun k => (hat k).ev E hij, hs, ?_, fun z => ?_, fun kl h => hh kl (by simp only [Bool.and_eq_true] at h; exact h.1), ?_⟩ hlt E hsz (e.ev g3 E hij) hwf hen F'
  ·refine List.nodup_append.2 ⟨hn, by simp, fun y h1 z h2 e => ?_⟩
   simp only [List.mem_singleton] at h2
   subst h2; subst e
   exact hnx h1
  ·rw [List.mem_append, hm, List.mem_singleton, hleft]
   constructor
   ·rintro (⟨h1, h2⟩ | rfl)
    ·exact ⟨h1, .inl h2⟩
    ·exact ⟨by rw [hy]; rfl, .inr rfl⟩
   ·rintro ⟨h1, h2 | h2⟩
    ·exact .inl ⟨h1, h2⟩
    ·exact .inr h2
  ·simp only [List.length_append, List.length_cons, List.length_nil]; omega
theorem r_entry (F : Fr a N L D) (hx : ev L x = some u) (hrun : (Instr.entry u).run P w = .ok v w) : (execOp a.eval { dst := d, op := .entry x, type := ty, pos := pos, after := af, guard := gd }).run P w = .ok (.value v) w := by
 simp [execOp, F.ev hx, hrun, Result.andThen]
end
theorem mem_keys {β : Type} (o : MkV β) (n x : Int) : x ∈ o.keys n ↔ (0 ≤ x ∧ x < n) ∧ (o.f x).isSome = true := by
 unfold MkV.keys
 rw [List.mem_filter, List.mem_map]
 constructor
 ·rintro ⟨⟨i, hi, rfl⟩, h⟩
  exact ⟨by have := List.mem_range.1 hi; omega, h⟩
 ·rintro ⟨h, h2⟩
  exact ⟨⟨x.toNat, List.mem_range.2 (by omega), by omega⟩, h2⟩
theorem keys_rise {β : Type} (o : MkV β) (n : Int) : (o.keys n).Pairwise (· < ·) := by
 unfold MkV.keys
 refine List.Pairwise.filter _ ?_
 rw [List.pairwise_map]
 exact List.pairwise_lt_range.imp (fun h => by omega)
theorem sub_perm {α : Type} [DecidableEq α] : ∀ {l m : List α}, l.Nodup → (∀ x ∈ l, x ∈ m) → m.length ≤ l.length → l.Perm m
 | [], m, _, _, h => by
  have e : m = [] := List.eq_nil_of_length_eq_zero (by simpa using h)
  subst e; exact List.Perm.refl _
 | x :: l, m, hn, hs, hl => by
  obtain ⟨h1, h2⟩ := List.nodup_cons.1 hn
  have hx := hs x (by simp)
  have hp := List.perm_cons_erase hx
  have hlen : (m.erase x).length = m.length - 1 := List.length_erase_of_mem hx
  refine (List.Perm.cons x (sub_perm h2 (fun y hy => ?_) (by simp at hl; omega))).trans hp.symm
  have hy' := hs y (by simp [hy])
  exact (List.mem_erase_of_ne (fun e => h1 (by rw [← e]; exact hy))).2 hy'
theorem rising_nodup : ∀ {l : List Int}, l.Pairwise (· < ·) → l.Nodup := fun h => h.imp fun h => by omega
theorem keys_perm {β : Type} {o : MkV β} {n : Int} {ks : List Int} (hm : ∀ x, x ∈ ks ↔ (o.f x).isSome = true) (hl : (ks.length : Int) ≤ o.len) (hk : ((o.keys n).length : Int) = o.len) : (o.keys n).Perm ks :=
 sub_perm (rising_nodup (keys_rise o n)) (fun x hx => (hm x).2 ((mem_keys o n x).1 hx).2) (by omega)
theorem perm_rising : ∀ {l m : List Int}, l.Pairwise (· < ·) → m.Pairwise (· < ·) → l.Perm m → l = m
 | [], m, _, _, h => (List.nil_perm.1 h).symm
 | x :: l, [], _, _, h => by have := h.length_eq; simp at this
 | x :: l, y :: m, hl, hm, h => by
  obtain ⟨h1, h2⟩ := List.pairwise_cons.1 hl
  obtain ⟨h3, h4⟩ := List.pairwise_cons.1 hm
  have hxy : x = y := by
   rcases List.mem_cons.1 (h.mem_iff.1 (show x ∈ x :: l by simp)) with e | e
   ·exact e
   ·rcases List.mem_cons.1 (h.mem_iff.2 (show y ∈ y :: m by simp)) with e2 | e2
    ·exact e2.symm
    ·have := h3 x e; have := h1 y e2; omega
  subst hxy
  rw [perm_rising h2 h4 (List.perm_cons x |>.1 h)]
theorem nodup_sub_length {α : Type} [DecidableEq α] : ∀ {l m : List α}, l.Nodup → (∀ x ∈ l, x ∈ m) → l.length ≤ m.length
 | [], m, _, _ => Nat.zero_le _
 | x :: l, m, hn, hs => by
  obtain ⟨h1, h2⟩ := List.nodup_cons.1 hn
  have hx := hs x (by simp)
  have hlen : (m.erase x).length = m.length - 1 := List.length_erase_of_mem hx
  have hpos : 0 < m.length := List.length_pos_of_mem hx
  have := nodup_sub_length (m := m.erase x) h2 (fun y hy => (List.mem_erase_of_ne (fun e => h1 (by rw [← e]; exact hy))).2 (hs y (by simp [hy])))
  simp only [List.length_cons]; omega
def litInt : Lit → Option Int
 | .int _ n => some n
 | _ => none
theorem has_count {D : DataW Value} {q : IntKind} {ks : List Int} (hn : ks.Nodup) (h : ∀ k ∈ ks, Maps.has D (.int q k) = true) : ks.length ≤ Maps.size D := by
 cases D with
 | map es =>
  rw [Maps.size_eq]
  refine Nat.le_trans (nodup_sub_length (m := es.filterMap fun p => litInt p.1) hn fun k hk => ?_) (List.length_filterMap_le _ _)
  have := h k hk
  rw [Maps.has_eq, List.any_eq_true] at this
  obtain ⟨p, hp, hs⟩ := this
  exact List.mem_filterMap.2 ⟨p, hp, by rw [WideAt.sameKey_eq hs]; rfl⟩
 | _ => cases ks with
  | nil => exact Nat.zero_le _
  | cons k ks => have := h k (by simp); cases this
theorem MK.count {β : Type} {q : IntKind} {K : TypeId} {e : Go.Proofs.Ytdlokohmdnkdoaa.G.K β} {mk : List Value → Value} {P : Program} {j i : Nat} {c : Nat → Nat} {w : World} {p : Option Addr} {o : MkV β} (h : MK q K e mk P j i c w p o) {l : List Int} (hn : l.Nodup) (hs : ∀ k ∈ l, (o.f k).isSome = true) : (l.length : Int) ≤ o.len := by
 obtain ⟨a0, rfl, hc, D0, hD, hsz, hat⟩ := h
 have := has_count (D := D0) (q := q) hn fun k hk => by rw [(hat k).has]; exact hs k hk
 omega
theorem MK.told {β : Type} {q : IntKind} {K : TypeId} {e : Go.Proofs.Ytdlokohmdnkdoaa.G.K β} {mk : List Value → Value} {P : Program} {j i : Nat} {c : Nat → Nat} {w : World} {p : Option Addr} {o : MkV β} (h : MK q K e mk P j i c w p o) {n : Int} (hk : ((o.keys n).length : Int) = o.len) {x : Int} (hx : (o.f x).isSome = true) : x ∈ o.keys n := by
 refine Classical.byContradiction fun hc => ?_
 have := h.count (l := x :: o.keys n) (List.nodup_cons.2 ⟨hc, rising_nodup (keys_rise o n)⟩) fun k hk => by
  rcases List.mem_cons.1 hk with e | e
  ·rw [e]; exact hx
  ·exact ((mem_keys o n k).1 e).2
 simp only [List.length_cons] at this
 omega
section
variable {β : Type} {q : IntKind} {K : TypeId} {e : KO β} {mk : List Value → Value} {P : Program} {i jr : Nat} {c c' : Nat → Nat} {w w' : World} {o : MkV β} {b r : Nat} {ks : List Int} {cnt : Nat} {M : Nat → Prop}
def MR1 (q : IntKind) (K : TypeId) (e : KO β) (mk : List Value → Value) (P : Program) (i jr : Nat) (c : Nat → Nat) (w : World) (b r : Nat) (o : MkV β) (ks : List Int) (cnt : Nat) : Prop :=
 0 < i ∧ ∃ (d : Nat → Nat) (ro : MkV (List Value)) (css : List (List Value)) (xs : List β) (ix : Int → Nat), MR q K (Kraw e.sz e.pos) mk P 1 (2 * jr) 0 (sub c d i) w b r ro ks cnt ∧ GR e 3 (sub c d i) w css xs ∧ MLink o ro css xs ix
theorem MR1.ev (h : MR1 q K e mk P i jr c w b r o ks cnt) (E : Ev M c w c' w') (hi : ¬ M i) (hjr : ¬ M jr) (h0 : ¬ M 0) : MR1 q K e mk P i jr c' w' b r o ks cnt := by
 obtain ⟨h1, d, ro, css, xs, ix, h2, h3, h4⟩ := h
 have E' := sub_ev (d := d) E hi
 refine ⟨h1, d, ro, css, xs, ix, h2.ev E' (fun hm => by omega) (fun hm => hjr ?_) (fun hm => h0 hm.2), GRh.ev h3 E' (fun hm => by omega) (fun hm => h0 hm.2), h4⟩
 have := hm.2
 rwa [Nat.mul_div_cancel_left _ (by decide)] at this
theorem MLink.some_iff {ro : MkV (List Value)} {css : List (List Value)} {xs : List β} {ix : Int → Nat} (h : MLink o ro css xs ix) (hl : css.length = xs.length) (k : Int) : (ro.f k).isSome = (o.f k).isSome := by
 cases ho : o.f k with
 | none => rw [h.no k ho]; rfl
 | some x =>
  obtain ⟨a1, a2, _⟩ := h.at_ k x ho
  rw [a2, List.getElem?_eq_getElem (by omega)]; rfl
theorem MR1.bound (h : MR1 q K e mk P i jr c w b r o ks cnt) : (ks.length : Int) ≤ o.len := by
 obtain ⟨h1, d, ro, css, xs, ix, h2, h3, h4⟩ := h
 obtain ⟨_, _, D0, left, _, _, hs, _, _, _, hc⟩ := h2
 rw [← h4.len]; omega
theorem MO1.told {p : Option Addr} (h : MO1 q K e mk P i c w p o) {n : Int} (hk : ((o.keys n).length : Int) = o.len) {x : Int} (hx : (o.f x).isSome = true) : x ∈ o.keys n := by
 obtain ⟨hi, d, ro, css, xs, ix, h1, h2, h3⟩ := h
 have hs := h3.some_iff h2.2.1
 have hkk : ro.keys n = o.keys n := by unfold MkV.keys; exact List.filter_congr fun z _ => hs z
 rw [← hkk]
 exact MK.told h1 (by rw [hkk, h3.len]; exact hk) (by rw [hs]; exact hx)
end
section
variable {β : Type} {q : IntKind} {K : TypeId} {e : KO β} {mk : List Value → Value} {P : Program} {a : Act} {N : Nat} {L : List (Nat × Value)} {D : List Deferred} {w w' : World} {v u : Value} {x y m : Operand} {d : Option Tmp} {t et ty : TypeId} {pos : String} {af : Array Edge} {gd : Option (Nat × Bool)} {c : Nat → Nat} {i : Nat} {p : Option Addr} {o : MkV β}
theorem e_range1 (F : Fr a N L D) (hk : P.underlying K = some (.int q)) (ht : P.underlying t = some (.map K et)) (hm : ev L x = some (.map (Option.map Addr.block p))) (h : MO1 q K e mk P i c w p o) (jr : Nat) (hji : jr ≠ i) :
  ∃ v w', (execOp a.eval { dst := d, op := .range t x, type := ty, pos := pos, after := af, guard := gd }).run P w = .ok (.value v) w' ∧
   ∃ c' b r cnt, v = .pointer (some ⟨r, 0, none⟩) ∧ Ev No c w c' w' ∧ MR1 q K e mk P i jr c' w' b r o [] cnt ∧ ∀ m, CB m c w → jr < m → CB m c' w' := by
 obtain ⟨hi, g, ro, css, xs, ix, h1, h2, h3⟩ := h
 obtain ⟨a0, rfl, hc, D0, hD, hs, hat⟩ := h1
 obtain ⟨w', hrun, hr, hg, hsz⟩ := hD.range (Maps.int_keyed hk) ht
 have hm' := F.ev hm
 simp only [Option.map_some] at hm'
 have E : ∀ (c : Nat → Nat) (x : Nat), Ev No c w (cset c w.heap.size x) w' := fun c x => ⟨hg.os, hg.tape, hg.output, hg.size, fun k hk _ => by unfold cset; rw [if_neg (by omega)], fun k hk _ => hg.block k hk (by simp)⟩
 have es : sub (cset c w.heap.size jr) g i = cset (sub c g i) w.heap.size (2 * jr) := by
  funext k
  unfold sub cset
  by_cases ck : k = w.heap.size
  ·rw [if_pos ck, if_pos ck, if_neg hji]
  ·rw [if_neg ck, if_neg ck]
 refine ⟨_, w', by simp [execOp, hm', hrun, Result.andThen], cset c w.heap.size jr, a0.block, w.heap.size, Maps.size D0, rfl, E c jr, ⟨hi, g, ro, css, xs, ix, ?_, ?_, h3⟩, fun m hm hj k hk => ?_⟩
 ·rw [es]
  exact ⟨((E _ _).col _ hD.lt (fun q => q)).trans hc, by unfold cset; rw [if_pos rfl], D0, Maps.has D0, hr, fun k => (hat k).ev (E _ _) (fun q => q), hs, List.nodup_nil, fun k => ⟨fun h => (by cases h), fun h => (by rw [(hat k).has, h.1] at h; cases h.2)⟩, fun kl h => h, by simp⟩
 ·rw [es]; exact GRh.ev h2 (E _ _) (fun q => q) (fun q => q)
 ·unfold cset
  split
  ·exact hj
  ·exact hm k (by omega)
theorem q_next1 {ops : Array Oper} {rest : List Oper} {K0 : Act → World → Prop} {dd : Nat} {it : Operand} {b r cnt jr : Nat} {ks : List Int} (F : Fr a N L D) (hN : dd < N) (hk : P.underlying K = some (.int q)) (hx : ev L it = some (.pointer (some ⟨r, 0, none⟩))) (h : MR1 q K e mk P i jr c w b r o ks cnt) (hj0 : jr ≠ 0) (hji : jr ≠ i)
  (done : (∀ x, x ∈ ks ↔ (o.f x).isSome = true) → ks.Nodup → (ks.length : Int) ≤ o.len → ∀ a', Fr a' N ((dd, .tuple #[.bool false]) :: L) D → wL P ops K0 rest a' w)
  (more : ∀ (x : Int) (y : β) (cs : List Value) w' cnt' a', o.f x = some y → x ∉ ks → MR1 q K e mk P i jr c w' b r o (ks ++ [x]) cnt' → cnt' < cnt → Ev (fun z => z = jr) c w c w' → w'.heap.size = w.heap.size → e.rep (fun _ => i) c w' cs y → (Lit.int q x).wf = true →
   (Instr.entry (.pointer (some ⟨r, 0, none⟩))).run P w' = .ok (.tuple #[.int q x, mk cs]) w' → Fr a' N ((dd, .tuple #[.bool true, .int q x, mk cs]) :: L) D → wL P ops K0 rest a' w') :
  wL P ops K0 ({ dst := some dd, op := .next it false, type := ty, pos := pos, after := af, guard := none } :: rest) a w := by
 obtain ⟨hi, g, ro, css, xs, ix, h1, h2, h3⟩ := h
 have hs := h3.some_iff h2.2.1
 refine q_nextK F hN hk hx h1 (by omega) (by omega) (fun hm hn hl => done (fun x => (hm x).trans (by rw [hs])) hn (by rw [← h3.len]; exact hl)) ?_
 intro x y cs w' cnt' a' hxy hnx hM hlt E hsz hrep hwf hen F'
 obtain ⟨z, hz⟩ := Option.isSome_iff_exists.1 (show (o.f x).isSome = true by rw [← hs, hxy]; rfl)
 obtain ⟨a1, a2, a3⟩ := h3.at_ x z hz
 have hl := h2.2.1
 have h2' := GRh.ev h2 E (by omega) (by omega)
 have hcs : cs = css[ix x] := by
  have e1 : cs = y := hrep.1
  rw [hxy, List.getElem?_eq_getElem (by omega)] at a2
  rw [e1]; exact Option.some.inj a2
 have hxs : xs[ix x] = z := by rw [List.getElem?_eq_getElem a1] at a3; exact Option.some.inj a3
 have hr := GRh.read h2' a1 (by omega) (fun q => q)
 rw [hxs] at hr
 have E2 : Ev (fun z => z = jr) c w c w' := ⟨E.os, E.tape, E.out, E.size, fun _ _ _ => rfl, fun n hn hm => E.blk n hn (by unfold sub; split <;> omega)⟩
 refine more x z cs w' cnt' a' hz hnx ⟨hi, g, ro, css, xs, ix, hM, h2', h3⟩ hlt E2 hsz ?_ hwf hen F'
 rw [hcs]
 exact e.rc hr (fun q _ b hb => (sub_eq (n := 1) hb).1) (fun b hb => (sub_zero hb).1) (fun _ _ => hi)
end
theorem zip_perm {α β : Type} : ∀ {a b : List α}, a.Perm b → ∀ (xs : List β), a.length = xs.length → ∃ ys : List β, b.length = ys.length ∧ (a.zip xs).Perm (b.zip ys) := by
 intro a b h
 induction h with
 | nil => intro xs hx; exact ⟨[], rfl, by simp⟩
 | cons x _ ih =>
  intro xs hx
  cases xs with
  | nil => simp at hx
  | cons y xs =>
   obtain ⟨ys, h1, h2⟩ := ih xs (by simpa using hx)
   exact ⟨y :: ys, by simp [h1], by simpa using h2.cons (x, y)⟩
 | swap x y l =>
  intro xs hx
  match xs, hx with
  | u :: v :: xs, hx => exact ⟨v :: u :: xs, by simpa using hx, by simpa using List.Perm.swap (x, v) (y, u) (l.zip xs)⟩
  | [_], hx => simp at hx
  | [], hx => simp at hx
 | trans _ _ ih1 ih2 =>
  intro xs hx
  obtain ⟨ys, h1, h2⟩ := ih1 xs hx
  obtain ⟨zs, h3, h4⟩ := ih2 ys h1
  exact ⟨zs, h3, h2.trans h4⟩
end Go.Proofs.Ytdlokohmdnkdoaa.G
namespace Go.Proofs.Ytdlokohmdnkdoaa.G
open Go Go.RowKit Go.Shelf Go.Sort Go.Lib
set_option linter.unusedVariables false
set_option linter.unusedSimpArgs false
set_option maxRecDepth 100000 in
set_option maxHeartbeats 2000000 in
theorem closure (x y f1 f2 t1 t2 : Int) (v1 v2 : Value) (W : World) : Calls Try.prog 34 #[.agg #[.int .i64 x, .int .i64 f1, .int .i64 t1, v1], .agg #[.int .i64 y, .int .i64 f2, .int .i64 t2, v2]] W fun e w' => e = .returned (.int .i64 (IntKind.i64.wrap (x - y))) ∧ ∃ q os', w' = grow (W.drewN q) os' := by
 go_enter Try.func34, Try.ntmps34
 go_wp2
 go_ret
 refine ⟨by rw [Go.IntWalk.i64_left]; rfl, 0, #[.cells #[.int .i64 x, .int .i64 f1, .int .i64 t1, v1] 40, .cells #[.int .i64 y, .int .i64 f2, .int .i64 t2, v2] 40], ?_⟩
 rw [alloc_eq_grow, alloc_eq_grow, grow_grow]
 rfl
def lnum : List Value → Int
 | .int _ n :: _ => n
 | _ => 0
theorem sub_block {cs : List Value} {n sz : Nat} {q : Nat} (hq : q < sz) (u : List Value) (h : (cs.drop (n * sz)).take sz = u) : cs[n * sz + q]? = u[q]? := by
 rw [← h, List.getElem?_take_of_lt hq, List.getElem?_drop]
set_option maxHeartbeats 2000000 in
theorem sort_raw {m : Nat} {c0 : Nat → Nat} {w0 : World} {j1 : Nat} {A2 : Option Addr} {C3 : Nat} {xs : List (List Value)} (B0 : CB m c0 w0) (h4 : SL true (Kraw KO_api_Letter.sz KO_api_Letter.pos) j1 0 c0 w0 A2 C3 xs) (bj1 : 0 < j1 ∧ j1 < m) (hs : xs.length < 4611686018427387904) (hf : ∀ u ∈ xs, ∃ f t v, u = [.int .i64 (lnum u), .int .i64 f, .int .i64 t, v]) (hb : ∀ x ∈ xs, 0 ≤ lnum x ∧ lnum x ≤ 1099511627776) (hn : (xs.map lnum).Nodup) :
  Calls Try.prog 33 #[.slice A2 xs.length C3, .func (.func 34) #[] #[]] w0 (fun e w_ => ∃ (c_ : Nat → Nat) (ys : List (List Value)), e = .returned (.tuple #[]) ∧ Ev (fun x => x = j1) c0 w0 c_ w_ ∧ CB m c_ w_ ∧ SL true (Kraw KO_api_Letter.sz KO_api_Letter.pos) j1 0 c_ w_ A2 C3 ys ∧ ys.Perm xs ∧ (ys.map lnum).Pairwise (· < ·)) := by
 by_cases hnil : xs = []
 ·subst hnil
  refine (AnyF.slices_SortFunc_none Try.sortLetters A2 C3 _ w0).mono ?_
  rintro e w' ⟨rfl, rfl⟩
  exact ⟨c0, [], rfl, Ev.refl, B0, h4, List.Perm.refl _, by simp⟩
 obtain ⟨l, hl⟩ : ∃ l, xs.length = l + 1 := ⟨xs.length - 1, by have := List.length_pos_iff.2 hnil; omega⟩
 obtain ⟨cs, h2, h3, hcl, hrow, hr⟩ := h4
 have hcl : cs.length = C3 * 4 := hcl
 rcases hrow with rfl | ⟨p, rfl, hat⟩
 ·simp at hcl; omega
 let en : Fin (l + 1) → List Value := fun k => (cs.drop (k.val * 4)).take 4
 let at_ : Fin (l + 1) → List Value := fun k => xs.getD k.val default
 have hke : ∀ (k : Nat) (hk : k < xs.length), (cs.drop (k * 4)).take 4 = xs[k] := fun k hk => (hr k hk).1
 have hae : ∀ k : Fin (l + 1), at_ k = xs[k.val]'(by have := k.isLt; omega) := fun k => by
  have hk : k.val < xs.length := by have := k.isLt; omega
  show xs.getD k.val default = _
  rw [List.getD_eq_getElem?_getD, List.getElem?_eq_getElem hk]; rfl
 have hen : ∀ k : Fin (l + 1), en k = at_ k := fun k => by rw [hae]; exact hke _ _
 have hat_ : ∀ k : Fin (l + 1), ∃ f t v, en k = [.int .i64 (lnum (at_ k)), .int .i64 f, .int .i64 t, v] := fun k => by
  rw [hen]
  refine hf _ ?_
  rw [hae]; exact List.getElem_mem _
 have hin : ∀ k, 0 ≤ lnum (at_ k) ∧ lnum (at_ k) ≤ 1099511627776 := fun k => by
  have hk : k.val < xs.length := by have := k.isLt; omega
  refine hb _ ?_
  show xs.getD k.val default ∈ xs
  rw [List.getD_eq_getElem?_getD, List.getElem?_eq_getElem hk]
  exact List.getElem_mem _
 have hk4 : ∀ k, (en k).length = 4 := fun k => by obtain ⟨A1, C2, v, e⟩ := hat_ k; rw [e]; rfl
 have h1 : ∀ k, ∀ v ∈ en k, v.oneCell' = true := fun k v hv => by
  rw [hen, hae] at hv
  exact (hr k.val (by have := k.isLt; omega)).2.2 v hv
 let cf : Fin (l + 1) → Fin (l + 1) → Int := fun x y => IntKind.i64.wrap (lnum (at_ x) - lnum (at_ y))
 have hcf : ∀ x y, cf x y = lnum (at_ x) - lnum (at_ y) := fun x y => by
  show IntKind.i64.wrap _ = _
  have := hin x; have := hin y
  rw [IntKind.wrap_i64]; omega
 have hlt : ∀ x y, ltOf cf x y = decide (lnum (at_ x) < lnum (at_ y)) := fun x y => by
  unfold ltOf
  rw [hcf]
  congr 1
  exact propext ⟨fun h => by omega, fun h => by omega⟩
 have swo : SWO (ltOf cf) := {
  irrefl := fun x => by rw [hlt]; simp
  trans := fun x y z h1 h2 => by rw [hlt] at *; simp at *; omega
  ntrans := fun x y z h1 h2 => by rw [hlt] at *; simp at *; omega }
 have tot : ∀ x y, ltOf cf x y = false → ltOf cf y x = false → x = y := fun x y g1 g2 => by
  rw [hlt] at g1 g2
  simp at g1 g2
  have hx : x.val < xs.length := by have := x.isLt; omega
  have hy : y.val < xs.length := by have := y.isLt; omega
  have ex : at_ x = xs[x.val] := by show xs.getD x.val default = _; rw [List.getD_eq_getElem?_getD, List.getElem?_eq_getElem hx]; rfl
  have ey : at_ y = xs[y.val] := by show xs.getD y.val default = _; rw [List.getD_eq_getElem?_getD, List.getElem?_eq_getElem hy]; rfl
  rw [ex, ey] at g1 g2
  have e : (xs.map lnum)[x.val]'(by simpa using hx) = (xs.map lnum)[y.val]'(by simpa using hy) := by simp; omega
  exact Fin.ext ((List.getElem_inj hn).1 e)
 let d : Array (Fin (l + 1)) := (List.finRange (l + 1)).toArray
 have hd : d.size = l + 1 := by simp [d]
 have hdk : ∀ k (h : k < d.size), d[k]! = ⟨k, by omega⟩ := fun k h => by
  rw [getElem!_pos d k h]; simp [d]
 have hat' := hat
 obtain ⟨b, off, cur, ty, fz, rfl, hbk, hc, hcells, hfree⟩ := hat
 have hlt0 := lt_of_get hbk
 have hlen4 : xs.length * 4 ≤ cs.length := by rw [hcl]; exact Nat.mul_le_mul_right _ h2
 have flat : ∀ t, t < (l + 1) * 4 → (flatK en 4 d)[t]! = cs.getD t undef := fun t ht => by
  rw [get_flatK _ _ _ _ (by rw [hd]; exact ht), hdk _ (by rw [hd]; omega)]
  show ((cs.drop (t / 4 * 4)).take 4)[t % 4]! = _
  have e := sub_block (cs := cs) (n := t / 4) (sz := 4) (q := t % 4) (Nat.mod_lt _ (by decide)) _ rfl
  have e3 : t / 4 * 4 + t % 4 = t := Nat.div_add_mod' t 4
  rw [e3] at e
  rw [List.getD_eq_getElem?_getD, e, List.getElem?_eq_getElem (by simp; omega), getElem!_pos]
  rfl
 have hH : HoldsK en 4 w0 b off d := fun t ht => by
  have ht' : t < (l + 1) * 4 := by rw [size_flatK, hd] at ht; exact ht
  rw [flat t ht']
  refine ⟨?_, ?_⟩
  ·rw [← add_eq, hat'.cell (List.getElem?_eq_getElem (by omega))]
   rw [List.getD_eq_getElem?_getD, List.getElem?_eq_getElem (by omega)]
   rfl
  ·rw [← add_eq]; exact hat'.free (by omega)
 have eg : ∀ args w, (callFunc 34 args).run Try.prog w = .ok (.enter 34 args) w := enters_of Try.func34 (by kernel_rfl) rfl
 have hcmp : CmpLays Try.prog 34 #[] en 4 cf b off d.size w0 := fun mm os dk _ x y => by
  obtain ⟨A1, C1, v1, e1⟩ := hat_ x
  obtain ⟨A3, C4, v2, e2⟩ := hat_ y
  rw [e1, e2]
  exact closure (lnum (at_ x)) (lnum (at_ y)) _ _ _ _ _ _ _
 have hcall := AnyQ.slices_SortFunc_total Try.sortLetters 4 Try.isAgg40 Try.sizeOf40 en hk4 h1 cf swo 34 #[] b off C3 d w0 eg hcmp hH hlt0 (by rw [hd]; omega) tot
 rw [hl, ← hd]
 change Calls Try.prog 33 #[.slice (some ⟨b, off, none⟩) d.size C3, .func (.func 34) #[] #[]] w0 _ at hcall
 refine hcall.mono ?_
 rintro e w' ⟨rfl, n, os, rfl⟩
 generalize hσ : (d.toList.mergeSort fun x y => !ltOf cf y x) = σ
 have hperm : σ.Perm (List.finRange (l + 1)) := by rw [← hσ]; exact List.mergeSort_perm _ _
 have hsl : σ.length = l + 1 := by rw [hperm.length_eq]; simp
 have hfs : (flatK en 4 σ.toArray).size = (l + 1) * 4 := by rw [size_flatK]; simp [hsl]
 have old : ∀ k, k < w0.heap.size → b ≠ k → (sortWorldK en 4 w0 b off n σ.toArray os).heap[k]? = w0.heap[k]? := fun k hk hne => by
  unfold sortWorldK
  rw [heap_grow_old _ _ (by simpa [putRowK, putRow, mapBlock, Sort.ahead] using hk)]
  simp [putRowK, putRow, mapBlock, Sort.ahead, Array.getElem?_modify, hne]
 have new : (sortWorldK en 4 w0 b off n σ.toArray os).heap[b]? = some (.cells (putCells id off (flatK en 4 σ.toArray) cur) ty fz) := by
  unfold sortWorldK
  rw [heap_grow_old _ _ (by simpa [putRowK, putRow, mapBlock, Sort.ahead] using hlt0)]
  simp [putRowK, putRow, mapBlock, Sort.ahead, Array.getElem?_modify, hbk, onCells]
 have hE : Ev (fun x => x = j1) c0 w0 (fun k => if k < w0.heap.size then c0 k else j1) (sortWorldK en 4 w0 b off n σ.toArray os) := ⟨rfl, rfl, rfl, by simp [sortWorldK, grow, putRowK, putRow, mapBlock, Sort.ahead], fun k hk _ => if_pos hk, fun k hk hm => old k hk (fun q => hm (by rw [← q]; exact hc))⟩
 refine ⟨_, σ.map at_, rfl, hE, fun k _ => ?_, ?_, ?_, ?_⟩
 ·show (if k < w0.heap.size then c0 k else j1) < m
  split
  ·exact B0 k (by assumption)
  ·exact bj1.2
 ·have hcur : ∀ t, t < C3 * 4 → off + t < cur.size := fun t ht => by
   have := hcells t (by omega)
   rw [List.getElem?_eq_getElem (by omega)] at this
   exact (Array.getElem?_eq_some_iff.1 this).1
  refine ⟨(flatK en 4 σ.toArray).toList ++ cs.drop ((l + 1) * 4), by simp [hsl]; omega, h3, by simp only [List.length_append, Array.length_toList, hfs, List.length_drop]; show _ = C3 * 4; omega, .inr ⟨_, rfl, b, off, _, ty, fz, rfl, new, by show (if b < w0.heap.size then c0 b else j1) = j1; rw [if_pos hlt0]; exact hc, fun k hk => ?_, fun q k hk => hfree q k (by simp only [List.length_append, Array.length_toList, hfs, List.length_drop] at hk; omega)⟩, fun k hk => ?_⟩
  ·simp only [List.length_append, Array.length_toList, hfs, List.length_drop] at hk
   simp only [putCells, Array.getElem?_mapIdx]
   have hck := hcur k (by omega)
   rw [Array.getElem?_eq_getElem hck]
   simp only [Option.map_some, hfs]
   by_cases cc : k < (l + 1) * 4
   ·rw [if_pos (by omega), List.getElem?_append_left (by rw [Array.length_toList, hfs]; exact cc)]
    have e : off + k - off = k := by omega
    rw [e, Array.getElem?_toList, Array.getElem?_eq_getElem (by rw [hfs]; exact cc), getElem!_pos _ k (by rw [hfs]; exact cc)]
    rfl
   ·rw [if_neg (by omega), List.getElem?_append_right (by rw [Array.length_toList, hfs]; omega), List.getElem?_drop, Array.length_toList, hfs]
    have e : (l + 1) * 4 + (k - (l + 1) * 4) = k := by omega
    rw [e, ← hcells k (by omega), Array.getElem?_eq_getElem hck]
  ·have hk' : k < σ.length := by simpa using hk
   show (Kraw KO_api_Letter.sz KO_api_Letter.pos).rep 0 _ _ ((((flatK en 4 σ.toArray).toList ++ cs.drop ((l + 1) * 4)).drop (k * 4)).take 4) (σ.map at_)[k]
   have hle : (k + 1) * 4 ≤ (l + 1) * 4 := Nat.mul_le_mul_right _ (by omega)
   have e1 : (((flatK en 4 σ.toArray).toList ++ cs.drop ((l + 1) * 4)).drop (k * 4)).take 4 = en σ[k] := by
    apply List.ext_getElem?
    intro q
    by_cases hq : q < 4
    ·rw [List.getElem?_take_of_lt hq, List.getElem?_drop, List.getElem?_append_left (by rw [Array.length_toList, hfs]; omega), Array.getElem?_toList, Array.getElem?_eq_getElem (by rw [hfs]; omega)]
     have e2 := get_flatK en 4 σ.toArray (k * 4 + q) (by simp [hsl]; omega)
     rw [getElem!_pos _ _ (by rw [hfs]; omega)] at e2
     rw [e2]
     have e3 : (k * 4 + q) / 4 = k := by omega
     have e4 : (k * 4 + q) % 4 = q := by omega
     rw [e3, e4]
     have e5 : σ.toArray[k]! = σ[k] := by rw [getElem!_pos _ k (by simpa using hk')]; simp
     rw [e5, getElem!_pos _ q (by rw [hk4]; exact hq), List.getElem?_eq_getElem (by rw [hk4]; exact hq)]
    ·rw [List.getElem?_eq_none (by simp; omega), List.getElem?_eq_none (by rw [hk4]; omega)]
   rw [e1, List.getElem_map]
   exact ⟨hen _, by rw [← hen]; exact hk4 _, fun u hu => h1 σ[k] u (by rw [hen]; exact hu)⟩
 ·have e1 : xs = (List.finRange (l + 1)).map at_ := by
   apply List.ext_getElem
   ·simp [hl]
   ·intro k a b
    simp only [List.getElem_map, List.getElem_finRange]
    show _ = xs.getD k default
    rw [List.getD_eq_getElem?_getD, List.getElem?_eq_getElem a]
    rfl
  have := hperm.map at_
  rw [← e1] at this
  exact this
 ·rw [List.map_map, List.pairwise_map]
  have hsrt : σ.Pairwise (fun x y => (!ltOf cf y x) = true) := by
   rw [← hσ]
   exact List.pairwise_mergeSort (le := fun x y => !ltOf cf y x) (fun a b c g1 g2 => by rw [hlt] at *; simp at *; omega) (fun a b => by rw [hlt, hlt]; simp; omega) _
  have hnd : σ.Nodup := hperm.nodup_iff.2 (List.nodup_finRange _)
  refine (List.Pairwise.and hsrt hnd).imp fun {x y} hxy => ?_
  obtain ⟨g1, g2⟩ := hxy
  have g3 : ltOf cf y x = false := by simpa using g1
  cases hq : ltOf cf x y with
  | true => rw [hlt] at hq; exact of_decide_eq_true hq
  | false => exact absurd (tot x y hq g3) g2
theorem sort_own {m : Nat} {c0 : Nat → Nat} {w0 : World} {j y : Nat} {A : Option Addr} {C : Nat} {xs : List api_Letter} (B0 : CB m c0 w0) (h : OL KO_api_Letter j y c0 w0 A C xs) (bj : 0 < j ∧ j < m) (hyj : y ≠ j) (hs : xs.length < 4611686018427387904) (hb : ∀ x ∈ xs, 0 ≤ x.Number ∧ x.Number ≤ 1099511627776) (hn : (xs.map (·.Number)).Nodup) :
  Calls Try.prog 33 #[.slice A xs.length C, .func (.func 34) #[] #[]] w0 (fun e w_ => ∃ (c_ : Nat → Nat) (ys : List api_Letter), e = .returned (.tuple #[]) ∧ Ev (fun x => x = j) c0 w0 c_ w_ ∧ CB m c_ w_ ∧ OL KO_api_Letter j y c_ w_ A C ys ∧ ys.Perm xs ∧ (ys.map (·.Number)).Pairwise (· < ·)) := by
 obtain ⟨css, hl, h1, h2⟩ := h.len
 have hrep : ∀ (k : Nat) (hk : k < css.length), ∃ f t v, css[k] = [.int .i64 (xs[k]'(by omega)).Number, .int .i64 f, .int .i64 t, v] := fun k hk => by
  obtain ⟨A0, C0, e, _⟩ := GRh.read h2 (k := k) (by omega) hk (fun q => q)
  exact ⟨_, _, _, e⟩
 have hnum : css.map lnum = xs.map (·.Number) := by
  apply List.ext_getElem
  ·simp [hl]
  ·intro k a b
   simp only [List.getElem_map]
   obtain ⟨f, t, v, e⟩ := hrep k (by simpa using a)
   rw [e]; rfl
 have hbb : ∀ u ∈ css, 0 ≤ lnum u ∧ lnum u ≤ 1099511627776 := fun u hu => by
  have : lnum u ∈ xs.map (·.Number) := by rw [← hnum]; exact List.mem_map_of_mem hu
  obtain ⟨x, hx, e⟩ := List.mem_map.1 this
  rw [← e]; exact hb x hx
 rw [← hl]
 refine (sort_raw B0 h1 bj (by omega) (fun u hu => ?_) hbb (by rw [hnum]; exact hn)).mono ?_
 ·obtain ⟨k, hk, rfl⟩ := List.getElem_of_mem hu
  obtain ⟨f, t, v, e⟩ := hrep k hk
  exact ⟨f, t, v, by rw [e]; rfl⟩
 rintro e w1 ⟨c1, dss, rfl, E1, B1, hS1, hp1, hp2⟩
 obtain ⟨ys, g1, g2⟩ := zip_perm hp1.symm xs hl
 have h3 := GR.perm (GRh.ev h2 E1 hyj (by omega)) g2 g1
 have hz2 : (dss.zip ys).map (·.2) = ys := List.map_snd_zip (by omega)
 have hz3 : (css.zip xs).map (·.2) = xs := List.map_snd_zip (by omega)
 have hpx : ys.Perm xs := by
  have := g2.map (·.2)
  rw [hz2, hz3] at this
  exact this.symm
 refine ⟨c1, ys, rfl, E1, B1, OL.mk hS1 h3, hpx, ?_⟩
 ·have : dss.map lnum = ys.map (·.Number) := by
   apply List.ext_getElem
   ·simp [g1]
   ·intro k a b
    simp only [List.getElem_map]
    obtain ⟨A0, C0, e, _⟩ := GRh.read h3 (k := k) (by simpa using b) (by simpa using a) (fun q => q)
    rw [e]; rfl
  rw [← this]; exact hp2
end Go.Proofs.Ytdlokohmdnkdoaa.G
namespace Go.Proofs.Ytdlokohmdnkdoaa.G
open Go Go.RowKit
set_option linter.unusedVariables false
set_option linter.unusedSimpArgs false
section
variable {P : Program} {a : Act} {N : Nat} {L : List (Nat × Value)} {D : List Deferred} {w w' : World} {v u : Value} {x y : Operand} {d : Option Tmp} {t ty : TypeId} {pos : String} {af : Array Edge} {gd : Option (Nat × Bool)}
theorem r_sleqB (F : Fr a N L D) {A : Option Addr} {n c : Nat} {e yt : TypeId} (hu : P.underlying t = some (.slice e)) (hx : ev L x = some (.slice A n c)) (hy : ev L y = some (.slice none 0 0)) : (execOp a.eval { dst := d, op := .binOp .eql t x y yt, type := ty, pos := pos, after := af, guard := gd }).run P w = .ok (.value (.bool A.isNone)) w := by
 have h : (binOp .eql t (.slice A n c) (.slice none 0 0)).run P w = .ok (.bool A.isNone) w := by
  simp only [binOp]
  simp [Op.equal, Op.maxDepth, Lib.run_equalIn_slice_nil w 9999 t e A n c 0 0 hu]
 simp [execOp, F.ev hx, F.ev hy, eqGuard, h]
end
theorem SL.none_nilB {α : Type} {e : K α} {own : Bool} {j i : Nat} {c : Nat → Nat} {w : World} {cap : Nat} {xs : List α} (h : SL own e j i c w none cap xs) : xs = [] := by
 obtain ⟨cs, h2, h3, h4, h5, h6⟩ := h
 rcases h5 with h5 | ⟨a, e, _⟩
 ·subst h5
  have := e.pos
  have h : cap * e.sz = 0 := h4.symm
  rcases Nat.mul_eq_zero.1 h with h | h
  ·exact List.eq_nil_of_length_eq_zero (by omega)
  ·omega
 ·cases e
theorem slices_Clone.calls {m : Nat} {c0 : Nat → Nat} {w0 : World} {j1 : Nat} {A2 : Option Addr} {C3 : Nat} {a1 : List Int} (hm0 : 0 < m) (B0 : CB m c0 w0) (h4 : SL false (Kint .u8) j1 0 c0 w0 A2 C3 a1) (bj1 : j1 < m) (jr : Nat) (bjr : jr < m) (r : List Int) (H : slices_Clone.f a1 = some r) :
  Calls Try.prog 46 #[.slice A2 a1.length C3] w0 (fun e w_ => ∃ (c_ : Nat → Nat) (A0_ : Option Addr) (C0_ : Nat), e = .returned (.slice A0_ r.length C0_) ∧ Ev (fun x => False) c0 w0 c_ w_ ∧ CB m c_ w_ ∧ SL true (Kint .u8) jr 0 c_ w_ A0_ C0_ r) := by
 unfold slices_Clone.f at H
 obtain ⟨g, H⟩ := ifN H
 have H := Option.some.inj H
 subst H
 have B := B0.mono (show m ≤ m + 2 by omega)
 have E : Ev (fun x => False ∨ m ≤ x) c0 w0 c0 w0 := Ev.refl
 refine enter (N := 8) (l := [.slice A2 a1.length C3]) Try.func46 rfl rfl (Nat.le_of_ble_eq_true rfl) fun a F => ?_
 refine wp_seq_k fun K5 hK5 => ?_
 refine reg ?_
 refine q_val F rfl rfl (by decide) (r_assign F rfl) fun a F => ?_
 refine nil ?_
 refine hK5 _ _ ?_
 refine wp_seq_k fun K6 hK6 => ?_
 refine wp_seq_k fun K7 hK7 => ?_
 refine reg ?_
 refine q_val F rfl rfl (by decide) (r_move F rfl) fun a F => ?_
 refine q_val F rfl rfl (by decide) (r_sleqB F Try.underlying27 rfl rfl) fun a F => ?_
 refine nil ?_
 refine hK7 _ _ ?_
 cases A2 with
 | none =>
  have e := h4.none_nilB
  subst e
  refine wp_cond_true (F.ev rfl) ?_
  refine wp_seq_k fun K8 hK8 => ?_
  refine reg ?_
  refine q_val F rfl rfl (by decide) (r_assign F rfl) fun a F => ?_
  refine nil ?_
  refine hK8 _ _ ?_
  refine wp_ret ?_
  refine thenR ?_
  refine out1 F rfl rfl ?_
  exact ⟨c0, none, 0, rfl, Ev.refl, B0, SL.nil⟩
 | some q =>
  refine wp_cond_false (F.ev rfl) ?_
  refine wp_skip ?_
  refine hK6 _ _ ?_
  refine wp_seq_k fun K9 hK9 => ?_
  refine reg ?_
  refine q_eff F rfl rfl (by decide) (e_buildSlice (e := 5) (c := c0) (k := Kint .u8) (i := 0) F [] [] ([] : List Int) (by exact trivial) (fun w => by kernel_rfl) rfl (by decide) rfl trivial (fun q => q) (m + 1)) ?_
  rintro v w1 a ⟨c1, A1, C1, rfl, E1, h1, B1⟩ F
  have B := B1 _ B (by omega)
  have h4 := SL.ev h4 E1 (fun q => q.elim) (fun q => q.elim)
  have E := E.trans E1 (fun x q => q.elim)
  refine q_val F rfl rfl (by decide) (r_move F rfl) fun a F => ?_
  refine q_eff F rfl rfl (by decide) (e_append (k := Kint .u8) (xs := []) (ys := a1) (c := c1) (j := m + 1) (i := 0) F et_27 rfl rfl h1 h4 (by simpa using g) (by have g_ := g; unfold maxLen; simp at g_ ⊢; omega) (by omega)) ?_
  rintro v w2 a ⟨c2, A3, C4, rfl, E2, h2, B2⟩ F
  have B := B2 _ B (by omega)
  have E := E.trans E2 (fun x q => by replace q : x = m + 1 := q; show False ∨ m ≤ x; omega)
  refine q_val F rfl rfl (by decide) (r_assign F rfl) fun a F => ?_
  refine nil ?_
  refine hK9 _ _ ?_
  refine wp_ret ?_
  refine out1 F rfl rfl ?_
  rw [List.nil_append] at h2 ⊢
  exact ⟨fun b_ => (fun x_ => if x_ = m + 1 then jr else if x_ < m then x_ else 0) (c2 b_), A3, C4, rfl, E.leave B0 (fun x_ => if x_ = m + 1 then jr else if x_ < m then x_ else 0) (by intro x_ hx_; show (if x_ = m + 1 then jr else if x_ < m then x_ else 0) = x_; ((repeat' split) <;> omega)), (fun b_ hb_ => by show (if (c2 b_) = m + 1 then jr else if (c2 b_) < m then (c2 b_) else 0) < m; ((repeat' split) <;> omega)), SL.rc h2 (fun k_ hk_ => by show (if (c2 k_) = m + 1 then jr else if (c2 k_) < m then (c2 k_) else 0) = _; rw [hk_]; ((repeat' split) <;> omega)) (fun k_ hk_ => by show (if (c2 k_) = m + 1 then jr else if (c2 k_) < m then (c2 k_) else 0) = _; rw [hk_]; ((repeat' split) <;> omega))⟩
end Go.Proofs.Ytdlokohmdnkdoaa.G
namespace Go.Proofs.Ytdlokohmdnkdoaa.G
open Go Go.RowKit
set_option linter.unusedVariables false
set_option linter.unusedSimpArgs false
set_option maxRecDepth 100000
set_option maxHeartbeats 40000000
theorem bag_own.calls {m : Nat} {c0 : Nat → Nat} {w0 : World} {j5 : Nat} {A2 : Option Addr} {C3 : Nat} {a1 : api_Letter} (hm0 : 0 < m) (B0 : CB m c0 w0) (h4 : SL false (Kint .u8) j5 0 c0 w0 A2 C3 a1.Data) (bj5 : j5 < m) (jr39 : Nat) (bjr39 : jr39 < m) (r : api_Letter) (H : bag_own.f a1 = some r) : Calls Try.prog 32 #[.agg #[.int .i64 a1.Number, .int .i64 a1.From, .int .i64 a1.To, .slice A2 a1.Data.length C3]] w0 (fun e w_ => ∃ (c_ : Nat → Nat) (A0_ : Option Addr) (C0_ : Nat), e = .returned (.agg #[.int .i64 r.Number, .int .i64 r.From, .int .i64 r.To, .slice A0_ r.Data.length C0_]) ∧ Ev (fun x => False) c0 w0 c_ w_ ∧ CB m c_ w_ ∧ SL true (Kint .u8) jr39 0 c_ w_ A0_ C0_ r.Data) := by
 unfold bag_own.f at H; have B := B0.mono (show m ≤ m + 4 by omega); have E : Ev (fun x => False ∨ m ≤ x) c0 w0 c0 w0 := Ev.refl; refine enter (N := 8) (l := [.agg #[.int .i64 a1.Number, .int .i64 a1.From, .int .i64 a1.To, .slice A2 a1.Data.length C3]]) Try.func32 rfl rfl (nb rfl) fun a F => ?_; refine sr fun K6 hK6 => ?_; refine q_eff F rfl rfl (by decide) (e_box F (v := .agg #[.int .i64 a1.Number, .int .i64 a1.From, .int .i64 a1.To, .slice A2 a1.Data.length C3]) rfl c0 (m + 1)) ?_; rintro v w8 a ⟨c7, qa9, rfl, E10, h11, B12⟩ F; replace B := B12 _ B lm; replace E := E.n E10; replace h11 : AT _ _ _ _ _ [.int .i64 a1.Number, .int .i64 a1.From, .int .i64 a1.To, .slice A2 a1.Data.length C3] := h11; refine q_eff F rfl rfl (by decide) (e_alloc F zv_40 c7 (m + 2)) ?_; rintro v w15 a ⟨c14, qa16, rfl, E17, h18, B19⟩ F; replace B := B19 _ B lm; replace h4 := (h4.ev E10).ev E17; replace h11 := h11.ev E17; replace E := E.n E17; replace h18 : AT _ _ _ _ _ [.int .i64 0, .int .i64 0, .int .i64 0, .slice none 0 0] := h18; refine nil (hK6 _ _ ?_); refine sr fun K21 hK21 => qf F ff_40_3 fun a F => ?_; refine ql F ag_27 h11 fun a F => ?_; obtain ⟨t22, q23, H⟩ := bind_some H; refine qc F Try.func46 (slices_Clone.calls (m := m + 4) (pl hm0) B h4 (by omega) (m + 3) lm _ q23) ?_; rintro e w25 ⟨c24, A28, C29, rfl, E26, B, h30⟩; refine rt fun a F => ?_; replace h11 := h11.ev E26; replace E := E.n E26; refine qf F ff_40_3 fun a F => ?_; refine q_eff0 F rfl rfl (e_store F rfl rfl sz_27 h11 (nb rfl) rfl) ?_; rintro w32 a ⟨E33, h11, Z34⟩ F; replace h18 := (h18.ev E26).ev E33; replace E := E.trans E33 lc1; replace h11 : AT _ _ _ _ _ [.int .i64 a1.Number, .int .i64 a1.From, .int .i64 a1.To, .slice A28 t22.length C29] := h11; refine nil (hK21 _ _ ?_); refine sr fun K35 hK35 => ?_; refine qv F (r_loads (cs := [.int .i64 a1.Number, .int .i64 a1.From, .int .i64 a1.To, .slice A28 t22.length C29]) F rfl ag_40 sz_40 h11) fun a F => ?_; refine q_eff0 F rfl rfl (e_storeN0 (us := [.int .i64 a1.Number, .int .i64 a1.From, .int .i64 a1.To, .slice A28 t22.length C29]) F rfl rfl sz_40 h18 (nb rfl) (one_all rfl)) ?_; rintro w36 a ⟨E37, h18, Z38⟩ F; replace h30 := (h30.ev E33).ev E37; replace E := E.trans E37 lc1; replace h18 : AT _ _ _ _ _ [.int .i64 a1.Number, .int .i64 a1.From, .int .i64 a1.To, .slice A28 t22.length C29] := h18; refine nil (hK35 _ _ ?_); refine wp_ret ?_; obtain rfl := si H; refine outR1 F rfl ⟨_, rfl, lv_agg (cs := [.int .i64 a1.Number, .int .i64 a1.From, .int .i64 a1.To, .slice A28 t22.length C29]) ag_40 sz_40 h18⟩ ?_; exact ⟨cf (fun x_ => if x_ = m + 3 then jr39 else if x_ < m then x_ else 0) c24, A28, C29, rfl, E.lv B0, cfb, SL.rc h30 cfk cfk⟩
end Go.Proofs.Ytdlokohmdnkdoaa.G
namespace Go.Proofs.Ytdlokohmdnkdoaa.G
open Go Go.RowKit
set_option linter.unusedVariables false
set_option linter.unusedSimpArgs false
theorem own_some {l : api_Letter} (h : l.Data.length ≤ 140737488355328) : bag_own.f l = some l := by
 unfold bag_own.f slices_Clone.f
 rw [if_pos (by omega)]
 cases l; rfl
theorem raw_zero : ∀ (i : Nat) (c : Nat → Nat) (w : World), (Kraw KO_api_Letter.sz KO_api_Letter.pos).rep i c w (Value.agg #[.int .i64 0, .int .i64 0, .int .i64 0, .slice none 0 0]).cells.toList [.int .i64 0, .int .i64 0, .int .i64 0, .slice none 0 0] := fun i c w => ⟨rfl, rfl, one_all rfl⟩
def FL (o : MkV api_Letter) (ks : List Int) : List api_Letter := ks.map fun k => (o.f k).getD default
theorem FL_snoc (o : MkV api_Letter) (ks : List Int) {x : Int} {y : api_Letter} (h : o.f x = some y) : FL o (ks ++ [x]) = FL o ks ++ [y] := by
 unfold FL; rw [List.map_append]; simp [h]
def FK (o : MkV api_Letter) (t : Int) (ks : List Int) : List Int := ks.filter fun k => decide (((o.f k).getD default).To = t)
theorem FK_snoc (o : MkV api_Letter) (t : Int) (ks : List Int) {x : Int} {y : api_Letter} (h : o.f x = some y) : FK o t (ks ++ [x]) = if y.To = t then FK o t ks ++ [x] else FK o t ks := by
 unfold FK; rw [List.filter_append]; simp only [List.filter_cons, List.filter_nil, h, Option.getD_some]
 by_cases c : y.To = t
 ·rw [if_pos c, if_pos (decide_eq_true c)]
 ·rw [if_neg c, if_neg (by simpa using c)]; simp
set_option maxRecDepth 100000 in
set_option maxHeartbeats 4000000 in
theorem bag_Bag_Waiting.calls {m : Nat} {c0 : Nat → Nat} {w0 : World} {j4 j5 : Nat} {p2 : Option Addr} {a1 : Option Bag} (hm0 : 0 < m) (B0 : CB m c0 w0) (h3 : BG j4 j5 c0 w0 p2 a1) (bj4 : j4 < m) (bj5 : 0 < j5 ∧ j5 < m ∧ j5 ≠ j4) (jr : Nat) (bjr : jr < m) (jy : Nat) (bjy : 0 < jy ∧ jy < m) (r : List api_Letter) (H : bag_Bag_Waiting.f a1 = some r) :
  Calls Try.prog 15 #[.pointer p2] w0 (fun e w_ => ∃ (c_ : Nat → Nat) (A0_ : Option Addr) (C0_ : Nat), e = .returned (.slice A0_ r.length C0_) ∧ Ev (fun x => False) c0 w0 c_ w_ ∧ CB m c_ w_ ∧ OL KO_api_Letter jr jy c_ w_ A0_ C0_ r) := by
 have B := B0.mono (show m ≤ m + 6 by omega)
 have E : Ev (fun x => False ∨ m ≤ x) c0 w0 c0 w0 := Ev.refl
 refine enter (N := 31) (l := [.pointer p2]) Try.func15 rfl rfl (Nat.le_of_ble_eq_true rfl) fun a F => ?_
 refine wp_seq_k fun K1 hK1 => ?_
 refine reg ?_
 refine q_val F rfl rfl (by decide) (r_assign F rfl) fun a F => ?_
 refine nil ?_
 refine hK1 _ _ ?_
 refine wp_seq_k fun K2 hK2 => ?_
 refine wp_seq_k fun K3 hK3 => ?_
 refine reg ?_
 refine q_val F rfl rfl (by decide) (r_move F rfl) fun a F => ?_
 refine q_val F rfl rfl (by decide) (r_peqlA F Try.underlying24 rfl rfl (BG.isNone h3)) fun a F => ?_
 refine nil ?_
 refine hK3 _ _ ?_
 cases a1 with
 | none =>
  have H := Option.some.inj H
  subst H
  refine wp_cond_true (F.ev rfl) ?_
  refine wp_seq_k fun K4 hK4 => ?_
  refine reg ?_
  refine q_val F rfl rfl (by decide) (r_assign F rfl) fun a F => ?_
  refine nil ?_
  refine hK4 _ _ ?_
  refine wp_ret ?_
  refine thenR ?_
  refine out1 F rfl rfl ?_
  exact ⟨c0, none, 0, rfl, Ev.refl, B0, OL.nil bjy.1⟩
 | some t =>
 refine wp_cond_false (F.ev rfl) ?_
 refine wp_skip ?_
 refine hK2 _ _ ?_
 obtain ⟨ht, H⟩ := ifN H
 have H := (Option.some.inj H).symm
 obtain ⟨ht1, ht2, ht3⟩ := ht
 have htold : ∀ x, (t.under.f x).isSome = true → x ∈ t.under.keys t.next := by
  obtain ⟨_, _, _, _, hML⟩ := BG.some h3
  exact fun x hx => MO1.told hML ht2 hx
 have hkl : (t.under.keys t.next).length ≤ t.next.toNat := by
  unfold MkV.keys
  refine Nat.le_trans (List.length_filter_le _ _) ?_
  simp
 obtain ⟨ad, p17, rfl, hat, hML⟩ := BG.some h3
 refine wp_seq_k fun K4 hK4 => ?_
 refine reg ?_
 refine q_val F rfl rfl (by decide) (r_move F rfl) fun a F => ?_
 refine q_val F rfl rfl (by decide) (r_nil F rfl) fun a F => ?_
 refine q_val F rfl rfl (by decide) (r_fieldAddr F rfl ff_67_0) fun a F => ?_
 refine q_val F rfl rfl (by decide) (r_load F rfl ag_65 (AT.cell hat rfl)) fun a F => ?_
 refine q_val F rfl rfl (by decide) (r_lenmap1 F hML Try.underlying65 rfl) fun a F => ?_
 refine q_eff F rfl rfl (by decide) (e_make (k := Kraw KO_api_Letter.sz KO_api_Letter.pos) (x0 := [.int .i64 0, .int .i64 0, .int .i64 0, .slice none 0 0]) F et_34 rfl rfl raw_zero (by decide) (by omega) c0 m 0) ?_
 rintro v w1 a ⟨c1, A1, C1, rfl, E1, hS, B1⟩ F
 have B := B1 _ B (by omega)
 have hS : OL KO_api_Letter m (m + 4) c1 w1 A1 C1 [] := OL.mk hS (GR.nil (by omega))
 have h3 := h3.ev E1 (fun q => q.elim) (fun q => q.elim) (fun q => q.elim)
 have E := E.trans E1 (fun x q => q.elim)
 clear hat hML
 refine q_val F rfl rfl (by decide) (r_assign F rfl) fun a F => ?_
 refine nil ?_
 refine hK4 _ _ ?_
 refine wp_seq_k fun K5 hK5 => ?_
 obtain ⟨ad_, p17, e_, hat, hML⟩ := BG.some h3
 obtain rfl := Option.some.inj e_
 refine wp_seq_k fun K6 hK6 => ?_
 refine reg ?_
 refine q_val F rfl rfl (by decide) (r_move F rfl) fun a F => ?_
 refine q_val F rfl rfl (by decide) (r_nil F rfl) fun a F => ?_
 refine q_val F rfl rfl (by decide) (r_fieldAddr F rfl ff_67_0) fun a F => ?_
 refine q_val F rfl rfl (by decide) (r_load F rfl ag_65 (AT.cell hat rfl)) fun a F => ?_
 refine q_eff F rfl rfl (by decide) (e_range1 F Try.underlying3 Try.underlying65 rfl hML (m + 1) (by omega)) ?_
 rintro v w2 a ⟨c2, b, rr, cnt, rfl, E2, hM, B2⟩ F
 have B := B2 _ B (by omega)
 have hS := OL.ev hS E2 (fun q => q.elim) (fun q => q.elim) (fun q => q.elim)
 have E := E.trans E2 (fun x q => q.elim)
 refine nil ?_
 refine hK6 _ _ ?_
 refine wp_block ?_
 have J2 : ∀ (ks : List Int) (A : Option Addr) (C : Nat) (c : Nat → Nat) (w : World) (a : Act), Fr a 31 [(3, .slice A (FL t.under ks).length C)] → Ev (fun x => False ∨ m ≤ x) c0 w0 c w → CB (m + 6) c w → OL KO_api_Letter m (m + 4) c w A C (FL t.under ks) → (∀ x, x ∈ ks ↔ (t.under.f x).isSome = true) → ks.Nodup → (ks.length : Int) ≤ t.under.len → K5 a w := by
  clear F E B hS hM E1 E2 B1 B2 hat hML h3
  intro ks A C c w a F E B hS hm hn hl
  have hp := keys_perm hm hl ht2
  have hlen : (FL t.under ks).length = ks.length := by simp [FL]
  have hpl := hp.length_eq
  have hmap : ∀ l : List Int, (∀ x ∈ l, x ∈ t.under.keys t.next) → (FL t.under l).map (·.Number) = l := fun l hl => by
   unfold FL
   rw [List.map_map]
   conv => rhs; rw [← List.map_id l]
   exact List.map_congr_left fun x hx => (ht3 x (hl x hx)).1
  have hin : ∀ x ∈ ks, x ∈ t.under.keys t.next := fun x hx => hp.mem_iff.2 hx
  refine hK5 _ _ ?_
  refine wp_seq_k fun K9 hK9 => ?_
  refine reg ?_
  refine q_val F rfl rfl (by decide) (r_move F rfl) fun a F => ?_
  refine q_call F rfl rfl (by decide) (r_call F Try.func33 rfl (by kernel_rfl) rfl) (sort_own B hS (by omega) (by omega) (by omega) (fun x hx => by
   obtain ⟨k, hk, rfl⟩ := List.mem_map.1 hx
   have h1 := ((mem_keys _ _ _).1 (hin k hk)).1
   rw [(ht3 k (hin k hk)).1]; omega) (by rw [hmap ks hin]; exact hn)) ?_
  rintro e w1 ⟨c1, ys, rfl, E1, B1, hS1, hp1, hp2⟩
  refine ⟨_, rfl, fun a F => ?_⟩
  have E := E.trans E1 (fun x q => by replace q : x = m := q; show False ∨ m ≤ x; omega)
  refine nil ?_
  refine hK9 _ _ ?_
  refine wp_seq_k fun K10 hK10 => ?_
  refine reg ?_
  refine q_val F rfl rfl (by decide) (r_move F rfl) fun a F => ?_
  refine q_val F rfl rfl (by decide) (r_assign F rfl) fun a F => ?_
  refine nil ?_
  refine hK10 _ _ ?_
  refine wp_ret ?_
  have es : ys = r := by
   have e1 : ys.map (·.Number) = t.under.keys t.next := by
    refine perm_rising hp2 (keys_rise _ _) ?_
    have := hp1.map (·.Number)
    rw [hmap ks hin] at this
    exact this.trans hp.symm
   have e2 : FL t.under (ys.map (·.Number)) = ys := by
    unfold FL
    rw [List.map_map]
    conv => rhs; rw [← List.map_id ys]
    refine List.map_congr_left fun y hy => ?_
    obtain ⟨k, hk, rfl⟩ := List.mem_map.1 (hp1.mem_iff.1 hy)
    show (t.under.f ((t.under.f k).getD default).Number).getD default = _
    rw [(ht3 k (hin k hk)).1]; rfl
   rw [← e2, e1, H]; rfl
  have hlr : (FL t.under ks).length = r.length := by rw [← es, hp1.length_eq]
  refine out1 F rfl rfl ?_
  refine ⟨fun b_ => (fun x_ => if x_ = m then jr else if x_ = m + 4 then jy else if x_ < m then x_ else 0) (c1 b_), A, C, by rw [hlr], E.leave B0 (fun x_ => if x_ = m then jr else if x_ = m + 4 then jy else if x_ < m then x_ else 0) (by intro x_ hx_; show (if x_ = m then jr else if x_ = m + 4 then jy else if x_ < m then x_ else 0) = x_; ((repeat' split) <;> omega)), (fun b_ hb_ => by show (if (c1 b_) = m then jr else if (c1 b_) = m + 4 then jy else if (c1 b_) < m then (c1 b_) else 0) < m; ((repeat' split) <;> omega)), ?_⟩
  rw [← es]
  exact OL.rc hS1 (fun k_ hk_ => by show (if (c1 k_) = m then jr else if (c1 k_) = m + 4 then jy else if (c1 k_) < m then (c1 k_) else 0) = _; rw [hk_]; ((repeat' split) <;> omega)) (fun k_ hk_ => by show (if (c1 k_) = m then jr else if (c1 k_) = m + 4 then jy else if (c1 k_) < m then (c1 k_) else 0) = _; rw [hk_]; ((repeat' split) <;> omega)) (fun k_ hk_ => by show (if (c1 k_) = m then jr else if (c1 k_) = m + 4 then jy else if (c1 k_) < m then (c1 k_) else 0) = _; rw [hk_]; ((repeat' split) <;> omega)) bjy.1
 refine loop_fuel (I := fun n a w => ∃ (ks : List Int) (A : Option Addr) (C : Nat) (c : Nat → Nat), Fr a 31 [(3, .slice A (FL t.under ks).length C), (18, .pointer (some ⟨rr, 0, none⟩))] ∧ Ev (fun x => False ∨ m ≤ x) c0 w0 c w ∧ CB (m + 6) c w ∧ MR1 .i64 3 KO_api_Letter (fun cs => .agg cs.toArray) Try.prog j5 (m + 1) c w b rr t.under ks n ∧ OL KO_api_Letter m (m + 4) c w A C (FL t.under ks)) (k := cnt)
  ⟨[], A1, C1, c2, F.sub ⟨rfl, rfl, trivial⟩, E, B, hM, hS⟩ ?_
 clear F E B hS hM E1 E2 B1 B2 hat hML h3
 intro n X hX a w ⟨ks, A, C, c, F, E, B, hM, hS⟩
 have hkb : ks.length ≤ 1000000000 := by have := hM.bound; omega
 have hlen : (FL t.under ks).length = ks.length := by simp [FL]
 refine wp_seq_k fun K11 hK11 => ?_
 refine reg ?_
 refine q_next1 F (by decide) Try.underlying3 rfl hM (by omega) (by omega) ?_ ?_
 ·intro hm hn hl a F
  refine q_val F rfl rfl (by decide) (r_extract F rfl rfl) fun a F => ?_
  refine nil ?_
  refine hK11 _ _ ?_
  refine wp_seq_k fun K12 hK12 => ?_
  refine wp_cond_false (F.ev rfl) ?_
  refine wp_exit ?_
  repeat (first | refine thenE ?_ | refine inbE ?_)
  exact J2 ks A C c w a (F.sub ⟨rfl, trivial⟩) E B hS hm hn hl
 ·intro x y cs w1 cnt1 a hxy hnx hM hlt E1 hsz hrep hwf hen F
  have B := B.size hsz
  have hS := OL.ev hS E1 (by show ¬ (m = m + 1); omega) (by show ¬ (m + 4 = m + 1); omega) (by show ¬ (0 = m + 1); omega)
  have E := E.trans E1 (fun x q => by replace q : x = m + 1 := q; show False ∨ m ≤ x; omega)
  obtain ⟨A1, C1, rfl, hD⟩ := hrep
  have hD : SL false (Kint .u8) j5 0 c w1 A1 C1 y.Data := hD.r
  refine q_val F rfl rfl (by decide) (r_extract F rfl rfl) fun a F => ?_
  refine nil ?_
  refine hK11 _ _ ?_
  refine wp_seq_k fun K12 hK12 => ?_
  refine wp_cond_true (F.ev rfl) ?_
  refine wp_skip ?_
  refine hK12 _ _ ?_
  refine wp_block ?_
  refine wp_seq_k fun K13 hK13 => ?_
  refine reg ?_
  refine q_val F rfl rfl (by decide) (r_entry F rfl hen) fun a F => ?_
  refine q_val F rfl rfl (by decide) (r_extract F rfl rfl) fun a F => ?_
  refine q_eff F rfl rfl (by decide) (e_alloc F zv_40 c (m + 2)) ?_
  rintro v w2 a ⟨c2, qa, rfl, E2, hat, B2⟩ F
  have B := B2 _ B (by omega)
  have hS := OL.ev hS E2 (fun q => q.elim) (fun q => q.elim) (fun q => q.elim)
  have hD := hD.ev E2 (fun q => q.elim) (fun q => q.elim)
  have hM := hM.ev E2 (fun q => q.elim) (fun q => q.elim) (fun q => q.elim)
  have E := E.trans E2 (fun x q => q.elim)
  refine q_eff0 F rfl rfl (e_storeN0 (us := [.int .i64 y.Number, .int .i64 y.From, .int .i64 y.To, .slice A1 y.Data.length C1]) F rfl rfl sz_40 hat (Nat.le_of_ble_eq_true rfl) (one_all rfl)) ?_
  rintro w3 a ⟨E3, hat, Z3⟩ F
  have hat : AT true (m + 2) c2 w3 qa [.int .i64 y.Number, .int .i64 y.From, .int .i64 y.To, .slice A1 y.Data.length C1] := hat
  have B := B.size Z3
  have hS := OL.ev hS E3 (by show ¬ (m = m + 2); omega) (by show ¬ (m + 4 = m + 2); omega) (by show ¬ (0 = m + 2); omega)
  have hD := hD.ev E3 (by show ¬ (j5 = m + 2); omega) (by show ¬ (0 = m + 2); omega)
  have hM := hM.ev E3 (by show ¬ (j5 = m + 2); omega) (by show ¬ (m + 1 = m + 2); omega) (by show ¬ (0 = m + 2); omega)
  have E := E.trans E3 (fun x q => by replace q : x = m + 2 := q; show False ∨ m ≤ x; omega)
  refine nil ?_
  refine hK13 _ _ ?_
  refine reg ?_
  have hyl : y.Data.length ≤ 140737488355328 := by
   have := (ht3 x (htold x (by rw [hxy]; rfl))).2
   rw [hxy] at this; exact this
  refine q_val F rfl rfl (by decide) (r_move F rfl) fun a F => ?_
  refine q_val F rfl rfl (by decide) (r_loads (cs := [.int .i64 y.Number, .int .i64 y.From, .int .i64 y.To, .slice A1 y.Data.length C1]) F rfl ag_40 sz_40 hat) fun a F => ?_
  refine q_call F rfl rfl (by decide) (r_call F Try.func32 rfl (by kernel_rfl) rfl) (bag_own.calls (m := m + 6) (by omega) B hD (by omega) (m + 3) (by omega) y (own_some hyl)) ?_
  rintro e w4 ⟨c4, A4, C4, rfl, E4, B4, hD⟩
  refine ⟨_, rfl, fun a F => ?_⟩
  have B := B4
  have hS := OL.ev hS E4 (fun q => q) (fun q => q) (fun q => q)
  have hM := hM.ev E4 (fun q => q) (fun q => q) (fun q => q)
  have E := E.trans E4 (fun x q => q.elim)
  refine q_eff F rfl rfl (by decide) (e_buildSlice (n := 1) (e := 40) (c := c4) (k := Kraw KO_api_Letter.sz KO_api_Letter.pos) (i := 0) F [(0, .agg #[.int .i64 y.Number, .int .i64 y.From, .int .i64 y.To, .slice A4 y.Data.length C4])] [.int .i64 y.Number, .int .i64 y.From, .int .i64 y.To, .slice A4 y.Data.length C4] ([[.int .i64 y.Number, .int .i64 y.From, .int .i64 y.To, .slice A4 y.Data.length C4]] : List (List Value)) (by exact ⟨rfl, rfl, trivial⟩) (fun w => by kernel_rfl) rfl (by decide) rfl ⟨⟨rfl, rfl, one_all rfl⟩, trivial⟩ (fun q => q) (m + 5)) ?_
  rintro v w5 a ⟨c5, A5, C5, rfl, E5, h5, B5⟩ F
  have B := B5 _ B (by omega)
  have hS := OL.ev hS E5 (fun q => q.elim) (fun q => q.elim) (fun q => q.elim)
  have hM := hM.ev E5 (fun q => q.elim) (fun q => q.elim) (fun q => q.elim)
  have hD := hD.ev E5 (fun q => q.elim) (fun q => q.elim)
  have E := E.trans E5 (fun x q => q.elim)
  obtain ⟨css, hcl, hs, hg⟩ := OL.len hS
  refine q_eff F rfl rfl (by decide) (e_appendR (e := KO_api_Letter) (xs := FL t.under ks) (ys := [y]) (c := c5) (j := m) F et_34 rfl rfl hs h5 hcl rfl (by simp only [List.length_cons, List.length_nil]; omega) (by unfold maxLen; simp only [List.length_cons, List.length_nil]; omega) (by omega)) ?_
  rintro v w6 a ⟨c6, A6, C6, rfl, E6, h6, B6⟩ F
  have B := B6 _ B (by omega)
  have hM := hM.ev E6 (by show ¬ (j5 = m); omega) (by show ¬ (m + 1 = m); omega) (by show ¬ (0 = m); omega)
  have hD := hD.ev E6 (by show ¬ (m + 3 = m); omega) (by show ¬ (0 = m); omega)
  have hg := GRh.ev hg E6 (by show ¬ (m + 4 = m); omega) (by show ¬ (0 = m); omega)
  have E := E.trans E6 (fun x q => by replace q : x = m := q; show False ∨ m ≤ x; omega)
  obtain ⟨cz, az1, az2, hg⟩ := GRL.push (zs := [m + 3]) (ds := ([.int .i64 y.Number, .int .i64 y.From, .int .i64 y.To, .slice A4 y.Data.length C4] : List Value)) (x := y) hg ⟨A4, C4, rfl, hD⟩ rfl ⟨⟨by omega, by omega⟩, trivial⟩ ⟨trivial, trivial⟩
  have Ez : Ev (fun k => k = m + 3) c6 w6 cz w6 := ⟨rfl, rfl, rfl, Nat.le_refl _, fun k _ hm => az1 k ⟨hm, trivial⟩, fun _ _ _ => rfl⟩
  have B := B.recol (fun b => (az2 b).imp id (fun q => by rw [q]; omega))
  have hM := hM.ev Ez (by show ¬ (j5 = m + 3); omega) (by show ¬ (m + 1 = m + 3); omega) (by show ¬ (0 = m + 3); omega)
  have h6 := h6.ev Ez (by show ¬ (m = m + 3); omega) (by show ¬ (0 = m + 3); omega)
  have E := E.trans Ez (fun x q => by replace q : x = m + 3 := q; show False ∨ m ≤ x; omega)
  have h6 := OL.mk h6 hg
  refine q_val F rfl rfl (by decide) (r_assign F rfl) fun a F => ?_
  refine nil ?_
  rw [← FL_snoc t.under ks hxy] at h6
  exact hX _ _ _ hlt ⟨ks ++ [x], A6, C6, cz, F.sub ⟨by rw [FL_snoc t.under ks hxy]; rfl, rfl, trivial⟩, E, B, hM, h6⟩
set_option maxRecDepth 100000 in
set_option maxHeartbeats 4000000 in
theorem bag_Bag_For.calls {m : Nat} {c0 : Nat → Nat} {w0 : World} {j4 j5 : Nat} {p2 : Option Addr} {a1 : Option Bag} {a6 : Int} (hm0 : 0 < m) (B0 : CB m c0 w0) (h3 : BG j4 j5 c0 w0 p2 a1) (bj4 : j4 < m) (bj5 : 0 < j5 ∧ j5 < m ∧ j5 ≠ j4) (jr : Nat) (bjr : jr < m) (r : List Int) (H : bag_Bag_For.f a1 a6 = some r) :
  Calls Try.prog 16 #[.pointer p2, .int .i64 a6] w0 (fun e w_ => ∃ (c_ : Nat → Nat) (A0_ : Option Addr) (C0_ : Nat), e = .returned (.slice A0_ r.length C0_) ∧ Ev (fun x => False) c0 w0 c_ w_ ∧ CB m c_ w_ ∧ SL true (Kint .i64) jr 0 c_ w_ A0_ C0_ r) := by
 have B := B0.mono (show m ≤ m + 4 by omega)
 have E : Ev (fun x => False ∨ m ≤ x) c0 w0 c0 w0 := Ev.refl
 refine enter (N := 32) (l := [.pointer p2, .int .i64 a6]) Try.func16 rfl rfl (Nat.le_of_ble_eq_true rfl) fun a F => ?_
 refine wp_seq_k fun K1 hK1 => ?_
 refine reg ?_
 refine q_val F rfl rfl (by decide) (r_assign F rfl) fun a F => ?_
 refine nil ?_
 refine hK1 _ _ ?_
 refine wp_seq_k fun K1 hK1 => ?_
 refine reg ?_
 refine q_val F rfl rfl (by decide) (r_assign F rfl) fun a F => ?_
 refine nil ?_
 refine hK1 _ _ ?_
 refine wp_seq_k fun K2 hK2 => ?_
 refine wp_seq_k fun K3 hK3 => ?_
 refine reg ?_
 refine q_val F rfl rfl (by decide) (r_move F rfl) fun a F => ?_
 refine q_val F rfl rfl (by decide) (r_peqlA F Try.underlying24 rfl rfl (BG.isNone h3)) fun a F => ?_
 refine nil ?_
 refine hK3 _ _ ?_
 cases a1 with
 | none =>
  have H := Option.some.inj H
  subst H
  refine wp_cond_true (F.ev rfl) ?_
  refine wp_seq_k fun K4 hK4 => ?_
  refine reg ?_
  refine q_val F rfl rfl (by decide) (r_move F rfl) fun a F => ?_
  refine q_val F rfl rfl (by decide) (r_assign F rfl) fun a F => ?_
  refine nil ?_
  refine hK4 _ _ ?_
  refine wp_ret ?_
  refine thenR ?_
  refine out1 F rfl rfl ?_
  exact ⟨c0, none, 0, rfl, Ev.refl, B0, SL.nil⟩
 | some t =>
 refine wp_cond_false (F.ev rfl) ?_
 refine wp_skip ?_
 refine hK2 _ _ ?_
 obtain ⟨ht, H⟩ := ifN H
 have H := (Option.some.inj H).symm
 obtain ⟨ht1, ht2, ht3⟩ := ht
 have hkl : (t.under.keys t.next).length ≤ t.next.toNat := by
  unfold MkV.keys
  refine Nat.le_trans (List.length_filter_le _ _) ?_
  simp
 refine wp_seq_k fun K5 hK5 => ?_
 obtain ⟨ad_, p17, rfl, hat, hML⟩ := BG.some h3
 refine wp_seq_k fun K6 hK6 => ?_
 refine reg ?_
 refine q_val F rfl rfl (by decide) (r_move F rfl) fun a F => ?_
 refine q_val F rfl rfl (by decide) (r_nil F rfl) fun a F => ?_
 refine q_val F rfl rfl (by decide) (r_fieldAddr F rfl ff_67_0) fun a F => ?_
 refine q_val F rfl rfl (by decide) (r_load F rfl ag_65 (AT.cell hat rfl)) fun a F => ?_
 refine q_eff F rfl rfl (by decide) (e_range1 F Try.underlying3 Try.underlying65 rfl hML (m + 1) (by omega)) ?_
 rintro v w2 a ⟨c2, b, rr, cnt, rfl, E2, hM, B2⟩ F
 have B := B2 _ B (by omega)
 have E := E.trans E2 (fun x q => q.elim)
 refine nil ?_
 refine hK6 _ _ ?_
 refine wp_block ?_
 have J2 : ∀ (ks : List Int) (A : Option Addr) (C : Nat) (c : Nat → Nat) (w : World) (a : Act), Fr a 32 [(5, .slice A (FK t.under a6 ks).length C)] → Ev (fun x => False ∨ m ≤ x) c0 w0 c w → CB (m + 4) c w → SL true (Kint .i64) m 0 c w A C (FK t.under a6 ks) → (∀ x, x ∈ ks ↔ (t.under.f x).isSome = true) → ks.Nodup → (ks.length : Int) ≤ t.under.len → K5 a w := by
  clear F E B hM E2 B2 hat hML h3
  intro ks A C c w a F E B hS hm hn hl
  have hp := keys_perm hm hl ht2
  have hpl := hp.length_eq
  have hlen : (FK t.under a6 ks).length ≤ ks.length := List.length_filter_le _ _
  refine hK5 _ _ ?_
  refine wp_seq_k fun K9 hK9 => ?_
  refine reg ?_
  refine q_val F rfl rfl (by decide) (r_move F rfl) fun a F => ?_
  refine q_call F rfl rfl (by decide) (r_call F Try.func35 rfl (by kernel_rfl) rfl) (slices_Sort.calls B hS (by omega) (by omega)) ?_
  rintro e w1 ⟨c1, rfl, E1, B1, hS1⟩
  refine ⟨_, rfl, fun a F => ?_⟩
  have E := E.trans E1 (fun x q => by replace q : x = m := q; show False ∨ m ≤ x; omega)
  refine nil ?_
  refine hK9 _ _ ?_
  refine wp_seq_k fun K10 hK10 => ?_
  refine reg ?_
  refine q_val F rfl rfl (by decide) (r_move F rfl) fun a F => ?_
  refine q_val F rfl rfl (by decide) (r_assign F rfl) fun a F => ?_
  refine nil ?_
  refine hK10 _ _ ?_
  refine wp_ret ?_
  have es : sortI (FK t.under a6 ks) = r := by
   rw [H]
   have hq : ∀ l : List Int, (sortI l).Perm l := fun l => List.mergeSort_perm _ _
   have hss : ∀ l : List Int, l.Nodup → (sortI l).Pairwise (· < ·) := fun l h => by
    have hs : (sortI l).Pairwise (fun x y => decide (x ≤ y) = true) := List.pairwise_mergeSort (le := fun x y : Int => decide (x ≤ y)) (fun a b c h1 h2 => by simp at h1 h2 ⊢; omega) (fun a b => by simp; omega) l
    have hn2 : (sortI l).Nodup := (hq l).nodup_iff.2 h
    exact (List.Pairwise.and hs hn2).imp (fun {a b} hab => by have h1 := of_decide_eq_true hab.1; have h2 : a ≠ b := hab.2; omega)
   refine perm_rising (hss _ (List.Pairwise.filter _ hn)) (List.Pairwise.filter _ (keys_rise _ _)) ?_
   exact (hq _).trans ((hp.symm.filter _))
  refine out1 F rfl rfl ?_
  refine ⟨fun b_ => (fun x_ => if x_ = m then jr else if x_ < m then x_ else 0) (c1 b_), A, C, by rw [← es, sortI_length], E.leave B0 (fun x_ => if x_ = m then jr else if x_ < m then x_ else 0) (by intro x_ hx_; show (if x_ = m then jr else if x_ < m then x_ else 0) = x_; ((repeat' split) <;> omega)), (fun b_ hb_ => by show (if (c1 b_) = m then jr else if (c1 b_) < m then (c1 b_) else 0) < m; ((repeat' split) <;> omega)), ?_⟩
  rw [← es]
  exact SL.rc hS1 (fun k_ hk_ => by show (if (c1 k_) = m then jr else if (c1 k_) < m then (c1 k_) else 0) = _; rw [hk_]; ((repeat' split) <;> omega)) (fun k_ hk_ => by show (if (c1 k_) = m then jr else if (c1 k_) < m then (c1 k_) else 0) = _; rw [hk_]; ((repeat' split) <;> omega))
 refine loop_fuel (I := fun n a w => ∃ (ks : List Int) (A : Option Addr) (C : Nat) (c : Nat → Nat), Fr a 32 [(1, .int .i64 a6), (5, .slice A (FK t.under a6 ks).length C), (15, .pointer (some ⟨rr, 0, none⟩))] ∧ Ev (fun x => False ∨ m ≤ x) c0 w0 c w ∧ CB (m + 4) c w ∧ MR1 .i64 3 KO_api_Letter (fun cs => .agg cs.toArray) Try.prog j5 (m + 1) c w b rr t.under ks n ∧ SL true (Kint .i64) m 0 c w A C (FK t.under a6 ks)) (k := cnt)
  ⟨[], none, 0, c2, F.sub ⟨rfl, rfl, rfl, trivial⟩, E, B, hM, SL.nil⟩ ?_
 clear F E B hM E2 B2 hat hML h3
 intro n X hX a w ⟨ks, A, C, c, F, E, B, hM, hS⟩
 have hkb : ks.length ≤ 1000000000 := by have := hM.bound; omega
 have hlen : (FK t.under a6 ks).length ≤ ks.length := List.length_filter_le _ _
 refine wp_seq_k fun K11 hK11 => ?_
 refine reg ?_
 refine q_next1 F (by decide) Try.underlying3 rfl hM (by omega) (by omega) ?_ ?_
 ·intro hm hn hl a F
  refine q_val F rfl rfl (by decide) (r_extract F rfl rfl) fun a F => ?_
  refine nil ?_
  refine hK11 _ _ ?_
  refine wp_seq_k fun K12 hK12 => ?_
  refine wp_cond_false (F.ev rfl) ?_
  refine wp_exit ?_
  repeat (first | refine thenE ?_ | refine inbE ?_)
  exact J2 ks A C c w a (F.sub ⟨rfl, trivial⟩) E B hS hm hn hl
 ·intro x y cs w1 cnt1 a hxy hnx hM hlt E1 hsz hrep hwf hen F
  have B := B.size hsz
  have hS := hS.ev E1 (by show ¬ (m = m + 1); omega) (by show ¬ (0 = m + 1); omega)
  have E := E.trans E1 (fun x q => by replace q : x = m + 1 := q; show False ∨ m ≤ x; omega)
  obtain ⟨A1, C1, rfl, hD⟩ := hrep
  refine q_val F rfl rfl (by decide) (r_extract F rfl rfl) fun a F => ?_
  refine nil ?_
  refine hK11 _ _ ?_
  refine wp_seq_k fun K12 hK12 => ?_
  refine wp_cond_true (F.ev rfl) ?_
  refine wp_skip ?_
  refine hK12 _ _ ?_
  refine wp_block ?_
  refine wp_seq_k fun K13 hK13 => ?_
  refine reg ?_
  refine q_val F rfl rfl (by decide) (r_entry F rfl hen) fun a F => ?_
  refine q_val F rfl rfl (by decide) (r_extract F rfl rfl) fun a F => ?_
  refine q_val F rfl rfl (by decide) (r_extract F rfl rfl) fun a F => ?_
  refine q_eff F rfl rfl (by decide) (e_alloc F zv_40 c (m + 2)) ?_
  rintro v w2 a ⟨c2, qa, rfl, E2, hat, B2⟩ F
  have B := B2 _ B (by omega)
  have hS := hS.ev E2 (fun q => q.elim) (fun q => q.elim)
  have hM := hM.ev E2 (fun q => q.elim) (fun q => q.elim) (fun q => q.elim)
  have E := E.trans E2 (fun x q => q.elim)
  refine q_val F rfl rfl (by decide) (r_assign F rfl) fun a F => ?_
  refine q_eff0 F rfl rfl (e_storeN0 (us := [.int .i64 y.Number, .int .i64 y.From, .int .i64 y.To, .slice A1 y.Data.length C1]) F rfl rfl sz_40 hat (Nat.le_of_ble_eq_true rfl) (one_all rfl)) ?_
  rintro w3 a ⟨E3, hat, Z3⟩ F
  have hat : AT true (m + 2) c2 w3 qa [.int .i64 y.Number, .int .i64 y.From, .int .i64 y.To, .slice A1 y.Data.length C1] := hat
  have B := B.size Z3
  have hS := hS.ev E3 (by show ¬ (m = m + 2); omega) (by show ¬ (0 = m + 2); omega)
  have hM := hM.ev E3 (by show ¬ (j5 = m + 2); omega) (by show ¬ (m + 1 = m + 2); omega) (by show ¬ (0 = m + 2); omega)
  have E := E.trans E3 (fun x q => by replace q : x = m + 2 := q; show False ∨ m ≤ x; omega)
  refine nil ?_
  refine hK13 _ _ ?_
  refine wp_seq_k fun K14 hK14 => ?_
  refine reg ?_
  refine q_val F rfl rfl (by decide) (r_fieldAddr F rfl ff_40_2) fun a F => ?_
  refine q_val F rfl rfl (by decide) (r_load F rfl ag_3 (AT.cell hat (n := 2) rfl)) fun a F => ?_
  refine q_val F rfl rfl (by decide) (r_move F rfl) fun a F => ?_
  refine q_val F rfl rfl (by decide) (r_eql F rfl rfl) fun a F => ?_
  refine nil ?_
  refine hK14 _ _ ?_
  have hsn := FK_snoc t.under a6 ks hxy
  by_cases cc : y.To = a6
  ·rw [if_pos cc] at hsn
   refine wp_cond_true ((F.ev rfl).trans (congrArg Value.bool (decide_eq_true cc))) ?_
   refine reg ?_
   refine q_val F rfl rfl (by decide) (r_move F rfl) fun a F => ?_
   refine q_val F rfl rfl (by decide) (r_move F rfl) fun a F => ?_
   refine q_eff F rfl rfl (by decide) (e_buildSlice (n := 1) (e := 3) (c := c2) (k := Kint .i64) (i := 0) F [(0, .int .i64 x)] [.int .i64 x] ([x] : List Int) (by exact ⟨rfl, rfl, trivial⟩) (fun w => by kernel_rfl) rfl (by decide) rfl ⟨rfl, trivial⟩ (fun q => q) (m + 3)) ?_
   rintro v w5 a ⟨c5, A5, C5, rfl, E5, h5, B5⟩ F
   have B := B5 _ B (by omega)
   have hS := hS.ev E5 (fun q => q.elim) (fun q => q.elim)
   have hM := hM.ev E5 (fun q => q.elim) (fun q => q.elim) (fun q => q.elim)
   have E := E.trans E5 (fun x q => q.elim)
   refine q_eff F rfl rfl (by decide) (e_append (k := Kint .i64) (xs := FK t.under a6 ks) (ys := [x]) (c := c5) (j := m) (i := 0) F et_36 rfl rfl hS h5 (by simp only [List.length_cons, List.length_nil]; omega) (by unfold maxLen; simp only [List.length_cons, List.length_nil]; omega) (by omega)) ?_
   rintro v w6 a ⟨c6, A6, C6, rfl, E6, h6, B6⟩ F
   have B := B6 _ B (by omega)
   have hM := hM.ev E6 (by show ¬ (j5 = m); omega) (by show ¬ (m + 1 = m); omega) (by show ¬ (0 = m); omega)
   have E := E.trans E6 (fun x q => by replace q : x = m := q; show False ∨ m ≤ x; omega)
   refine q_val F rfl rfl (by decide) (r_assign F rfl) fun a F => ?_
   refine nil ?_
   rw [← hsn] at h6
   exact hX _ _ _ hlt ⟨ks ++ [x], A6, C6, c6, F.sub ⟨rfl, by rw [hsn]; rfl, rfl, trivial⟩, E, B, hM, h6⟩
  ·rw [if_neg cc] at hsn
   refine wp_cond_false ((F.ev rfl).trans (congrArg Value.bool (decide_eq_false cc))) ?_
   refine wp_skip ?_
   exact hX _ _ _ hlt ⟨ks ++ [x], A, C, c2, F.sub ⟨rfl, by rw [hsn]; rfl, rfl, trivial⟩, E, B, hM, by rw [hsn]; exact hS⟩
def FindAt (j i : Nat) (c : Nat → Nat) (w : World) (p : Option Addr) (o : Option Bag) (k : Int) (cs : List Value) : Prop := ∀ t x, o = some t → t.under.f k = some x → ∃ (a : Addr) (p1 : Option Addr), p = some a ∧ AT true j c w a [.map (Option.map Addr.block p1), .int .i64 t.next, .int .i64 t.told.Sent, .int .i64 t.told.Twice, .int .i64 t.told.Delivered, .int .i64 t.told.Dropped, .int .i64 t.told.Lost] ∧ MO1at .i64 3 KO_api_Letter (fun cs => .agg cs.toArray) Try.prog i c w p1 t.under k cs
set_option maxRecDepth 100000 in
set_option maxHeartbeats 4000000 in
theorem bag_Bag_find.at_ {m : Nat} {c0 : Nat → Nat} {w0 : World} {j4 : Nat} {j5 : Nat} {p2 : Option Addr} {a1 : Option Bag} {a6 : Int} (hm0 : 0 < m) (B0 : CB m c0 w0) (h3 : BG j4 j5 c0 w0 p2 a1) (bj4 : j4 < m) (bj5 : 0 < j5 ∧ j5 < m ∧ j5 ≠ j4) (r : api_Letter × Int) (H : bag_Bag_find.f a1 a6 = some r) : Calls Try.prog 36 #[.pointer p2, .int .i64 a6] w0 (fun e w_ => ∃ (c_ : Nat → Nat) (A0_ : Option Addr) (C0_ : Nat), e = .returned (.tuple #[.agg #[.int .i64 r.1.Number, .int .i64 r.1.From, .int .i64 r.1.To, .slice A0_ r.1.Data.length C0_], .int .i64 r.2]) ∧ Ev (fun x => False) c0 w0 c_ w_ ∧ CB m c_ w_ ∧ SL false (Kint .u8) j5 0 c_ w_ A0_ C0_ r.1.Data ∧ FindAt j4 j5 c_ w_ p2 a1 a6 [.int .i64 r.1.Number, .int .i64 r.1.From, .int .i64 r.1.To, .slice A0_ r.1.Data.length C0_]) := by
 unfold bag_Bag_find.f at H
 have B := B0.mono (show m ≤ m + 3 by omega)
 have E : Ev (fun x => False ∨ m ≤ x) c0 w0 c0 w0 := Ev.refl
 refine enter (N := 24) (l := [.pointer p2, .int .i64 a6]) Try.func36 rfl rfl (Nat.le_of_ble_eq_true rfl) fun a F => ?_
 refine wp_seq_k fun K7 hK7 => ?_
 refine reg ?_
 refine q_eff F rfl rfl (by decide) (e_alloc F zv_40 c0 (m + 1)) ?_
 rintro v w9 a ⟨c8, qa10, rfl, E11, h12, B13⟩ F
 replace B := B13 _ B (Nat.add_lt_add_left (by decide) m)
 replace h3 := BG.ev h3 E11 (fun q => q.elim) (fun q => q.elim) (fun q => q.elim)
 replace E := E.trans E11 (fun x q => q.elim)
 replace h12 : AT true (m + 1) c8 w9 qa10 [.int .i64 0, .int .i64 0, .int .i64 0, .slice none 0 0] := h12
 refine q_val F rfl rfl (by decide) (r_assign F rfl) fun a F => ?_
 refine nil ?_
 refine hK7 _ _ ?_
 refine wp_seq_k fun K15 hK15 => ?_
 refine wp_seq_k fun K16 hK16 => ?_
 refine reg ?_
 refine q_val F rfl rfl (by decide) (r_move F rfl) fun a F => ?_
 refine q_val F rfl rfl (by decide) (r_peqlA F Try.underlying24 rfl rfl (BG.isNone h3)) fun a F => ?_
 refine nil ?_
 refine hK16 _ _ ?_
 by_cases hb17 : (Option.isNone a1) = true
 ·replace H := (if_pos hb17).symm.trans H
  refine wp_cond_true ((F.ev rfl).trans (congrArg Value.bool hb17)) ?_
  refine wp_seq_k fun K18 hK18 => ?_
  refine reg ?_
  refine q_val F rfl rfl (by decide) (r_build (v := .agg #[.int .i64 0, .int .i64 0, .int .i64 0, .slice none 0 0]) F [] (by exact trivial) (fun w => by kernel_rfl)) fun a F => ?_
  refine q_eff0 F rfl rfl (e_storeN0 (us := [.int .i64 0, .int .i64 0, .int .i64 0, .slice none 0 0]) F rfl rfl sz_40 h12 (Nat.le_of_ble_eq_true rfl) (one_all rfl)) ?_
  rintro w19 a ⟨E20, h12, Z21⟩ F
  replace B := B.size Z21
  replace h3 := BG.ev h3 E20 (ne_pm bj4) (ne_pm bj5.2.1) ne_zm
  replace E := E.trans E20 (fun x (q : x = m + 1) => Or.inr (le_col q))
  replace h12 : AT true (m + 1) c8 w19 qa10 [.int .i64 0, .int .i64 0, .int .i64 0, .slice none 0 0] := h12
  refine q_val F rfl rfl (by decide) (r_assign F rfl) fun a F => ?_
  refine nil ?_
  refine hK18 _ _ ?_
  refine wp_ret ?_
  refine thenR ?_
  replace H := Option.some.inj H
  subst H
  refine outR2 F rfl ⟨_, rfl, lv_agg (cs := [.int .i64 0, .int .i64 0, .int .i64 0, .slice none 0 0]) ag_40 sz_40 h12⟩ rfl ?_
  exact ⟨fun b_ => (fun x_ => if x_ < m then x_ else 0) (c8 b_), none, 0, rfl, E.leave B0 (fun x_ => if x_ < m then x_ else 0) (by intro x_ hx_; show (if x_ < m then x_ else 0) = x_; ((repeat' split) <;> omega)), (fun b_ hb_ => by show (if (c8 b_) < m then (c8 b_) else 0) < m; ((repeat' split) <;> omega)), SL.nil, fun t x e1 _ => by rw [e1] at hb17; cases hb17⟩
 ·replace H := (if_neg hb17).symm.trans H
  refine wp_cond_false ((F.ev rfl).trans (congrArg Value.bool (bfalse hb17))) ?_
  refine wp_skip ?_
  refine hK15 _ _ ?_
  refine wp_seq_k fun K22 hK22 => ?_
  refine reg ?_
  refine q_val F rfl rfl (by decide) (r_move F rfl) fun a F => ?_
  replace H := bind_some H
  obtain ⟨ob23, e24, H⟩ := H
  have z25 := h3
  rw [e24] at z25
  obtain ⟨ad26, p28, rfl, hat27, h29⟩ := BG.some z25
  refine q_val F rfl rfl (by decide) (r_nil F rfl) fun a F => ?_
  refine q_val F rfl rfl (by decide) (r_fieldAddr F rfl ff_67_0) fun a F => ?_
  refine q_val F rfl rfl (by decide) (r_load F rfl ag_65 (AT.cell hat27 rfl)) fun a F => ?_
  refine q_val F rfl rfl (by decide) (r_move F rfl) fun a F => ?_
  replace H := ifN H
  obtain ⟨g31, H⟩ := H
  obtain ⟨cs32, r33, hl34, hk_⟩ := MO1seeA (t := 65) (x0 := (default : api_Letter)) (zcs := [.int .i64 0, .int .i64 0, .int .i64 0, .slice none 0 0]) h29 Try.underlying3 Try.underlying65 (fun w => by kernel_rfl) ⟨none, 0, rfl, SL.nil⟩ g31
  replace h29 := hk_
  replace r33 := KO_api_Letter.v r33
  obtain ⟨A35, C36, rfl, h37⟩ := r33
  replace h37 := SL.fl (i' := 0) h37 (fun q => q)
  refine q_val F rfl rfl (by decide) (r_lookK F rfl rfl hl34) fun a F => ?_
  refine q_val F rfl rfl (by decide) (r_move F rfl) fun a F => ?_
  refine q_val F rfl rfl (by decide) (r_extract F rfl rfl) fun a F => ?_
  refine q_val F rfl rfl (by decide) (r_extract F rfl rfl) fun a F => ?_
  refine q_eff F rfl rfl (by decide) (e_alloc F zv_40 c8 (m + 2)) ?_
  rintro v w39 a ⟨c38, qa40, rfl, E41, h42, B43⟩ F
  replace B := B43 _ B (Nat.add_lt_add_left (by decide) m)
  replace h3 := BG.ev h3 E41 (fun q => q.elim) (fun q => q.elim) (fun q => q.elim)
  replace h12 := AT.ev h12 E41 (fun q => q.elim)
  replace h29 := LK.ev h29 E41 (fun q => q.elim) (fun q => q.elim)
  replace hat27 := AT.ev hat27 E41 (fun q => q.elim)
  replace h37 := SL.ev h37 E41 (fun q => q.elim) (fun q => q.elim)
  replace E := E.trans E41 (fun x q => q.elim)
  replace h42 : AT true (m + 2) c38 w39 qa40 [.int .i64 0, .int .i64 0, .int .i64 0, .slice none 0 0] := h42
  refine q_eff0 F rfl rfl (e_storeN0 (us := [.int .i64 (((ob23.under.f a6).getD default).Number), .int .i64 (((ob23.under.f a6).getD default).From), .int .i64 (((ob23.under.f a6).getD default).To), .slice A35 (((ob23.under.f a6).getD default).Data).length C36]) F rfl rfl sz_40 h42 (Nat.le_of_ble_eq_true rfl) (one_all rfl)) ?_
  rintro w45 a ⟨E46, h42, Z47⟩ F
  replace B := B.size Z47
  replace h3 := BG.ev h3 E46 (ne_pm bj4) (ne_pm bj5.2.1) ne_zm
  replace h12 := AT.ev h12 E46 (ne_mm (by decide))
  replace h29 := LK.ev h29 E46 (ne_pm bj5.2.1) ne_zm
  replace hat27 := AT.ev hat27 E46 (ne_pm bj4)
  replace h37 := SL.ev h37 E46 (ne_pm bj5.2.1) ne_zm
  replace E := E.trans E46 (fun x (q : x = m + 2) => Or.inr (le_col q))
  replace h42 : AT true (m + 2) c38 w45 qa40 [.int .i64 (((ob23.under.f a6).getD default).Number), .int .i64 (((ob23.under.f a6).getD default).From), .int .i64 (((ob23.under.f a6).getD default).To), .slice A35 (((ob23.under.f a6).getD default).Data).length C36] := h42
  refine q_val F rfl rfl (by decide) (r_assign F rfl) fun a F => ?_
  refine nil ?_
  refine hK22 _ _ ?_
  replace F : Fr a 24 [(4, .pointer (some qa10)), (6, .pointer (some qa40)), (7, .bool ((ob23.under.f a6).isSome))] := F.sub ⟨rfl, rfl, rfl, trivial⟩
  refine wp_seq_k fun K48 hK48 => ?_
  refine wp_seq_k fun K49 hK49 => ?_
  refine reg ?_
  refine q_val F rfl rfl (by decide) (r_move F rfl) fun a F => ?_
  refine q_val F rfl rfl (by decide) (r_not F rfl) fun a F => ?_
  refine nil ?_
  refine hK49 _ _ ?_
  by_cases hb50 : ((ob23.under.f a6).isSome) = true
  ·replace H := (if_pos hb50).symm.trans H
   refine wp_cond_false ((F.ev rfl).trans (congrArg Value.bool (congrArg not hb50))) ?_
   refine wp_skip ?_
   refine hK48 _ _ ?_
   refine wp_seq_k fun K55 hK55 => ?_
   refine reg ?_
   refine q_val F rfl rfl (by decide) (r_loads (cs := [.int .i64 (((ob23.under.f a6).getD default).Number), .int .i64 (((ob23.under.f a6).getD default).From), .int .i64 (((ob23.under.f a6).getD default).To), .slice A35 (((ob23.under.f a6).getD default).Data).length C36]) F rfl ag_40 sz_40 h42) fun a F => ?_
   refine q_eff0 F rfl rfl (e_storeN0 (us := [.int .i64 (((ob23.under.f a6).getD default).Number), .int .i64 (((ob23.under.f a6).getD default).From), .int .i64 (((ob23.under.f a6).getD default).To), .slice A35 (((ob23.under.f a6).getD default).Data).length C36]) F rfl rfl sz_40 h12 (Nat.le_of_ble_eq_true rfl) (one_all rfl)) ?_
   rintro w56 a ⟨E57, h12, Z58⟩ F
   replace B := B.size Z58
   replace h3 := BG.ev h3 E57 (ne_pm bj4) (ne_pm bj5.2.1) ne_zm
   replace h29 := LK.ev h29 E57 (ne_pm bj5.2.1) ne_zm
   replace hat27 := AT.ev hat27 E57 (ne_pm bj4)
   replace h37 := SL.ev h37 E57 (ne_pm bj5.2.1) ne_zm
   replace h42 := AT.ev h42 E57 (ne_mm (by decide))
   replace E := E.trans E57 (fun x (q : x = m + 1) => Or.inr (le_col q))
   replace h12 : AT true (m + 1) c38 w56 qa10 [.int .i64 (((ob23.under.f a6).getD default).Number), .int .i64 (((ob23.under.f a6).getD default).From), .int .i64 (((ob23.under.f a6).getD default).To), .slice A35 (((ob23.under.f a6).getD default).Data).length C36] := h12
   refine q_val F rfl rfl (by decide) (r_assign F rfl) fun a F => ?_
   refine nil ?_
   refine hK55 _ _ ?_
   refine wp_ret ?_
   replace H := Option.some.inj H
   subst H
   refine outR2 F rfl ⟨_, rfl, lv_agg (cs := [.int .i64 (((ob23.under.f a6).getD default).Number), .int .i64 (((ob23.under.f a6).getD default).From), .int .i64 (((ob23.under.f a6).getD default).To), .slice A35 (((ob23.under.f a6).getD default).Data).length C36]) ag_40 sz_40 h12⟩ rfl ?_
   exact ⟨fun b_ => (fun x_ => if x_ < m then x_ else 0) (c38 b_), A35, C36, rfl, E.leave B0 (fun x_ => if x_ < m then x_ else 0) (by intro x_ hx_; show (if x_ < m then x_ else 0) = x_; ((repeat' split) <;> omega)), (fun b_ hb_ => by show (if (c38 b_) < m then (c38 b_) else 0) < m; ((repeat' split) <;> omega)), SL.rc h37 (fun k_ hk_ => by show (if (c38 k_) < m then (c38 k_) else 0) = _; rw [hk_]; ((repeat' split) <;> omega)) (fun k_ hk_ => by show (if (c38 k_) < m then (c38 k_) else 0) = _; rw [hk_]; ((repeat' split) <;> omega)), fun t x e1 e2 => by rw [e24] at e1; cases e1; exact ⟨ad26, p28, rfl, AT.rc hat27 (fun k_ hk_ => by show (if (c38 k_) < m then (c38 k_) else 0) = _; rw [hk_]; ((repeat' split) <;> omega)), (h29 x e2).rc (fun k_ hk_ => by show (if (c38 k_) < m then (c38 k_) else 0) = _; rw [hk_]; ((repeat' split) <;> omega)) (fun k_ hk_ => by show (if (c38 k_) < m then (c38 k_) else 0) = _; rw [hk_]; ((repeat' split) <;> omega)) bj5.1⟩⟩
  ·replace H := (if_neg hb50).symm.trans H
   refine wp_cond_true ((F.ev rfl).trans (congrArg Value.bool (congrArg not (bfalse hb50)))) ?_
   refine wp_seq_k fun K51 hK51 => ?_
   refine reg ?_
   refine q_val F rfl rfl (by decide) (r_build (v := .agg #[.int .i64 0, .int .i64 0, .int .i64 0, .slice none 0 0]) F [] (by exact trivial) (fun w => by kernel_rfl)) fun a F => ?_
   refine q_eff0 F rfl rfl (e_storeN0 (us := [.int .i64 0, .int .i64 0, .int .i64 0, .slice none 0 0]) F rfl rfl sz_40 h12 (Nat.le_of_ble_eq_true rfl) (one_all rfl)) ?_
   rintro w52 a ⟨E53, h12, Z54⟩ F
   replace B := B.size Z54
   replace h3 := BG.ev h3 E53 (ne_pm bj4) (ne_pm bj5.2.1) ne_zm
   replace h29 := LK.ev h29 E53 (ne_pm bj5.2.1) ne_zm
   replace hat27 := AT.ev hat27 E53 (ne_pm bj4)
   replace h37 := SL.ev h37 E53 (ne_pm bj5.2.1) ne_zm
   replace h42 := AT.ev h42 E53 (ne_mm (by decide))
   replace E := E.trans E53 (fun x (q : x = m + 1) => Or.inr (le_col q))
   replace h12 : AT true (m + 1) c38 w52 qa10 [.int .i64 0, .int .i64 0, .int .i64 0, .slice none 0 0] := h12
   refine q_val F rfl rfl (by decide) (r_assign F rfl) fun a F => ?_
   refine nil ?_
   refine hK51 _ _ ?_
   refine wp_ret ?_
   refine thenR ?_
   replace H := Option.some.inj H
   subst H
   refine outR2 F rfl ⟨_, rfl, lv_agg (cs := [.int .i64 0, .int .i64 0, .int .i64 0, .slice none 0 0]) ag_40 sz_40 h12⟩ rfl ?_
   exact ⟨fun b_ => (fun x_ => if x_ < m then x_ else 0) (c38 b_), none, 0, rfl, E.leave B0 (fun x_ => if x_ < m then x_ else 0) (by intro x_ hx_; show (if x_ < m then x_ else 0) = x_; ((repeat' split) <;> omega)), (fun b_ hb_ => by show (if (c38 b_) < m then (c38 b_) else 0) < m; ((repeat' split) <;> omega)), SL.nil, fun t x e1 e2 => by rw [e24] at e1; cases e1; rw [e2] at hb50; exact absurd rfl hb50⟩
theorem MO1at.ev {β : Type} {q : IntKind} {K : TypeId} {e : KO β} {mk : List Value → Value} {P : Program} {i : Nat} {c c' : Nat → Nat} {w w' : World} {p : Option Addr} {o : MkV β} {k : Int} {cs : List Value} {M : Nat → Prop} (h : MO1at q K e mk P i c w p o k cs) (E : Ev M c w c' w') (hi : ¬ M i) (h0 : ¬ M 0) : MO1at q K e mk P i c' w' p o k cs := by
 obtain ⟨h1, d, h2⟩ := h
 exact ⟨h1, d, h2.ev (sub_ev E hi) (fun hm => by omega) (fun hm => by omega) (fun hm => h0 hm.2)⟩
theorem FindAt.ev {j i : Nat} {c c' : Nat → Nat} {w w' : World} {p : Option Addr} {o : Option Bag} {k : Int} {cs : List Value} {M : Nat → Prop} (h : FindAt j i c w p o k cs) (E : Ev M c w c' w') (hj : ¬ M j) (hi : ¬ M i) (h0 : ¬ M 0) : FindAt j i c' w' p o k cs := fun t x e1 e2 => by
 obtain ⟨a, p1, h1, h2, h3⟩ := h t x e1 e2
 exact ⟨a, p1, h1, h2.ev E hj, h3.ev E hi h0⟩
theorem find_ok {b : Bag} {k : Int} {r : api_Letter × Int} (h : bag_Bag_find.f (some b) k = some r) (h0 : r.2 = 0) : b.under.f k = some r.1 := by
 unfold bag_Bag_find.f at h
 rw [if_neg (show ¬ ((some b : Option Bag).isNone = true) from fun q => Bool.noConfusion q), Option.bind_some] at h
 obtain ⟨_, h⟩ := ifN h
 by_cases c : (b.under.f k).isSome = true
 ·rw [if_pos c] at h
  obtain ⟨x, hx⟩ := Option.isSome_iff_exists.1 c
  obtain rfl := Option.some.inj h
  rw [hx]; rfl
 ·rw [if_neg c] at h
  obtain rfl := Option.some.inj h
  exact absurd h0 (show ¬ ((200 : Int) = 0) by decide)
set_option maxRecDepth 100000 in
set_option maxHeartbeats 4000000 in
theorem bag_Bag_Deliver.calls {m : Nat} {c0 : Nat → Nat} {w0 : World} {j4 : Nat} {j5 : Nat} {p2 : Option Addr} {a1 : Option Bag} {a6 : Int} (hm0 : 0 < m) (B0 : CB m c0 w0) (h3 : BG j4 j5 c0 w0 p2 a1) (bj4 : 0 < j4 ∧ j4 < m) (bj5 : 0 < j5 ∧ j5 < m ∧ j5 ≠ j4) (jr66 : Nat) (bjr66 : jr66 < m) (r : api_Letter × Int × (Option Bag)) (H : bag_Bag_Deliver.f a1 a6 = some r) : Calls Try.prog 18 #[.pointer p2, .int .i64 a6] w0 (fun e w_ => ∃ (c_ : Nat → Nat) (A0_ : Option Addr) (C0_ : Nat), e = .returned (.tuple #[.agg #[.int .i64 r.1.Number, .int .i64 r.1.From, .int .i64 r.1.To, .slice A0_ r.1.Data.length C0_], .int .i64 r.2.1]) ∧ Ev (fun x => (x = j4 ∨ x = j5)) c0 w0 c_ w_ ∧ CB m c_ w_ ∧ SL true (Kint .u8) jr66 0 c_ w_ A0_ C0_ r.1.Data ∧ BG j4 j5 c_ w_ p2 r.2.2) := by
 unfold bag_Bag_Deliver.f at H
 have B := B0.mono (show m ≤ m + 4 by omega)
 have E : Ev (fun x => (x = j4 ∨ x = j5) ∨ m ≤ x) c0 w0 c0 w0 := Ev.refl
 refine enter (N := 33) (l := [.pointer p2, .int .i64 a6]) Try.func18 rfl rfl (Nat.le_of_ble_eq_true rfl) fun a F => ?_
 refine wp_seq_k fun K7 hK7 => ?_
 refine reg ?_
 refine q_eff F rfl rfl (by decide) (e_alloc F zv_40 c0 (m + 1)) ?_
 rintro v w9 a ⟨c8, qa10, rfl, E11, h12, B13⟩ F
 replace B := B13 _ B (Nat.add_lt_add_left (by decide) m)
 replace h3 := BG.ev h3 E11 (fun q => q.elim) (fun q => q.elim) (fun q => q.elim)
 replace E := E.trans E11 (fun x q => q.elim)
 replace h12 : AT true (m + 1) c8 w9 qa10 [.int .i64 0, .int .i64 0, .int .i64 0, .slice none 0 0] := h12
 refine q_val F rfl rfl (by decide) (r_assign F rfl) fun a F => ?_
 refine nil ?_
 refine hK7 _ _ ?_
 refine wp_seq_k fun K15 hK15 => ?_
 refine reg ?_
 refine q_val F rfl rfl (by decide) (r_move F rfl) fun a F => ?_
 refine q_val F rfl rfl (by decide) (r_move F rfl) fun a F => ?_
 replace H := bind_some H
 obtain ⟨t16, q17, H⟩ := H
 refine q_call F rfl rfl (by decide) (r_call F Try.func36 rfl (by kernel_rfl) rfl) (bag_Bag_find.at_ (m := m + 4) (Nat.add_pos_left hm0 _) B h3 (by omega) ⟨bj5.1, by omega, bj5.2.2⟩ _ q17) ?_
 rintro e w19 ⟨c18, A22, C23, rfl, E20, B21, _, hfa_⟩
 refine ⟨_, rfl, fun a F => ?_⟩
 have B := B21
 replace h3 := BG.ev h3 E20 (fun q => q.elim) (fun q => q.elim) (fun q => q.elim)
 replace h12 := AT.ev h12 E20 (fun q => q.elim)
 replace E := E.trans E20 (fun x q => q.elim)
 refine q_val F rfl rfl (by decide) (r_move F rfl) fun a F => ?_
 refine q_val F rfl rfl (by decide) (r_extract F rfl rfl) fun a F => ?_
 refine q_val F rfl rfl (by decide) (r_extract F rfl rfl) fun a F => ?_
 refine q_eff F rfl rfl (by decide) (e_alloc F zv_40 c18 (m + 3)) ?_
 rintro v w27 a ⟨c26, qa28, rfl, E29, h30, B31⟩ F
 replace B := B31 _ B (Nat.add_lt_add_left (by decide) m)
 replace h3 := BG.ev h3 E29 (fun q => q.elim) (fun q => q.elim) (fun q => q.elim)
 replace h12 := AT.ev h12 E29 (fun q => q.elim)
 replace hfa_ := FindAt.ev hfa_ E29 (fun q => q.elim) (fun q => q.elim) (fun q => q.elim)
 replace E := E.trans E29 (fun x q => q.elim)
 replace h30 : AT true (m + 3) c26 w27 qa28 [.int .i64 0, .int .i64 0, .int .i64 0, .slice none 0 0] := h30
 refine q_eff0 F rfl rfl (e_storeN0 (us := [.int .i64 t16.1.Number, .int .i64 t16.1.From, .int .i64 t16.1.To, .slice A22 t16.1.Data.length C23]) F rfl rfl sz_40 h30 (Nat.le_of_ble_eq_true rfl) (one_all rfl)) ?_
 rintro w33 a ⟨E34, h30, Z35⟩ F
 replace B := B.size Z35
 replace h3 := BG.ev h3 E34 (ne_pm bj4.2) (ne_pm bj5.2.1) ne_zm
 replace h12 := AT.ev h12 E34 (ne_mm (by decide))
 replace hfa_ := FindAt.ev hfa_ E34 (ne_pm bj4.2) (ne_pm bj5.2.1) ne_zm
 replace E := E.trans E34 (fun x (q : x = m + 3) => Or.inr (le_col q))
 replace h30 : AT true (m + 3) c26 w33 qa28 [.int .i64 t16.1.Number, .int .i64 t16.1.From, .int .i64 t16.1.To, .slice A22 t16.1.Data.length C23] := h30
 refine q_val F rfl rfl (by decide) (r_assign F rfl) fun a F => ?_
 refine nil ?_
 refine hK15 _ _ ?_
 refine wp_seq_k fun K36 hK36 => ?_
 refine wp_seq_k fun K37 hK37 => ?_
 refine reg ?_
 refine q_val F rfl rfl (by decide) (r_move F rfl) fun a F => ?_
 refine q_val F rfl rfl (by decide) (r_neq F rfl rfl) fun a F => ?_
 refine nil ?_
 refine hK37 _ _ ?_
 replace F : Fr a 33 [(0, .pointer p2), (1, .int .i64 a6), (4, .pointer (some qa10)), (6, .pointer (some qa28)), (7, .int .i64 t16.2), (15, .bool (!decide (t16.2 = 0)))] := F.sub ⟨rfl, rfl, rfl, rfl, rfl, rfl, trivial⟩
 by_cases hb38 : t16.2 = 0
 ·replace H := (if_pos hb38).symm.trans H
  refine wp_cond_false ((F.ev rfl).trans (congrArg Value.bool (congrArg not (decide_eq_true hb38)))) ?_
  refine wp_skip ?_
  refine hK36 _ _ ?_
  refine wp_seq_k fun K43 hK43 => ?_
  refine reg ?_
  refine q_val F rfl rfl (by decide) (r_move F rfl) fun a F => ?_
  replace H := bind_some H
  obtain ⟨ob44, e45, H⟩ := H
  have hx_ := find_ok (r := t16) (by rw [← e45]; exact q17) hb38
  obtain ⟨ad47, p49, rfl, hat48, h50⟩ := hfa_ _ _ e45 hx_
  refine q_val F rfl rfl (by decide) (r_nil F rfl) fun a F => ?_
  refine q_val F rfl rfl (by decide) (r_fieldAddr F rfl ff_67_0) fun a F => ?_
  refine q_val F rfl rfl (by decide) (r_load F rfl ag_65 (AT.cell hat48 rfl)) fun a F => ?_
  refine q_val F rfl rfl (by decide) (r_move F rfl) fun a F => ?_
  replace H := ifN H
  obtain ⟨g52, H⟩ := H
  refine q_effv0 F rfl rfl (e_mapTake1 (zs := [m + 2]) (y0 := default) (ds := [.int .i64 0, .int .i64 0, .int .i64 0, .slice none 0 0]) F Try.underlying3 Try.underlying65 rfl rfl h50 hx_ (fun _ _ _ => ⟨none, 0, rfl, SL.nil⟩) rfl ⟨⟨by omega, by omega⟩, trivial⟩ g52) ?_
  rintro w53 a ⟨cz_, az_, bz_, E54, hr_, h55, Z56⟩ F
  replace E54 : Ev (fun k => k = j5) c26 _ cz_ _ := ⟨E54.os, E54.tape, E54.out, E54.size, fun k _ hm => az_ k hm, E54.blk⟩
  replace B := (bz_ _ ⟨Nat.add_lt_add_left (by decide) m, trivial⟩ B).size Z56
  obtain ⟨A0_, C0_, hcs_, h24⟩ := hr_
  simp only [List.cons.injEq, Value.slice.injEq, and_true, true_and] at hcs_
  obtain ⟨rfl, rfl⟩ := hcs_
  replace h24 : SL true (Kint .u8) (m + 2) 0 cz_ _ _ _ t16.1.Data := h24
  replace h12 := AT.ev h12 E54 (ne_mp bj5.2.1)
  replace h30 := AT.ev h30 E54 (ne_mp bj5.2.1)
  replace hat48 := AT.ev hat48 E54 (Ne.symm bj5.2.2)
  replace E := E.trans E54 (fun x (q : x = j5) => Or.inl (Or.inr (q)))
  replace h55 : ML j5 cz_ w53 p49 (MkV.del ob44.under a6) := h55
  refine nil ?_
  refine hK43 _ _ ?_
  replace F : Fr a 33 [(0, .pointer (some ad47)), (4, .pointer (some qa10)), (6, .pointer (some qa28))] := F.sub ⟨rfl, rfl, rfl, trivial⟩
  refine wp_seq_k fun K57 hK57 => ?_
  refine reg ?_
  refine q_val F rfl rfl (by decide) (r_move F rfl) fun a F => ?_
  refine q_val F rfl rfl (by decide) (r_nil F rfl) fun a F => ?_
  refine q_val F rfl rfl (by decide) (r_fieldAddr F rfl ff_67_2) fun a F => ?_
  refine q_val F rfl rfl (by decide) (r_fieldAddr2 F hat48 rfl ff_63_2) fun a F => ?_
  refine q_val F rfl rfl (by decide) (r_load F rfl ag_3 (AT.cell hat48 rfl)) fun a F => ?_
  refine q_val F rfl rfl (by decide) (r_add F rfl rfl) fun a F => ?_
  refine q_val F rfl rfl (by decide) (r_nil F rfl) fun a F => ?_
  refine q_val F rfl rfl (by decide) (r_fieldAddr F rfl ff_67_2) fun a F => ?_
  refine q_val F rfl rfl (by decide) (r_fieldAddr2 F hat48 rfl ff_63_2) fun a F => ?_
  refine q_eff0 F rfl rfl (e_store F rfl rfl sz_3 hat48 (Nat.le_of_ble_eq_true rfl) rfl) ?_
  rintro w58 a ⟨E59, hat48, Z60⟩ F
  replace B := B.size Z60
  replace h12 := AT.ev h12 E59 (ne_mp bj4.2)
  replace h24 := SL.ev h24 E59 (ne_mp bj4.2) (ne_z bj4.1)
  replace h30 := AT.ev h30 E59 (ne_mp bj4.2)
  replace h55 := ML.ev h55 E59 bj5.2.2 (ne_z bj4.1)
  replace E := E.trans E59 (fun x (q : x = j4) => Or.inl (Or.inl q))
  replace hat48 : AT true j4 cz_ w58 ad47 [.map (Option.map Addr.block p49), .int .i64 ob44.next, .int .i64 ob44.told.Sent, .int .i64 ob44.told.Twice, .int .i64 (IntKind.i64.wrap (ob44.told.Delivered + 1)), .int .i64 ob44.told.Dropped, .int .i64 ob44.told.Lost] := hat48
  refine nil ?_
  refine hK57 _ _ ?_
  replace F : Fr a 33 [(4, .pointer (some qa10)), (6, .pointer (some qa28))] := F.sub ⟨rfl, rfl, trivial⟩
  refine wp_seq_k fun K61 hK61 => ?_
  refine reg ?_
  refine q_val F rfl rfl (by decide) (r_loads (cs := [.int .i64 t16.1.Number, .int .i64 t16.1.From, .int .i64 t16.1.To, .slice A22 t16.1.Data.length C23]) F rfl ag_40 sz_40 h30) fun a F => ?_
  refine q_eff0 F rfl rfl (e_storeN0 (us := [.int .i64 t16.1.Number, .int .i64 t16.1.From, .int .i64 t16.1.To, .slice A22 t16.1.Data.length C23]) F rfl rfl sz_40 h12 (Nat.le_of_ble_eq_true rfl) (one_all rfl)) ?_
  rintro w62 a ⟨E63, h12, Z64⟩ F
  replace B := B.size Z64
  replace h24 := SL.ev h24 E63 (ne_mm (by decide)) ne_zm
  replace h30 := AT.ev h30 E63 (ne_mm (by decide))
  replace hat48 := AT.ev hat48 E63 (ne_pm bj4.2)
  replace h55 := ML.ev h55 E63 (ne_pm bj5.2.1) ne_zm
  replace E := E.trans E63 (fun x (q : x = m + 1) => Or.inr (le_col q))
  replace h12 : AT true (m + 1) cz_ w62 qa10 [.int .i64 t16.1.Number, .int .i64 t16.1.From, .int .i64 t16.1.To, .slice A22 t16.1.Data.length C23] := h12
  refine q_val F rfl rfl (by decide) (r_assign F rfl) fun a F => ?_
  refine nil ?_
  refine hK61 _ _ ?_
  refine wp_ret ?_
  have h65 : BG j4 j5 cz_ w62 (some ad47) (some (Bag.mk (MkV.del ob44.under a6) ob44.next (api_Traffic.mk ob44.told.Sent ob44.told.Twice (IntKind.i64.wrap (ob44.told.Delivered + 1)) ob44.told.Dropped ob44.told.Lost))) := BG.mk hat48 h55
  replace H := Option.some.inj H
  subst H
  refine outR2 F rfl ⟨_, rfl, lv_agg (cs := [.int .i64 t16.1.Number, .int .i64 t16.1.From, .int .i64 t16.1.To, .slice A22 t16.1.Data.length C23]) ag_40 sz_40 h12⟩ rfl ?_
  exact ⟨fun b_ => (fun x_ => if x_ = m + 2 then jr66 else if x_ < m then x_ else 0) (cz_ b_), A22, C23, rfl, E.leave B0 (fun x_ => if x_ = m + 2 then jr66 else if x_ < m then x_ else 0) (by intro x_ hx_; show (if x_ = m + 2 then jr66 else if x_ < m then x_ else 0) = x_; ((repeat' split) <;> omega)), (fun b_ hb_ => by show (if (cz_ b_) = m + 2 then jr66 else if (cz_ b_) < m then (cz_ b_) else 0) < m; ((repeat' split) <;> omega)), SL.rc h24 (fun k_ hk_ => by show (if (cz_ k_) = m + 2 then jr66 else if (cz_ k_) < m then (cz_ k_) else 0) = _; rw [hk_]; ((repeat' split) <;> omega)) (fun k_ hk_ => by show (if (cz_ k_) = m + 2 then jr66 else if (cz_ k_) < m then (cz_ k_) else 0) = _; rw [hk_]; ((repeat' split) <;> omega)), BG.rc h65 (fun k_ hk_ => by show (if (cz_ k_) = m + 2 then jr66 else if (cz_ k_) < m then (cz_ k_) else 0) = _; rw [hk_]; ((repeat' split) <;> omega)) (fun k_ hk_ => by show (if (cz_ k_) = m + 2 then jr66 else if (cz_ k_) < m then (cz_ k_) else 0) = _; rw [hk_]; ((repeat' split) <;> omega)) (fun k_ hk_ => by show (if (cz_ k_) = m + 2 then jr66 else if (cz_ k_) < m then (cz_ k_) else 0) = _; rw [hk_]; ((repeat' split) <;> omega)) (by omega)⟩
 ·replace H := (if_neg hb38).symm.trans H
  refine wp_cond_true ((F.ev rfl).trans (congrArg Value.bool (congrArg not (decide_eq_false hb38)))) ?_
  refine wp_seq_k fun K39 hK39 => ?_
  refine reg ?_
  refine q_val F rfl rfl (by decide) (r_build (v := .agg #[.int .i64 0, .int .i64 0, .int .i64 0, .slice none 0 0]) F [] (by exact trivial) (fun w => by kernel_rfl)) fun a F => ?_
  refine q_val F rfl rfl (by decide) (r_move F rfl) fun a F => ?_
  refine q_eff0 F rfl rfl (e_storeN0 (us := [.int .i64 0, .int .i64 0, .int .i64 0, .slice none 0 0]) F rfl rfl sz_40 h12 (Nat.le_of_ble_eq_true rfl) (one_all rfl)) ?_
  rintro w40 a ⟨E41, h12, Z42⟩ F
  replace B := B.size Z42
  replace h3 := BG.ev h3 E41 (ne_pm bj4.2) (ne_pm bj5.2.1) ne_zm
  replace h30 := AT.ev h30 E41 (ne_mm (by decide))
  replace E := E.trans E41 (fun x (q : x = m + 1) => Or.inr (le_col q))
  replace h12 : AT true (m + 1) c26 w40 qa10 [.int .i64 0, .int .i64 0, .int .i64 0, .slice none 0 0] := h12
  refine q_val F rfl rfl (by decide) (r_assign F rfl) fun a F => ?_
  refine nil ?_
  refine hK39 _ _ ?_
  refine wp_ret ?_
  refine thenR ?_
  replace H := Option.some.inj H
  subst H
  refine outR2 F rfl ⟨_, rfl, lv_agg (cs := [.int .i64 0, .int .i64 0, .int .i64 0, .slice none 0 0]) ag_40 sz_40 h12⟩ rfl ?_
  exact ⟨fun b_ => (fun x_ => if x_ = m + 2 then jr66 else if x_ < m then x_ else 0) (c26 b_), none, 0, rfl, E.leave B0 (fun x_ => if x_ = m + 2 then jr66 else if x_ < m then x_ else 0) (by intro x_ hx_; show (if x_ = m + 2 then jr66 else if x_ < m then x_ else 0) = x_; ((repeat' split) <;> omega)), (fun b_ hb_ => by show (if (c26 b_) = m + 2 then jr66 else if (c26 b_) < m then (c26 b_) else 0) < m; ((repeat' split) <;> omega)), SL.nil, BG.rc h3 (fun k_ hk_ => by show (if (c26 k_) = m + 2 then jr66 else if (c26 k_) < m then (c26 k_) else 0) = _; rw [hk_]; ((repeat' split) <;> omega)) (fun k_ hk_ => by show (if (c26 k_) = m + 2 then jr66 else if (c26 k_) < m then (c26 k_) else 0) = _; rw [hk_]; ((repeat' split) <;> omega)) (fun k_ hk_ => by show (if (c26 k_) = m + 2 then jr66 else if (c26 k_) < m then (c26 k_) else 0) = _; rw [hk_]; ((repeat' split) <;> omega)) (by omega)⟩
end Go.Proofs.Ytdlokohmdnkdoaa.G
namespace Go.Proofs.Ytdlokohmdnkdoaa.G
open Go Go.RowKit
set_option linter.unusedVariables false
set_option linter.unusedSimpArgs false
set_option maxRecDepth 100000
set_option maxHeartbeats 40000000
theorem bag_Bag_find.calls {m : Nat} {c0 : Nat → Nat} {w0 : World} {j4 : Nat} {j5 : Nat} {p2 : Option Addr} {a1 : Option Bag} {a6 : Int} (hm0 : 0 < m) (B0 : CB m c0 w0) (h3 : BG j4 j5 c0 w0 p2 a1) (bj4 : j4 < m) (bj5 : 0 < j5 ∧ j5 < m ∧ j5 ≠ j4) (r : api_Letter × Int) (H : bag_Bag_find.f a1 a6 = some r) : Calls Try.prog 36 #[.pointer p2, .int .i64 a6] w0 (fun e w_ => ∃ (c_ : Nat → Nat) (A0_ : Option Addr) (C0_ : Nat), e = .returned (.tuple #[.agg #[.int .i64 r.1.Number, .int .i64 r.1.From, .int .i64 r.1.To, .slice A0_ r.1.Data.length C0_], .int .i64 r.2]) ∧ Ev (fun x => False) c0 w0 c_ w_ ∧ CB m c_ w_ ∧ SL false (Kint .u8) j5 0 c_ w_ A0_ C0_ r.1.Data) := by
 unfold bag_Bag_find.f at H; have B := B0.mono (show m ≤ m + 3 by omega); have E : Ev (fun x => False ∨ m ≤ x) c0 w0 c0 w0 := Ev.refl; refine enter (N := 24) (l := [.pointer p2, .int .i64 a6]) Try.func36 rfl rfl (nb rfl) fun a F => ?_; refine sr fun K7 hK7 => ?_; refine q_eff F rfl rfl (by decide) (e_alloc F zv_40 c0 (m + 1)) ?_; rintro v w9 a ⟨c8, qa10, rfl, E11, h12, B13⟩ F; replace B := B13 _ B lm; replace h3 := h3.ev E11; replace E := E.n E11; replace h12 : AT _ _ _ _ _ [.int .i64 0, .int .i64 0, .int .i64 0, .slice none 0 0] := h12; refine qa F fun a F => nil (hK7 _ _ ?_); refine sq fun K15 hK15 => ?_; refine sr fun K16 hK16 => qm F fun a F => ?_; refine qv F (r_peqlA F Try.underlying24 rfl rfl (BG.isNone h3)) fun a F => ?_; refine nil (hK16 _ _ ?_)
 by_cases hb17 : (Option.isNone a1) = true
 ·replace H := ip hb17 H; refine wct (fb F hb17) ?_; refine sr fun K18 hK18 => ?_; refine qv F (r_build (v := .agg #[.int .i64 0, .int .i64 0, .int .i64 0, .slice none 0 0]) F [] (by exact trivial) (fun w => by kernel_rfl)) fun a F => ?_; refine q_eff0 F rfl rfl (e_storeN0 (us := [.int .i64 0, .int .i64 0, .int .i64 0, .slice none 0 0]) F rfl rfl sz_40 h12 (nb rfl) (one_all rfl)) ?_; rintro w19 a ⟨E20, h12, Z21⟩ F; replace E := E.trans E20 lc1; replace h12 : AT _ _ _ _ _ [.int .i64 0, .int .i64 0, .int .i64 0, .slice none 0 0] := h12; refine qa F fun a F => nil (hK18 _ _ ?_); refine wp_ret ?_; refine thenR ?_; obtain rfl := si H; refine outR2 F rfl ⟨_, rfl, lv_agg (cs := [.int .i64 0, .int .i64 0, .int .i64 0, .slice none 0 0]) ag_40 sz_40 h12⟩ rfl ?_; exact ⟨cf (ct m) c8, none, 0, rfl, E.lv B0, cfb, SL.nil⟩
 replace H := im hb17 H; refine wcf (fb F (bfalse hb17)) (wp_skip (hK15 _ _ ?_)); refine sr fun K22 hK22 => qm F fun a F => ?_; obtain ⟨ob23, e24, H⟩ := bind_some H; have z25 := h3; rw [e24] at z25; obtain ⟨ad26, p28, rfl, hat27, h29⟩ := BG.some z25; refine qi F fun a F => ?_; refine qf F ff_67_0 fun a F => ?_; refine ql F ag_65 hat27 fun a F => ?_; refine qm F fun a F => ?_; replace H := ifN H; obtain ⟨g31, H⟩ := H; obtain ⟨cs32, r33, hl34⟩ := MO1see (t := 65) (x0 := (default : api_Letter)) (zcs := [.int .i64 0, .int .i64 0, .int .i64 0, .slice none 0 0]) h29 Try.underlying3 Try.underlying65 (fun w => by kernel_rfl) ⟨none, 0, rfl, SL.nil⟩ g31; replace r33 := KO_api_Letter.v r33; obtain ⟨A35, C36, rfl, h37⟩ := r33; replace h37 := SL.fl (i' := 0) h37 (fun q => q); refine qv F (r_lookK F rfl rfl hl34) fun a F => ?_; refine qm F fun a F => ?_; refine qx F fun a F => ?_; refine qx F fun a F => ?_; refine q_eff F rfl rfl (by decide) (e_alloc F zv_40 c8 (m + 2)) ?_; rintro v w39 a ⟨c38, qa40, rfl, E41, h42, B43⟩ F; replace B := B43 _ B lm; replace h37 := h37.ev E41; replace E := E.n E41; replace h42 : AT _ _ _ _ _ [.int .i64 0, .int .i64 0, .int .i64 0, .slice none 0 0] := h42; refine q_eff0 F rfl rfl (e_storeN0 (us := [.int .i64 (((ob23.under.f a6).getD default).Number), .int .i64 (((ob23.under.f a6).getD default).From), .int .i64 (((ob23.under.f a6).getD default).To), .slice A35 (((ob23.under.f a6).getD default).Data).length C36]) F rfl rfl sz_40 h42 (nb rfl) (one_all rfl)) ?_; rintro w45 a ⟨E46, h42, Z47⟩ F; replace h12 := (h12.ev E41).ev E46; replace h37 := h37.ev E46 (ne_pm bj5.2.1) ne_zm; replace E := E.trans E46 lc1; replace h42 : AT _ _ _ _ _ [.int .i64 (((ob23.under.f a6).getD default).Number), .int .i64 (((ob23.under.f a6).getD default).From), .int .i64 (((ob23.under.f a6).getD default).To), .slice A35 (((ob23.under.f a6).getD default).Data).length C36] := h42; refine qa F fun a F => nil (hK22 _ _ ?_); replace F : Fr a 24 [(4, .pointer (some qa10)), (6, .pointer (some qa40)), (7, .bool ((ob23.under.f a6).isSome))] := F.sub ⟨rfl, rfl, rfl, trivial⟩; refine sq fun K48 hK48 => ?_; refine sr fun K49 hK49 => qm F fun a F => ?_; refine qv F (r_not F rfl) fun a F => ?_; refine nil (hK49 _ _ ?_)
 by_cases hb50 : ((ob23.under.f a6).isSome) = true
 ·replace H := ip hb50 H; refine wcf (fb F (congrArg not hb50)) (wp_skip (hK48 _ _ ?_)); refine sr fun K55 hK55 => ?_; refine qv F (r_loads (cs := [.int .i64 (((ob23.under.f a6).getD default).Number), .int .i64 (((ob23.under.f a6).getD default).From), .int .i64 (((ob23.under.f a6).getD default).To), .slice A35 (((ob23.under.f a6).getD default).Data).length C36]) F rfl ag_40 sz_40 h42) fun a F => ?_; refine q_eff0 F rfl rfl (e_storeN0 (us := [.int .i64 (((ob23.under.f a6).getD default).Number), .int .i64 (((ob23.under.f a6).getD default).From), .int .i64 (((ob23.under.f a6).getD default).To), .slice A35 (((ob23.under.f a6).getD default).Data).length C36]) F rfl rfl sz_40 h12 (nb rfl) (one_all rfl)) ?_; rintro w56 a ⟨E57, h12, Z58⟩ F; replace h37 := h37.ev E57 (ne_pm bj5.2.1) ne_zm; replace E := E.trans E57 lc1; replace h12 : AT _ _ _ _ _ [.int .i64 (((ob23.under.f a6).getD default).Number), .int .i64 (((ob23.under.f a6).getD default).From), .int .i64 (((ob23.under.f a6).getD default).To), .slice A35 (((ob23.under.f a6).getD default).Data).length C36] := h12; refine qa F fun a F => nil (hK55 _ _ ?_); refine wp_ret ?_; obtain rfl := si H; refine outR2 F rfl ⟨_, rfl, lv_agg (cs := [.int .i64 (((ob23.under.f a6).getD default).Number), .int .i64 (((ob23.under.f a6).getD default).From), .int .i64 (((ob23.under.f a6).getD default).To), .slice A35 (((ob23.under.f a6).getD default).Data).length C36]) ag_40 sz_40 h12⟩ rfl ?_; exact ⟨cf (ct m) c38, A35, C36, rfl, E.lv B0, cfb, SL.rc h37 cfk cfk⟩
 replace H := im hb50 H; refine wct (fb F (congrArg not (bfalse hb50))) ?_; refine sr fun K51 hK51 => ?_; refine qv F (r_build (v := .agg #[.int .i64 0, .int .i64 0, .int .i64 0, .slice none 0 0]) F [] (by exact trivial) (fun w => by kernel_rfl)) fun a F => ?_; refine q_eff0 F rfl rfl (e_storeN0 (us := [.int .i64 0, .int .i64 0, .int .i64 0, .slice none 0 0]) F rfl rfl sz_40 h12 (nb rfl) (one_all rfl)) ?_; rintro w52 a ⟨E53, h12, Z54⟩ F; replace E := E.trans E53 lc1; replace h12 : AT _ _ _ _ _ [.int .i64 0, .int .i64 0, .int .i64 0, .slice none 0 0] := h12; refine qa F fun a F => nil (hK51 _ _ ?_); refine wp_ret ?_; refine thenR ?_; obtain rfl := si H; refine outR2 F rfl ⟨_, rfl, lv_agg (cs := [.int .i64 0, .int .i64 0, .int .i64 0, .slice none 0 0]) ag_40 sz_40 h12⟩ rfl ?_; exact ⟨cf (ct m) c38, none, 0, rfl, E.lv B0, cfb, SL.nil⟩
theorem bag_Bag_Drop.calls {m : Nat} {c0 : Nat → Nat} {w0 : World} {j4 : Nat} {j5 : Nat} {p2 : Option Addr} {a1 : Option Bag} {a6 : Int} (hm0 : 0 < m) (B0 : CB m c0 w0) (h3 : BG j4 j5 c0 w0 p2 a1) (bj4 : 0 < j4 ∧ j4 < m) (bj5 : 0 < j5 ∧ j5 < m ∧ j5 ≠ j4) (r : Int × (Option Bag)) (H : bag_Bag_Drop.f a1 a6 = some r) : Calls Try.prog 27 #[.pointer p2, .int .i64 a6] w0 (fun e w_ => ∃ (c_ : Nat → Nat), e = .returned (.int .i64 r.1) ∧ Ev (fun x => (x = j4 ∨ x = j5)) c0 w0 c_ w_ ∧ CB m c_ w_ ∧ BG j4 j5 c_ w_ p2 r.2) := by
 unfold bag_Bag_Drop.f at H; have B := B0.mono (show m ≤ m + 2 by omega); have E : Ev (fun x => (x = j4 ∨ x = j5) ∨ m ≤ x) c0 w0 c0 w0 := Ev.refl; refine enter (N := 30) (l := [.pointer p2, .int .i64 a6]) Try.func27 rfl rfl (nb rfl) fun a F => ?_; refine sr fun K7 hK7 => qa F fun a F => nil (hK7 _ _ ?_); refine sq fun K8 hK8 => ?_; refine sr fun K9 hK9 => qm F fun a F => qm F fun a F => ?_; obtain ⟨t10, q11, H⟩ := bind_some H; refine qc F Try.func36 (bag_Bag_find.calls (m := m + 2) (pl hm0) B h3 (Nat.lt_add_right _ bj4.2) ⟨bj5.1, (Nat.lt_add_right _ bj5.2.1), bj5.2.2⟩ _ q11) ?_; rintro e w13 ⟨c12, A16, C17, rfl, E14, B, h18⟩; refine rt fun a F => ?_; replace E := E.n E14; refine qm F fun a F => ?_; refine qx F fun a F => ?_; refine qx F fun a F => ?_; refine q_eff F rfl rfl (by decide) (e_alloc F zv_40 c12 (m + 1)) ?_; rintro v w21 a ⟨c20, qa22, rfl, E23, h24, B25⟩ F; replace B := B25 _ B lm; replace h3 := (h3.ev E14).ev E23; replace E := E.n E23; replace h24 : AT _ _ _ _ _ [.int .i64 0, .int .i64 0, .int .i64 0, .slice none 0 0] := h24; refine q_eff0 F rfl rfl (e_storeN0 (us := [.int .i64 t10.1.Number, .int .i64 t10.1.From, .int .i64 t10.1.To, .slice A16 t10.1.Data.length C17]) F rfl rfl sz_40 h24 (nb rfl) (one_all rfl)) ?_; rintro w27 a ⟨E28, h24, Z29⟩ F; replace h3 := h3.ev E28 (ne_pm bj4.2) (ne_pm bj5.2.1) ne_zm; replace E := E.trans E28 lc1; refine qa F fun a F => nil (hK9 _ _ ?_); replace F : Fr a 30 [(0, .pointer p2), (1, .int .i64 a6), (6, .int .i64 t10.2)] := F.sub ⟨rfl, rfl, rfl, trivial⟩; refine sr fun K30 hK30 => qm F fun a F => ?_; refine qv F (r_neq F rfl rfl) fun a F => ?_; refine nil (hK30 _ _ ?_)
 by_cases hb31 : t10.2 = 0
 ·replace H := ip hb31 H; refine wcf (fb F (congrArg not (dt hb31))) (wp_skip (hK8 _ _ ?_)); refine sr fun K33 hK33 => qm F fun a F => ?_; obtain ⟨ob34, e35, H⟩ := bind_some H; have z36 := h3; rw [e35] at z36; obtain ⟨ad37, p39, rfl, hat38, h40⟩ := BG.some z36; refine qi F fun a F => ?_; refine qf F ff_67_0 fun a F => ?_; refine ql F ag_65 hat38 fun a F => ?_; refine qm F fun a F => ?_; replace H := ifN H; obtain ⟨g42, H⟩ := H; refine q_effv0 F rfl rfl (e_mapDelete1 (y0 := default) (ds := [.int .i64 0, .int .i64 0, .int .i64 0, .slice none 0 0]) F Try.underlying3 Try.underlying65 rfl rfl h40 (fun _ _ _ => ⟨none, 0, rfl, SL.nil⟩) g42) ?_; rintro w43 a ⟨E44, h45, Z46⟩ F; replace hat38 := hat38.ev E44 (Ne.symm bj5.2.2); replace E := E.trans E44 (fun x (q : x = j5) => Or.inl (Or.inr (q))); replace h45 : ML j5 c20 w43 p39 (MkV.del ob34.under a6) := h45; refine nil (hK33 _ _ ?_); replace F : Fr a 30 [(0, .pointer (some ad37))] := F.sub ⟨rfl, trivial⟩; refine sr fun K47 hK47 => qm F fun a F => ?_; refine qi F fun a F => ?_; refine qf F ff_67_2 fun a F => ?_; refine qv F (r_fieldAddr2 F hat38 rfl ff_63_3) fun a F => ?_; refine ql F ag_3 hat38 fun a F => ?_; refine qv F (r_add F rfl rfl) fun a F => ?_; refine qi F fun a F => ?_; refine qf F ff_67_2 fun a F => ?_; refine qv F (r_fieldAddr2 F hat38 rfl ff_63_3) fun a F => ?_; refine q_eff0 F rfl rfl (e_store F rfl rfl sz_3 hat38 (nb rfl) rfl) ?_; rintro w48 a ⟨E49, hat38, Z50⟩ F; replace h45 := h45.ev E49 bj5.2.2 (ne_z bj4.1); replace E := E.trans E49 (fun x (q : x = j4) => Or.inl (Or.inl q)); replace hat38 : AT true j4 c20 w48 ad37 [.map (Option.map Addr.block p39), .int .i64 ob34.next, .int .i64 ob34.told.Sent, .int .i64 ob34.told.Twice, .int .i64 ob34.told.Delivered, .int .i64 (IntKind.i64.wrap (ob34.told.Dropped + 1)), .int .i64 ob34.told.Lost] := hat38; refine nil (hK47 _ _ ?_); replace F : Fr a 30 [] := F.sub trivial; refine sr fun K51 hK51 => qa F fun a F => nil (hK51 _ _ ?_); refine wp_ret ?_; have h52 : BG j4 j5 c20 w48 (some ad37) (some (Bag.mk (MkV.del ob34.under a6) ob34.next (api_Traffic.mk ob34.told.Sent ob34.told.Twice ob34.told.Delivered (IntKind.i64.wrap (ob34.told.Dropped + 1)) ob34.told.Lost))) := BG.mk hat38 h45; obtain rfl := si H; refine out1 F rfl rfl ?_; exact ⟨cf (ct m) c20, rfl, E.lv B0, cfb, BG.rc h52 cfk cfk cfk (by omega)⟩
 replace H := im hb31 H; refine wct (fb F (congrArg not (dz hb31))) ?_; refine sr fun K32 hK32 => qm F fun a F => qa F fun a F => nil (hK32 _ _ ?_); refine wp_ret ?_; refine thenR ?_; obtain rfl := si H; refine out1 F rfl rfl ?_; exact ⟨cf (ct m) c20, rfl, E.lv B0, cfb, BG.rc h3 cfk cfk cfk (by omega)⟩
theorem bag_Bag_Len.calls {m : Nat} {c0 : Nat → Nat} {w0 : World} {j4 : Nat} {j5 : Nat} {p2 : Option Addr} {a1 : Option Bag} (hm0 : 0 < m) (B0 : CB m c0 w0) (h3 : BG j4 j5 c0 w0 p2 a1) (bj4 : j4 < m) (bj5 : 0 < j5 ∧ j5 < m ∧ j5 ≠ j4) (r : Int) (H : bag_Bag_Len.f a1 = some r) : Calls Try.prog 10 #[.pointer p2] w0 (fun e w_ => ∃ (c_ : Nat → Nat), e = .returned (.int .i64 r) ∧ Ev (fun x => False) c0 w0 c_ w_ ∧ CB m c_ w_) := by
 unfold bag_Bag_Len.f at H; have B := B0.mono (show m ≤ m + 1 by omega); have E : Ev (fun x => False ∨ m ≤ x) c0 w0 c0 w0 := Ev.refl; refine enter (N := 10) (l := [.pointer p2]) Try.func10 rfl rfl (nb rfl) fun a F => ?_; refine sr fun K6 hK6 => qa F fun a F => nil (hK6 _ _ ?_); refine sq fun K7 hK7 => ?_; refine sr fun K8 hK8 => qm F fun a F => ?_; refine qv F (r_peqlA F Try.underlying24 rfl rfl (BG.isNone h3)) fun a F => ?_; refine nil (hK8 _ _ ?_)
 by_cases hb9 : (Option.isNone a1) = true
 ·replace H := ip hb9 H; refine wct (fb F hb9) ?_; refine sr fun K10 hK10 => qa F fun a F => nil (hK10 _ _ ?_); refine wp_ret ?_; refine thenR ?_; obtain rfl := si H; refine out1 F rfl rfl ?_; exact ⟨cf (ct m) c0, rfl, E.lv B0, cfb⟩
 replace H := im hb9 H; refine wcf (fb F (bfalse hb9)) (wp_skip (hK7 _ _ ?_)); refine sr fun K11 hK11 => qm F fun a F => ?_; obtain ⟨ob12, e13, H⟩ := bind_some H; have z14 := h3; rw [e13] at z14; obtain ⟨ad15, p17, rfl, hat16, h18⟩ := BG.some z14; refine qi F fun a F => ?_; refine qf F ff_67_0 fun a F => ?_; refine ql F ag_65 hat16 fun a F => ?_; refine qv F (r_lenmap1 F h18 Try.underlying65 rfl) fun a F => ?_; refine qa F fun a F => nil (hK11 _ _ ?_); replace F : Fr a 10 [(2, .int .i64 ob12.under.len)] := F.sub ⟨rfl, trivial⟩; refine wp_ret ?_; obtain rfl := si H; refine out1 F rfl rfl ?_; exact ⟨cf (ct m) c0, rfl, E.lv B0, cfb⟩
theorem bag_Bag_put.calls {m : Nat} {c0 : Nat → Nat} {w0 : World} {j4 : Nat} {j5 : Nat} {j10 : Nat} {p2 : Option Addr} {A7 : Option Addr} {C8 : Nat} {a1 : Option Bag} {a6 : api_Letter} (hm0 : 0 < m) (B0 : CB m c0 w0) (h3 : BG j4 j5 c0 w0 p2 a1) (h9 : SL false (Kint .u8) j10 0 c0 w0 A7 C8 a6.Data) (bj4 : 0 < j4 ∧ j4 < m) (bj5 : 0 < j5 ∧ j5 < m ∧ j5 ≠ j4) (bj10 : j10 < m) (r : Int × (Option Bag)) (H : bag_Bag_put.f a1 a6 = some r) : Calls Try.prog 31 #[.pointer p2, .agg #[.int .i64 a6.Number, .int .i64 a6.From, .int .i64 a6.To, .slice A7 a6.Data.length C8]] w0 (fun e w_ => ∃ (c_ : Nat → Nat), e = .returned (.int .i64 r.1) ∧ Ev (fun x => (x = j4 ∨ x = j5)) c0 w0 c_ w_ ∧ CB m c_ w_ ∧ BG j4 j5 c_ w_ p2 r.2) := by
 unfold bag_Bag_put.f at H; have B := B0.mono (show m ≤ m + 3 by omega); have E : Ev (fun x => (x = j4 ∨ x = j5) ∨ m ≤ x) c0 w0 c0 w0 := Ev.refl; refine enter (N := 27) (l := [.pointer p2, .agg #[.int .i64 a6.Number, .int .i64 a6.From, .int .i64 a6.To, .slice A7 a6.Data.length C8]]) Try.func31 rfl rfl (nb rfl) fun a F => ?_; refine sr fun K11 hK11 => ?_; refine q_eff F rfl rfl (by decide) (e_box F (v := .agg #[.int .i64 a6.Number, .int .i64 a6.From, .int .i64 a6.To, .slice A7 a6.Data.length C8]) rfl c0 (m + 1)) ?_; rintro v w13 a ⟨c12, qa14, rfl, E15, h16, B17⟩ F; replace B := B17 _ B lm; replace h3 := h3.ev E15; replace h9 := h9.ev E15; replace E := E.n E15; replace h16 : AT _ _ _ _ _ [.int .i64 a6.Number, .int .i64 a6.From, .int .i64 a6.To, .slice A7 a6.Data.length C8] := h16; refine qa F fun a F => nil (hK11 _ _ ?_); refine sr fun K19 hK19 => qm F fun a F => ?_; obtain ⟨ob20, e21, H⟩ := bind_some H; have z22 := h3; rw [e21] at z22; obtain ⟨ad23, p25, rfl, hat24, h26⟩ := BG.some z22; refine qi F fun a F => ?_; refine qf F ff_67_1 fun a F => ?_; refine ql F ag_3 hat24 fun a F => ?_; refine qf F ff_40_0 fun a F => ?_; refine q_eff0 F rfl rfl (e_store F rfl rfl sz_3 h16 (nb rfl) rfl) ?_; rintro w28 a ⟨E29, h16, Z30⟩ F; replace B := B.size Z30; replace h9 := h9.ev E29 (ne_pm bj10) ne_zm; replace h26 := h26.ev E29 (ne_pm bj5.2.1) ne_zm; replace hat24 := hat24.ev E29 (ne_pm bj4.2); replace E := E.trans E29 lc1; replace h16 : AT _ _ _ _ _ [.int .i64 ob20.next, .int .i64 a6.From, .int .i64 a6.To, .slice A7 a6.Data.length C8] := h16; refine nil (hK19 _ _ ?_); refine sq fun K31 hK31 => ?_; refine regD (SB No c12 w28) 8 (.q 0 (.q 1 (.q 2 (.q 3 (.q 4 (.q 5 (.q 6 (.e 7 (.e 8 .nil))))))))) Try_hm (by decide +kernel) ?_; intro w32 w1_ w2_ w3_ w4_; have E33 : Ev No c12 w28 c12 w32 := Ev.same w1_ w2_ w3_ w4_; replace B := B.same w1_; have zh16 := h16; have zhat24 := hat24; have ER : Ev No c12 w28 c12 w32 := Ev.same w1_ w2_ w3_ w4_; replace h9 := h9.ev E33; replace E := E.n E33; refine dm F ER.sb fun a F => ?_; refine di F ER.sb fun a F => ?_; refine df F ff_67_0 ER.sb fun a F => ?_; refine dl F ag_65 zhat24 nq ER.sb fun a F => ?_; refine df F ff_40_0 ER.sb fun a F => ?_; refine dl F ag_3 zh16 nq ER.sb fun a F => ?_; refine dq F (fun wq hS => r_loads (cs := [.int .i64 ob20.next, .int .i64 a6.From, .int .i64 a6.To, .slice A7 a6.Data.length C8]) F rfl ag_40 sz_40 (AT.sb zh16 hS nq)) ER.sb fun a F => ?_; refine d_e ?_; obtain ⟨t34, q35, H⟩ := bind_some H; refine oc F Try.func32 (bag_own.calls (m := m + 3) (a1 := api_Letter.mk ob20.next a6.From a6.To a6.Data) (pl hm0) B h9 (Nat.lt_add_right _ bj10) (m + 2) lm _ q35) ?_; rintro e w37 ⟨c36, A40, C41, rfl, E38, B, h42⟩; refine rt fun a F => ?_; replace ER := ER.trans E38 nx; replace h16 := (h16.ev E33).ev E38; replace h26 := (h26.ev E33).ev E38; replace hat24 := (hat24.ev E33).ev E38; replace E := E.n E38; refine ⟨fun _ => ER.sb, ?_⟩; refine d_e ?_; replace H := ifN H; obtain ⟨g44, H⟩ := H; refine o_eff0 F rfl rfl rfl (e_mapUpdate1 (b := t34) (cs := [.int .i64 t34.Number, .int .i64 t34.From, .int .i64 t34.To, .slice A40 t34.Data.length C41]) (zs := [m + 2]) F Try.underlying3 Try.underlying65 rfl rfl rfl h26 ⟨A40, C41, rfl, h42⟩ rfl ⟨⟨(ne_mp bj5.2.1), (pl hm0)⟩, trivial⟩ ⟨trivial, trivial⟩ g44.1 (n_ok g44.2)) ?_
 rintro w45 a ⟨c49, e50, e51, E46, h47, Z48⟩ F; replace B := B.size Z48; replace h16 := h16.ev E46 (ne_mp bj5.2.1); replace hat24 := hat24.ev E46 (Ne.symm bj5.2.2); replace E := E.trans E46 (fun x (q : x = j5) => Or.inl (Or.inr (q))); replace h16 := AT.rc h16 (rn e50 ⟨mm, trivial⟩); replace hat24 := AT.rc hat24 (rn e50 ⟨(ne_pm bj4.2), trivial⟩); replace E : Ev (fun x => (x = j4 ∨ x = j5) ∨ m ≤ x) c0 w0 c49 w45 := E.recol B0 (fun b_ hb_ => e50 b_ ⟨(by omega), trivial⟩); replace B := B.rk e51 (Nat.lt_add_right _ bj5.2.1); replace h47 : ML j5 c49 w45 p25 (MkV.put ob20.under ob20.next t34) := h47; refine ⟨fun q => absurd rfl q, ?_⟩; refine d_nil ?_; refine hK31 _ _ ?_; replace F : Fr a 27 [(0, .pointer (some ad23)), (3, .pointer (some qa14))] := F.sub ⟨rfl, rfl, trivial⟩; refine sr fun K52 hK52 => qm F fun a F => ?_; refine qi F fun a F => ?_; refine qf F ff_67_1 fun a F => ?_; refine ql F ag_3 hat24 fun a F => ?_; refine qv F (r_add F rfl rfl) fun a F => ?_; refine qi F fun a F => ?_; refine qf F ff_67_1 fun a F => ?_; refine q_eff0 F rfl rfl (e_store F rfl rfl sz_3 hat24 (nb rfl) rfl) ?_; rintro w53 a ⟨E54, hat24, Z55⟩ F; replace h16 := h16.ev E54 (ne_mp bj4.2); replace h47 := h47.ev E54 bj5.2.2 (ne_z bj4.1); replace E := E.trans E54 (fun x (q : x = j4) => Or.inl (Or.inl q)); replace hat24 : AT true j4 c49 w53 ad23 [.map (Option.map Addr.block p25), .int .i64 (IntKind.i64.wrap (ob20.next + 1)), .int .i64 ob20.told.Sent, .int .i64 ob20.told.Twice, .int .i64 ob20.told.Delivered, .int .i64 ob20.told.Dropped, .int .i64 ob20.told.Lost] := hat24; refine nil (hK52 _ _ ?_); replace F : Fr a 27 [(3, .pointer (some qa14))] := F.sub ⟨rfl, trivial⟩; refine sr fun K56 hK56 => qf F ff_40_0 fun a F => ?_; refine ql F ag_3 h16 fun a F => ?_; refine qa F fun a F => nil (hK56 _ _ ?_); refine wp_ret ?_; have h57 : BG j4 j5 c49 w53 (some ad23) (some (Bag.mk (MkV.put ob20.under ob20.next t34) (IntKind.i64.wrap (ob20.next + 1)) ob20.told)) := BG.mk hat24 h47; obtain rfl := si H; refine out1 F rfl rfl ?_; exact ⟨cf (ct m) c49, rfl, E.lv B0, cfb, BG.rc h57 cfk cfk cfk (by omega)⟩
theorem bag_Bag_room.calls {m : Nat} {c0 : Nat → Nat} {w0 : World} {j4 : Nat} {j5 : Nat} {p2 : Option Addr} {a1 : Option Bag} (hm0 : 0 < m) (B0 : CB m c0 w0) (h3 : BG j4 j5 c0 w0 p2 a1) (bj4 : 0 < j4 ∧ j4 < m) (bj5 : 0 < j5 ∧ j5 < m ∧ j5 ≠ j4) (r : Int × (Option Bag)) (H : bag_Bag_room.f a1 = some r) : Calls Try.prog 30 #[.pointer p2] w0 (fun e w_ => ∃ (c_ : Nat → Nat), e = .returned (.int .i64 r.1) ∧ Ev (fun x => (x = j4)) c0 w0 c_ w_ ∧ CB m c_ w_ ∧ BG j4 j5 c_ w_ p2 r.2) := by
 unfold bag_Bag_room.f at H; have B := B0.mono (show m ≤ m + 1 by omega); have E : Ev (fun x => (x = j4) ∨ m ≤ x) c0 w0 c0 w0 := Ev.refl; refine enter (N := 18) (l := [.pointer p2]) Try.func30 rfl rfl (nb rfl) fun a F => ?_; refine sr fun K6 hK6 => qa F fun a F => nil (hK6 _ _ ?_); refine sq fun K7 hK7 => ?_; refine sr fun K8 hK8 => qm F fun a F => ?_; obtain ⟨ob9, e10, H⟩ := bind_some H; have z11 := h3; rw [e10] at z11; obtain ⟨ad12, p14, rfl, hat13, h15⟩ := BG.some z11; refine qi F fun a F => ?_; refine qf F ff_67_0 fun a F => ?_; refine ql F ag_65 hat13 fun a F => ?_; refine qv F (r_lenmap1 F h15 Try.underlying65 rfl) fun a F => ?_; refine qv F (r_geq F rfl rfl) fun a F => ?_; refine nil (hK8 _ _ ?_)
 by_cases hb17 : 65536 ≤ ob9.under.len
 ·replace H := ip hb17 H; refine wct (fb F (dt hb17)) ?_; refine sr fun K18 hK18 => qm F fun a F => ?_; refine qi F fun a F => ?_; refine qf F ff_67_2 fun a F => ?_; refine qv F (r_fieldAddr2 F hat13 rfl ff_63_4) fun a F => ?_; refine ql F ag_3 hat13 fun a F => ?_; refine qv F (r_add F rfl rfl) fun a F => ?_; refine qi F fun a F => ?_; refine qf F ff_67_2 fun a F => ?_; refine qv F (r_fieldAddr2 F hat13 rfl ff_63_4) fun a F => ?_; refine q_eff0 F rfl rfl (e_store F rfl rfl sz_3 hat13 (nb rfl) rfl) ?_; rintro w19 a ⟨E20, hat13, Z21⟩ F; replace h15 := h15.ev E20 bj5.2.2 (ne_z bj4.1); replace E := E.trans E20 (fun x (q : x = j4) => Or.inl (q)); replace hat13 : AT true j4 c0 w19 ad12 [.map (Option.map Addr.block p14), .int .i64 ob9.next, .int .i64 ob9.told.Sent, .int .i64 ob9.told.Twice, .int .i64 ob9.told.Delivered, .int .i64 ob9.told.Dropped, .int .i64 (IntKind.i64.wrap (ob9.told.Lost + 1))] := hat13; refine nil (hK18 _ _ ?_); replace F : Fr a 18 [] := F.sub trivial; refine sr fun K22 hK22 => qa F fun a F => nil (hK22 _ _ ?_); refine wp_ret ?_; refine thenR ?_; have h23 : BG j4 j5 c0 w19 (some ad12) (some (Bag.mk ob9.under ob9.next (api_Traffic.mk ob9.told.Sent ob9.told.Twice ob9.told.Delivered ob9.told.Dropped (IntKind.i64.wrap (ob9.told.Lost + 1))))) := BG.mk hat13 h15; obtain rfl := si H; refine out1 F rfl rfl ?_; exact ⟨cf (ct m) c0, rfl, E.lv B0, cfb, BG.rc h23 cfk cfk cfk (by omega)⟩
 replace H := im hb17 H; refine wcf (fb F (dz hb17)) (wp_skip (hK7 _ _ ?_)); replace F : Fr a 18 [] := F.sub trivial; refine sr fun K24 hK24 => qa F fun a F => nil (hK24 _ _ ?_); refine wp_ret ?_; obtain rfl := si H; refine out1 F rfl rfl ?_; exact ⟨cf (ct m) c0, rfl, E.lv B0, cfb, BG.rc h3 cfk cfk cfk (by omega)⟩
theorem bag_Bag_Send.calls {m : Nat} {c0 : Nat → Nat} {w0 : World} {j4 : Nat} {j5 : Nat} {j12 : Nat} {p2 : Option Addr} {A9 : Option Addr} {C10 : Nat} {a1 : Option Bag} {a6 : Int} {a7 : Int} {a8 : List Int} (hm0 : 0 < m) (B0 : CB m c0 w0) (h3 : BG j4 j5 c0 w0 p2 a1) (h11 : SL false (Kint .u8) j12 0 c0 w0 A9 C10 a8) (bj4 : 0 < j4 ∧ j4 < m) (bj5 : 0 < j5 ∧ j5 < m ∧ j5 ≠ j4) (bj12 : j12 < m ∧ j12 ≠ j4 ∧ j12 ≠ j5) (r : Int × Int × (Option Bag)) (H : bag_Bag_Send.f a1 a6 a7 a8 = some r) : Calls Try.prog 12 #[.pointer p2, .int .i64 a6, .int .i64 a7, .slice A9 a8.length C10] w0 (fun e w_ => ∃ (c_ : Nat → Nat), e = .returned (.tuple #[.int .i64 r.1, .int .i64 r.2.1]) ∧ Ev (fun x => (x = j4 ∨ x = j5)) c0 w0 c_ w_ ∧ CB m c_ w_ ∧ BG j4 j5 c_ w_ p2 r.2.2) := by
 unfold bag_Bag_Send.f at H; have B := B0.mono (show m ≤ m + 1 by omega); have E : Ev (fun x => (x = j4 ∨ x = j5) ∨ m ≤ x) c0 w0 c0 w0 := Ev.refl; refine enter (N := 45) (l := [.pointer p2, .int .i64 a6, .int .i64 a7, .slice A9 a8.length C10]) Try.func12 rfl rfl (nb rfl) fun a F => ?_; refine sr fun K13 hK13 => qa F fun a F => qa F fun a F => nil (hK13 _ _ ?_); refine sq fun K14 hK14 => ?_; refine wp_block ?_; refine sr fun K15 hK15 => qm F fun a F => ?_; refine qv F (r_peqlA F Try.underlying24 rfl rfl (BG.isNone h3)) fun a F => ?_; refine qa F fun a F => nil (hK15 _ _ ?_)
 by_cases hb16 : (Option.isNone a1) = true
 ·replace H := ip hb16 H; refine wct (fb F hb16) ?_; refine sr fun K17 hK17 => qa F fun a F => qa F fun a F => nil (hK17 _ _ ?_); refine wp_ret ?_; refine inbR ?_; refine thenR ?_; obtain rfl := si H; refine out2 F rfl rfl rfl ?_; exact ⟨cf (ct m) c0, rfl, E.lv B0, cfb, BG.rc h3 cfk cfk cfk (by omega)⟩
 replace H := im hb16 H; refine wcf (fb F (bfalse hb16)) ?_; refine sq fun K18 hK18 => ?_; have J21 : ∀ (c22 : Nat → Nat) (w23 : World) (a : Act) (b20 : Bool), Fr a 45 [(0, .pointer p2), (1, .int .i64 a6), (2, .int .i64 a7), (3, .slice A9 a8.length C10), (14, .bool b20)] → Ev (fun x => (x = j4 ∨ x = j5) ∨ m ≤ x) c0 w0 c22 w23 → CB (m + 1) c22 w23 → BG j4 j5 c22 w23 p2 a1 → SL false (Kint .u8) j12 0 c22 w23 A9 C10 a8 → bag_Bag_Send.j1 a1 a6 a7 a8 b20 = some r → K18 a w23 := by
  intro c22 w23 a b20 F E B h3 h11 H; unfold bag_Bag_Send.j1 at H; refine hK18 _ _ ?_
  by_cases hb24 : b20 = true
  ·replace H := ip hb24 H; refine wct (fb F hb24) ?_; refine sr fun K25 hK25 => qa F fun a F => qa F fun a F => nil (hK25 _ _ ?_); refine wp_ret ?_; refine inbR ?_; refine thenR ?_; obtain rfl := si H; refine out2 F rfl rfl rfl ?_; exact ⟨cf (ct m) c22, rfl, E.lv B0, cfb, BG.rc h3 cfk cfk cfk (by omega)⟩
  replace H := im hb24 H; refine wcf (fb F (bfalse hb24)) ?_; refine sr fun K26 hK26 => qm F fun a F => ?_; refine qv F (r_lensl F Try.underlying27 rfl) fun a F => ?_; refine qv F (r_gtr F rfl rfl) fun a F => ?_; refine qa F fun a F => nil (hK26 _ _ ?_)
  by_cases hb27 : 524288 < (a8.length : Int)
  ·replace H := ip hb27 H; refine wct (fb F (dt hb27)) ?_; refine sr fun K28 hK28 => qa F fun a F => qa F fun a F => nil (hK28 _ _ ?_); replace F : Fr a 45 [(8, .int .i64 0), (9, .int .i64 3)] := F.sub ⟨rfl, rfl, trivial⟩; refine wp_ret ?_; refine inbR ?_; refine thenR ?_; obtain rfl := si H; refine out2 F rfl rfl rfl ?_; exact ⟨cf (ct m) c22, rfl, E.lv B0, cfb, BG.rc h3 cfk cfk cfk (by omega)⟩
  replace H := im hb27 H; refine wcf (fb F (dz hb27)) (wp_skip (hK14 _ _ ?_)); refine sq fun K29 hK29 => ?_; refine sr fun K30 hK30 => qm F fun a F => ?_; obtain ⟨t31, q32, H⟩ := bind_some H; refine qc F Try.func30 (bag_Bag_room.calls (m := m + 1) (pl hm0) B h3 ⟨bj4.1, (Nat.lt_add_right _ bj4.2)⟩ ⟨bj5.1, (Nat.lt_add_right _ bj5.2.1), bj5.2.2⟩ _ q32) ?_; rintro e w34 ⟨c33, rfl, E35, B, h37⟩; refine rt fun a F => ?_; replace h11 := h11.ev E35 bj12.2.1 (ne_z bj4.1); replace E := E.trans E35 (fun x (q : x = j4) => Or.inl (Or.inl q)); refine qa F fun a F => nil (hK30 _ _ ?_); refine sr fun K39 hK39 => qm F fun a F => ?_; refine qv F (r_neq F rfl rfl) fun a F => ?_; refine nil (hK39 _ _ ?_); replace F : Fr a 45 [(0, .pointer p2), (1, .int .i64 a6), (2, .int .i64 a7), (3, .slice A9 a8.length C10), (10, .int .i64 t31.1), (28, .bool (!decide (t31.1 = 0)))] := F.sub ⟨rfl, rfl, rfl, rfl, rfl, rfl, trivial⟩
  by_cases hb40 : t31.1 = 0
  ·replace H := ip hb40 H; refine wcf (fb F (congrArg not (dt hb40))) (wp_skip (hK29 _ _ ?_)); refine sr fun K42 hK42 => qm F fun a F => ?_; obtain ⟨ob43, e44, H⟩ := bind_some H; have z45 := h37; rw [e44] at z45; obtain ⟨ad46, p48, rfl, hat47, h49⟩ := BG.some z45; refine qi F fun a F => ?_; refine qf F ff_67_2 fun a F => ?_; refine qv F (r_fieldAddr2 F hat47 rfl ff_63_0) fun a F => ?_; refine ql F ag_3 hat47 fun a F => ?_; refine qv F (r_add F rfl rfl) fun a F => ?_; refine qi F fun a F => ?_; refine qf F ff_67_2 fun a F => ?_; refine qv F (r_fieldAddr2 F hat47 rfl ff_63_0) fun a F => ?_; refine q_eff0 F rfl rfl (e_store F rfl rfl sz_3 hat47 (nb rfl) rfl) ?_; rintro w51 a ⟨E52, hat47, Z53⟩ F; replace B := B.size Z53; replace h11 := h11.ev E52 bj12.2.1 (ne_z bj4.1); replace h49 := h49.ev E52 bj5.2.2 (ne_z bj4.1); replace E := E.trans E52 (fun x (q : x = j4) => Or.inl (Or.inl q)); replace hat47 : AT true j4 c33 w51 ad46 [.map (Option.map Addr.block p48), .int .i64 ob43.next, .int .i64 (IntKind.i64.wrap (ob43.told.Sent + 1)), .int .i64 ob43.told.Twice, .int .i64 ob43.told.Delivered, .int .i64 ob43.told.Dropped, .int .i64 ob43.told.Lost] := hat47; refine nil (hK42 _ _ ?_); replace F : Fr a 45 [(0, .pointer (some ad46)), (1, .int .i64 a6), (2, .int .i64 a7), (3, .slice A9 a8.length C10)] := F.sub ⟨rfl, rfl, rfl, rfl, trivial⟩; refine sr fun K54 hK54 => qm F fun a F => qm F fun a F => qm F fun a F => qm F fun a F => ?_; refine qv F (r_build (v := .agg #[.int .i64 0, .int .i64 a6, .int .i64 a7, .slice A9 a8.length C10]) F [(1, .int .i64 a6), (2, .int .i64 a7), (3, .slice A9 a8.length C10)] (by exact ⟨rfl, rfl, rfl, rfl, rfl, rfl, trivial⟩) (fun w => by kernel_rfl)) fun a F => ?_; have h55 : BG j4 j5 c33 w51 (some ad46) (some (Bag.mk ob43.under ob43.next (api_Traffic.mk (IntKind.i64.wrap (ob43.told.Sent + 1)) ob43.told.Twice ob43.told.Delivered ob43.told.Dropped ob43.told.Lost))) := BG.mk hat47 h49; obtain ⟨t56, q57, H⟩ := bind_some H; refine qc F Try.func31 (bag_Bag_put.calls (m := m + 1) (a6 := api_Letter.mk 0 a6 a7 a8) (pl hm0) B h55 h11 ⟨bj4.1, (Nat.lt_add_right _ bj4.2)⟩ ⟨bj5.1, (Nat.lt_add_right _ bj5.2.1), bj5.2.2⟩ (Nat.lt_add_right _ bj12.1) _ q57) ?_; rintro e w59 ⟨c58, rfl, E60, B, h62⟩; refine rt fun a F => ?_; replace E := E.trans E60 (fun x (q : x = j4 ∨ x = j5) => q.elim (fun q => Or.inl (Or.inl q)) (fun q => Or.inl (Or.inr (q)))); refine qa F fun a F => qa F fun a F => nil (hK54 _ _ ?_); replace F : Fr a 45 [(8, .int .i64 t56.1), (9, .int .i64 0)] := F.sub ⟨rfl, rfl, trivial⟩; refine wp_ret ?_; obtain rfl := si H; refine out2 F rfl rfl rfl ?_; exact ⟨cf (ct m) c58, rfl, E.lv B0, cfb, BG.rc h62 cfk cfk cfk (by omega)⟩
  replace H := im hb40 H; refine wct (fb F (congrArg not (dz hb40))) ?_; refine sr fun K41 hK41 => qm F fun a F => qa F fun a F => qa F fun a F => nil (hK41 _ _ ?_); refine wp_ret ?_; refine thenR ?_; obtain rfl := si H; refine out2 F rfl rfl rfl ?_; exact ⟨cf (ct m) c33, rfl, E.lv B0, cfb, BG.rc h37 cfk cfk cfk (by omega)⟩
 refine reg ?_; refine qm F fun a F => ?_; refine qv F (r_lss F rfl rfl) fun a F => ?_; refine qm F fun a F => ?_
 by_cases hb19 : a6 < 0
 ·replace H := ip hb19 H; refine qn F (dt hb19) fun a F => qn F (dt hb19) fun a F => ?_; refine qv F (r_pick_t F rfl (dt hb19) rfl) fun a F => ?_; refine qa F fun a F => nil ?_; exact J21 c0 w0 a true (F.sub ⟨rfl, rfl, rfl, rfl, rfl, trivial⟩) E B h3 h11 H
 replace H := im hb19 H; refine qy F (dz hb19) ?_; refine qm F fun a F => ?_; refine qy F (dz hb19) ?_; refine qv F (r_lss F rfl rfl) fun a F => ?_; refine qv F (r_pick_f F rfl (dz hb19) rfl) fun a F => ?_; refine qa F fun a F => nil ?_; exact J21 c0 w0 a (decide (a7 < 0)) (F.sub ⟨rfl, rfl, rfl, rfl, rfl, trivial⟩) E B h3 h11 H
theorem bag_Bag_Twice.calls {m : Nat} {c0 : Nat → Nat} {w0 : World} {j4 : Nat} {j5 : Nat} {p2 : Option Addr} {a1 : Option Bag} {a6 : Int} (hm0 : 0 < m) (B0 : CB m c0 w0) (h3 : BG j4 j5 c0 w0 p2 a1) (bj4 : 0 < j4 ∧ j4 < m) (bj5 : 0 < j5 ∧ j5 < m ∧ j5 ≠ j4) (r : Int × Int × (Option Bag)) (H : bag_Bag_Twice.f a1 a6 = some r) : Calls Try.prog 17 #[.pointer p2, .int .i64 a6] w0 (fun e w_ => ∃ (c_ : Nat → Nat), e = .returned (.tuple #[.int .i64 r.1, .int .i64 r.2.1]) ∧ Ev (fun x => (x = j4 ∨ x = j5)) c0 w0 c_ w_ ∧ CB m c_ w_ ∧ BG j4 j5 c_ w_ p2 r.2.2) := by
 unfold bag_Bag_Twice.f at H; have B := B0.mono (show m ≤ m + 2 by omega); have E : Ev (fun x => (x = j4 ∨ x = j5) ∨ m ≤ x) c0 w0 c0 w0 := Ev.refl; refine enter (N := 35) (l := [.pointer p2, .int .i64 a6]) Try.func17 rfl rfl (nb rfl) fun a F => ?_; refine sr fun K7 hK7 => qa F fun a F => qa F fun a F => nil (hK7 _ _ ?_); refine sr fun K8 hK8 => qm F fun a F => qm F fun a F => ?_; obtain ⟨t9, q10, H⟩ := bind_some H; refine qc F Try.func36 (bag_Bag_find.calls (m := m + 2) (pl hm0) B h3 (Nat.lt_add_right _ bj4.2) ⟨bj5.1, (Nat.lt_add_right _ bj5.2.1), bj5.2.2⟩ _ q10) ?_; rintro e w12 ⟨c11, A15, C16, rfl, E13, B, h17⟩; refine rt fun a F => ?_; replace E := E.n E13; refine qm F fun a F => ?_; refine qx F fun a F => ?_; refine qx F fun a F => ?_; refine q_eff F rfl rfl (by decide) (e_alloc F zv_40 c11 (m + 1)) ?_; rintro v w20 a ⟨c19, qa21, rfl, E22, h23, B24⟩ F; replace B := B24 _ B lm; replace h3 := (h3.ev E13).ev E22; replace h17 := h17.ev E22; replace E := E.n E22; replace h23 : AT _ _ _ _ _ [.int .i64 0, .int .i64 0, .int .i64 0, .slice none 0 0] := h23; refine q_eff0 F rfl rfl (e_storeN0 (us := [.int .i64 t9.1.Number, .int .i64 t9.1.From, .int .i64 t9.1.To, .slice A15 t9.1.Data.length C16]) F rfl rfl sz_40 h23 (nb rfl) (one_all rfl)) ?_; rintro w26 a ⟨E27, h23, Z28⟩ F; replace B := B.size Z28; replace h3 := h3.ev E27 (ne_pm bj4.2) (ne_pm bj5.2.1) ne_zm; replace h17 := h17.ev E27 (ne_pm bj5.2.1) ne_zm; replace E := E.trans E27 lc1; replace h23 : AT _ _ _ _ _ [.int .i64 t9.1.Number, .int .i64 t9.1.From, .int .i64 t9.1.To, .slice A15 t9.1.Data.length C16] := h23; refine qa F fun a F => nil (hK8 _ _ ?_); replace F : Fr a 35 [(0, .pointer p2), (6, .pointer (some qa21)), (7, .int .i64 t9.2)] := F.sub ⟨rfl, rfl, rfl, trivial⟩; refine sq fun K29 hK29 => ?_; refine sr fun K30 hK30 => qm F fun a F => ?_; refine qv F (r_neq F rfl rfl) fun a F => ?_; refine nil (hK30 _ _ ?_)
 by_cases hb31 : t9.2 = 0
 ·replace H := ip hb31 H; refine wcf (fb F (congrArg not (dt hb31))) (wp_skip (hK29 _ _ ?_)); refine sq fun K33 hK33 => ?_; refine sr fun K34 hK34 => qm F fun a F => ?_; obtain ⟨t35, q36, H⟩ := bind_some H; refine qc F Try.func30 (bag_Bag_room.calls (m := m + 2) (pl hm0) B h3 ⟨bj4.1, (Nat.lt_add_right _ bj4.2)⟩ ⟨bj5.1, (Nat.lt_add_right _ bj5.2.1), bj5.2.2⟩ _ q36) ?_; rintro e w38 ⟨c37, rfl, E39, B, h41⟩; refine rt fun a F => ?_; replace h17 := h17.ev E39 bj5.2.2 (ne_z bj4.1); replace h23 := h23.ev E39 (ne_mp bj4.2); replace E := E.trans E39 (fun x (q : x = j4) => Or.inl (Or.inl q)); refine qa F fun a F => nil (hK34 _ _ ?_); refine sr fun K43 hK43 => qm F fun a F => ?_; refine qv F (r_neq F rfl rfl) fun a F => ?_; refine nil (hK43 _ _ ?_)
  by_cases hb44 : t35.1 = 0
  ·replace H := ip hb44 H; refine wcf (fb F (congrArg not (dt hb44))) (wp_skip (hK33 _ _ ?_)); replace F : Fr a 35 [(0, .pointer p2), (6, .pointer (some qa21))] := F.sub ⟨rfl, rfl, trivial⟩; refine sr fun K46 hK46 => qm F fun a F => ?_; obtain ⟨ob47, e48, H⟩ := bind_some H; have z49 := h41; rw [e48] at z49; obtain ⟨ad50, p52, rfl, hat51, h53⟩ := BG.some z49; refine qi F fun a F => ?_; refine qf F ff_67_2 fun a F => ?_; refine qv F (r_fieldAddr2 F hat51 rfl ff_63_1) fun a F => ?_; refine ql F ag_3 hat51 fun a F => ?_; refine qv F (r_add F rfl rfl) fun a F => ?_; refine qi F fun a F => ?_; refine qf F ff_67_2 fun a F => ?_; refine qv F (r_fieldAddr2 F hat51 rfl ff_63_1) fun a F => ?_; refine q_eff0 F rfl rfl (e_store F rfl rfl sz_3 hat51 (nb rfl) rfl) ?_; rintro w55 a ⟨E56, hat51, Z57⟩ F; replace B := B.size Z57; replace h17 := h17.ev E56 bj5.2.2 (ne_z bj4.1); replace h23 := h23.ev E56 (ne_mp bj4.2); replace h53 := h53.ev E56 bj5.2.2 (ne_z bj4.1); replace E := E.trans E56 (fun x (q : x = j4) => Or.inl (Or.inl q)); replace hat51 : AT true j4 c37 w55 ad50 [.map (Option.map Addr.block p52), .int .i64 ob47.next, .int .i64 ob47.told.Sent, .int .i64 (IntKind.i64.wrap (ob47.told.Twice + 1)), .int .i64 ob47.told.Delivered, .int .i64 ob47.told.Dropped, .int .i64 ob47.told.Lost] := hat51; refine nil (hK46 _ _ ?_); replace F : Fr a 35 [(0, .pointer (some ad50)), (6, .pointer (some qa21))] := F.sub ⟨rfl, rfl, trivial⟩; refine sr fun K58 hK58 => qm F fun a F => ?_; refine qv F (r_loads (cs := [.int .i64 t9.1.Number, .int .i64 t9.1.From, .int .i64 t9.1.To, .slice A15 t9.1.Data.length C16]) F rfl ag_40 sz_40 h23) fun a F => ?_; have h59 : BG j4 j5 c37 w55 (some ad50) (some (Bag.mk ob47.under ob47.next (api_Traffic.mk ob47.told.Sent (IntKind.i64.wrap (ob47.told.Twice + 1)) ob47.told.Delivered ob47.told.Dropped ob47.told.Lost))) := BG.mk hat51 h53; obtain ⟨t60, q61, H⟩ := bind_some H; refine qc F Try.func31 (bag_Bag_put.calls (m := m + 2) (pl hm0) B h59 h17 ⟨bj4.1, (Nat.lt_add_right _ bj4.2)⟩ ⟨bj5.1, (Nat.lt_add_right _ bj5.2.1), bj5.2.2⟩ (Nat.lt_add_right _ bj5.2.1) _ q61) ?_; rintro e w63 ⟨c62, rfl, E64, B, h66⟩; refine rt fun a F => ?_; replace E := E.trans E64 (fun x (q : x = j4 ∨ x = j5) => q.elim (fun q => Or.inl (Or.inl q)) (fun q => Or.inl (Or.inr (q)))); refine qa F fun a F => qa F fun a F => nil (hK58 _ _ ?_); refine wp_ret ?_; obtain rfl := si H; refine out2 F rfl rfl rfl ?_; exact ⟨cf (ct m) c62, rfl, E.lv B0, cfb, BG.rc h66 cfk cfk cfk (by omega)⟩
  replace H := im hb44 H; refine wct (fb F (congrArg not (dz hb44))) ?_; refine sr fun K45 hK45 => qm F fun a F => qa F fun a F => qa F fun a F => nil (hK45 _ _ ?_); replace F : Fr a 35 [(4, .int .i64 0), (5, .int .i64 t35.1)] := F.sub ⟨rfl, rfl, trivial⟩; refine wp_ret ?_; refine thenR ?_; obtain rfl := si H; refine out2 F rfl rfl rfl ?_; exact ⟨cf (ct m) c37, rfl, E.lv B0, cfb, BG.rc h41 cfk cfk cfk (by omega)⟩
 replace H := im hb31 H; refine wct (fb F (congrArg not (dz hb31))) ?_; refine sr fun K32 hK32 => qm F fun a F => qa F fun a F => qa F fun a F => nil (hK32 _ _ ?_); refine wp_ret ?_; refine thenR ?_; obtain rfl := si H; refine out2 F rfl rfl rfl ?_; exact ⟨cf (ct m) c19, rfl, E.lv B0, cfb, BG.rc h3 cfk cfk cfk (by omega)⟩
theorem haulagelaw20_same.calls (k : Nat) {m : Nat} {c0 : Nat → Nat} {w0 : World} {j5 : Nat} {j10 : Nat} {A2 : Option Addr} {C3 : Nat} {A7 : Option Addr} {C8 : Nat} {a1 : List Int} {a6 : List Int} (hm0 : 0 < m) (B0 : CB m c0 w0) (h4 : SL false (Kint .u8) j5 0 c0 w0 A2 C3 a1) (h9 : SL false (Kint .u8) j10 0 c0 w0 A7 C8 a6) (bj5 : j5 < m) (bj10 : j10 < m) (r : Bool) (H : haulagelaw20_same.f k a1 a6 = some r) : Calls Try.prog 19 #[.slice A2 a1.length C3, .slice A7 a6.length C8] w0 (fun e w_ => ∃ (c_ : Nat → Nat), e = .returned (.bool r) ∧ Ev (fun x => False) c0 w0 c_ w_ ∧ CB m c_ w_) := by
 unfold haulagelaw20_same.f at H; have B := B0.mono (show m ≤ m + 1 by omega); have E : Ev (fun x => False ∨ m ≤ x) c0 w0 c0 w0 := Ev.refl; refine enter (N := 26) (l := [.slice A2 a1.length C3, .slice A7 a6.length C8]) Try.func19 rfl rfl (nb rfl) fun a F => ?_; refine sr fun K11 hK11 => qa F fun a F => nil (hK11 _ _ ?_); refine sq fun K12 hK12 => ?_; refine sr fun K13 hK13 => qm F fun a F => ?_; refine qv F (r_lensl F Try.underlying27 rfl) fun a F => ?_; refine qm F fun a F => ?_; refine qv F (r_lensl F Try.underlying27 rfl) fun a F => ?_; refine qv F (r_neq F rfl rfl) fun a F => ?_; refine nil (hK13 _ _ ?_)
 by_cases hb14 : (a1.length : Int) = (a6.length : Int)
 ·replace H := ip hb14 H; refine wcf (fb F (congrArg not (dt hb14))) (wp_skip (hK12 _ _ ?_)); refine sq fun K16 hK16 => ?_; refine sr fun K17 hK17 => qa F fun a F => nil (hK17 _ _ ?_); refine wp_block ?_; obtain ⟨x28, HL, HR27⟩ := bind_some H; have J55 : ∀ (c56 : Nat → Nat) (w57 : World) (a : Act), Fr a 26 [] → Ev (fun x => False ∨ m ≤ x) c0 w0 c56 w57 → CB (m + 1) c56 w57 → haulagelaw20_same.j2 = some r → K16 a w57 := by
   intro c56 w57 a  F E B  H; unfold haulagelaw20_same.j2 at H; refine hK16 _ _ ?_; refine sr fun K58 hK58 => qa F fun a F => nil (hK58 _ _ ?_); refine wp_ret ?_; obtain rfl := si H; refine out1 F rfl rfl ?_; exact ⟨cf (ct m) c56, rfl, E.lv B0, cfb⟩
  refine loop_fuel (I := fun n a w => ∃ (i18 : Int) (c : Nat → Nat), Fr a 26 [(0, .slice A2 a1.length C3), (1, .slice A7 a6.length C8), (5, .int .i64 i18)] ∧ Ev (fun x => False ∨ m ≤ x) c0 w0 c w ∧ CB (m + 1) c w ∧ SL false (Kint .u8) j5 0 c w A2 C3 a1 ∧ SL false (Kint .u8) j10 0 c w A7 C8 a6 ∧ loop (fun (s_ : Int) => haulagelaw20_same.b1 a1 a6 s_) n i18 = some x28) (k := k) ⟨0, c0, F.sub ⟨rfl, rfl, rfl, trivial⟩, E, B, h4, h9, HL⟩ ?_; clear HL H E F B; intro n25 X21 hX21 a w20 ⟨i18, c19, F, E, B, h4, h9, HL⟩; obtain ⟨n26, ctl24, rfl, HB, HN22, HD23⟩ := loop_some HL; have H : haulagelaw20_same.b1 a1 a6 i18 = some ctl24 := HB; clear HB HL; unfold haulagelaw20_same.b1 at H; refine sq fun K29 hK29 => ?_; refine sr fun K30 hK30 => qm F fun a F => qm F fun a F => ?_; refine qv F (r_lensl F Try.underlying27 rfl) fun a F => ?_; refine qv F (r_lss F rfl rfl) fun a F => ?_; refine nil (hK30 _ _ ?_)
  by_cases hb31 : i18 < (a1.length : Int)
  ·replace H := ip hb31 H; refine wct (fb F (dt hb31)) (wp_skip (hK29 _ _ ?_)); refine sq fun K32 hK32 => ?_; refine wp_block ?_; refine sq fun K33 hK33 => ?_; refine regD (SB No c19 w20) 9 (.q 0 (.q 1 (.q 2 (.q 3 (.q 4 (.q 5 (.q 6 (.q 7 (.q 8 .nil))))))))) Try_hm (by decide +kernel) ?_; intro w34 w1_ w2_ w3_ w4_; have E35 : Ev No c19 w20 c19 w34 := Ev.same w1_ w2_ w3_ w4_; replace B := B.same w1_; have zh4 := h4; have zh9 := h9; have ER : Ev No c19 w20 c19 w34 := Ev.same w1_ w2_ w3_ w4_; replace h4 := h4.ev E35; replace h9 := h9.ev E35; replace E := E.n E35; refine dm F ER.sb fun a F => ?_; refine dm F ER.sb fun a F => ?_; replace H := ifN H; obtain ⟨g36, H⟩ := H; obtain ⟨ad37, cs38, e39, h40, r41⟩ := SL.at zh4 i18 g36.1 g36.2; obtain rfl : cs38 = [.int .u8 (rd a1 i18)] := r41; obtain ⟨qa42, qqa42⟩ : ∃ q, q = (ad37.add (i18.toNat * 1)) := ⟨_, rfl⟩; have h40 : AT false j5 c19 w20 qa42 [.int .u8 (rd a1 i18)] := by rw [qqa42]; exact h40
   have zh40 := h40; refine dq F (fun wq hS => r_indexAddr' F Try.underlying27 sz_5 rfl rfl g36.1 g36.2 e39 qqa42) ER.sb fun a F => ?_; refine dq F (fun wq hS => r_load F rfl ag_5 (AT.cell0 (AT.sb zh40 hS nq) rfl)) ER.sb fun a F => ?_; refine dm F ER.sb fun a F => ?_; refine dm F ER.sb fun a F => ?_; replace H := ifN H; obtain ⟨g44, H⟩ := H; obtain ⟨ad45, cs46, e47, h48, r49⟩ := SL.at zh9 i18 g44.1 g44.2; obtain rfl : cs46 = [.int .u8 (rd a6 i18)] := r49; obtain ⟨qa50, qqa50⟩ : ∃ q, q = (ad45.add (i18.toNat * 1)) := ⟨_, rfl⟩; have h48 : AT false j10 c19 w20 qa50 [.int .u8 (rd a6 i18)] := by rw [qqa50]; exact h48
   have zh48 := h48; refine dq F (fun wq hS => r_indexAddr' F Try.underlying27 sz_5 rfl rfl g44.1 g44.2 e47 qqa50) ER.sb fun a F => ?_; refine dq F (fun wq hS => r_load F rfl ag_5 (AT.cell0 (AT.sb zh48 hS nq) rfl)) ER.sb fun a F => ?_; refine dq F (fun wq hS => r_neq F rfl rfl) ER.sb fun a F => ?_; refine d_nil ?_; refine hK33 _ _ ?_; replace F : Fr a 26 [(0, .slice A2 a1.length C3), (1, .slice A7 a6.length C8), (5, .int .i64 i18), (25, .bool (!decide ((rd a1 i18) = (rd a6 i18))))] := F.sub ⟨rfl, rfl, rfl, rfl, trivial⟩
   by_cases hb52 : (rd a1 i18) = (rd a6 i18)
   ·replace H := ip hb52 H; refine wcf (fb F (congrArg not (dt hb52))) (wp_skip (hK32 _ _ ?_)); refine reg ?_; refine qm F fun a F => ?_; refine qv F (r_add F rfl rfl) fun a F => ?_; refine qa F fun a F => nil ?_; replace H := HN22 _ (si H).symm; exact hX21 _ _ _ (Nat.lt_succ_self _) ⟨(IntKind.i64.wrap (i18 + 1)), c19, F.sub ⟨rfl, rfl, rfl, trivial⟩, E, B, h4, h9, H⟩
   replace H := im hb52 H; refine wct (fb F (congrArg not (dz hb52))) ?_; refine sr fun K53 hK53 => qa F fun a F => nil (hK53 _ _ ?_); refine wp_ret ?_; refine inbR ?_; refine thenR ?_; refine thenR ?_; refine inbR ?_; refine thenR ?_; have hx_ := HD23 _ (si H).symm; have H := HR27; rw [← hx_] at H; replace H : some false = some r := H; obtain rfl := si H; refine out1 F rfl rfl ?_; exact ⟨cf (ct m) c19, rfl, E.lv B0, cfb⟩
  replace H := im hb31 H; refine wcf (fb F (dz hb31)) ?_; refine wp_exit ?_; refine thenE ?_; refine thenE ?_; refine inbE ?_; have hx_ := HD23 _ (si H).symm; have H := HR27; rw [← hx_] at H; exact J55 c19 w20 a  (F.sub trivial) E B  H
 replace H := im hb14 H; refine wct (fb F (congrArg not (dz hb14))) ?_; refine sr fun K15 hK15 => qa F fun a F => nil (hK15 _ _ ?_); refine wp_ret ?_; refine thenR ?_; obtain rfl := si H; refine out1 F rfl rfl ?_; exact ⟨cf (ct m) c0, rfl, E.lv B0, cfb⟩
theorem haulagelaw20_alike.calls (k : Nat) {m : Nat} {c0 : Nat → Nat} {w0 : World} {j5 : Nat} {j10 : Nat} {A2 : Option Addr} {C3 : Nat} {A7 : Option Addr} {C8 : Nat} {a1 : api_Letter} {a6 : api_Letter} (hm0 : 0 < m) (B0 : CB m c0 w0) (h4 : SL false (Kint .u8) j5 0 c0 w0 A2 C3 a1.Data) (h9 : SL false (Kint .u8) j10 0 c0 w0 A7 C8 a6.Data) (bj5 : j5 < m) (bj10 : j10 < m) (r : Bool) (H : haulagelaw20_alike.f k a1 a6 = some r) : Calls Try.prog 28 #[.agg #[.int .i64 a1.Number, .int .i64 a1.From, .int .i64 a1.To, .slice A2 a1.Data.length C3], .agg #[.int .i64 a6.Number, .int .i64 a6.From, .int .i64 a6.To, .slice A7 a6.Data.length C8]] w0 (fun e w_ => ∃ (c_ : Nat → Nat), e = .returned (.bool r) ∧ Ev (fun x => False) c0 w0 c_ w_ ∧ CB m c_ w_) := by
 unfold haulagelaw20_alike.f at H; have B := B0.mono (show m ≤ m + 3 by omega); have E : Ev (fun x => False ∨ m ≤ x) c0 w0 c0 w0 := Ev.refl; refine enter (N := 31) (l := [.agg #[.int .i64 a1.Number, .int .i64 a1.From, .int .i64 a1.To, .slice A2 a1.Data.length C3], .agg #[.int .i64 a6.Number, .int .i64 a6.From, .int .i64 a6.To, .slice A7 a6.Data.length C8]]) Try.func28 rfl rfl (nb rfl) fun a F => ?_; refine sr fun K11 hK11 => ?_; refine q_eff F rfl rfl (by decide) (e_box F (v := .agg #[.int .i64 a1.Number, .int .i64 a1.From, .int .i64 a1.To, .slice A2 a1.Data.length C3]) rfl c0 (m + 1)) ?_; rintro v w13 a ⟨c12, qa14, rfl, E15, h16, B17⟩ F; replace B := B17 _ B lm; replace E := E.n E15; replace h16 : AT _ _ _ _ _ [.int .i64 a1.Number, .int .i64 a1.From, .int .i64 a1.To, .slice A2 a1.Data.length C3] := h16; refine q_eff F rfl rfl (by decide) (e_box F (v := .agg #[.int .i64 a6.Number, .int .i64 a6.From, .int .i64 a6.To, .slice A7 a6.Data.length C8]) rfl c12 (m + 2)) ?_; rintro v w20 a ⟨c19, qa21, rfl, E22, h23, B24⟩ F; replace B := B24 _ B lm; replace h4 := (h4.ev E15).ev E22; replace h9 := (h9.ev E15).ev E22; replace h16 := h16.ev E22; replace E := E.n E22; replace h23 : AT _ _ _ _ _ [.int .i64 a6.Number, .int .i64 a6.From, .int .i64 a6.To, .slice A7 a6.Data.length C8] := h23; refine qa F fun a F => nil (hK11 _ _ ?_); refine sr fun K26 hK26 => qf F ff_40_0 fun a F => ?_; refine ql F ag_3 h16 fun a F => ?_; refine qf F ff_40_0 fun a F => ?_; refine ql F ag_3 h23 fun a F => ?_; refine qv F (r_eql F rfl rfl) fun a F => ?_; refine qm F fun a F => ?_
 by_cases hb27 : a1.Number = a6.Number
 ·replace H := ip hb27 H; refine qy F (dt hb27) ?_; refine qf F ff_40_1 fun a F => ?_; refine qy F (dt hb27) ?_; refine ql F ag_3 h16 fun a F => ?_; refine qy F (dt hb27) ?_; refine qf F ff_40_1 fun a F => ?_; refine qy F (dt hb27) ?_; refine ql F ag_3 h23 fun a F => ?_; refine qy F (dt hb27) ?_; refine qv F (r_eql F rfl rfl) fun a F => ?_; refine qv F (r_pick_t F rfl (dt hb27) rfl) fun a F => ?_; refine qm F fun a F => ?_
  by_cases hb28 : a1.From = a6.From
  ·replace H := ip hb28 H; refine qy F (dt hb28) ?_; refine qf F ff_40_2 fun a F => ?_; refine qy F (dt hb28) ?_; refine ql F ag_3 h16 fun a F => ?_; refine qy F (dt hb28) ?_; refine qf F ff_40_2 fun a F => ?_; refine qy F (dt hb28) ?_; refine ql F ag_3 h23 fun a F => ?_; refine qy F (dt hb28) ?_; refine qv F (r_eql F rfl rfl) fun a F => ?_; refine qv F (r_pick_t F rfl (dt hb28) rfl) fun a F => ?_; refine qm F fun a F => ?_
   by_cases hb29 : a1.To = a6.To
   ·replace H := ip hb29 H; refine qy F (dt hb29) ?_; refine qf F ff_40_3 fun a F => ?_; refine qy F (dt hb29) ?_; refine ql F ag_27 h16 fun a F => ?_; refine qy F (dt hb29) ?_; refine qf F ff_40_3 fun a F => ?_; refine qy F (dt hb29) ?_; refine ql F ag_27 h23 fun a F => ?_; obtain ⟨t30, q31, H⟩ := bind_some H; refine qy F (dt hb29) ?_; refine qc F Try.func19 (haulagelaw20_same.calls k (m := m + 3) (pl hm0) B h4 h9 (Nat.lt_add_right _ bj5) (Nat.lt_add_right _ bj10) _ q31) ?_; rintro e w33 ⟨c32, rfl, E34, B⟩; refine rt fun a F => ?_; replace E := E.n E34; refine qv F (r_pick_t F rfl (dt hb29) rfl) fun a F => ?_; refine qa F fun a F => nil (hK26 _ _ ?_); replace F : Fr a 31 [(4, .bool t30)] := F.sub ⟨rfl, trivial⟩; refine wp_ret ?_; obtain rfl := si H; refine out1 F rfl rfl ?_; exact ⟨cf (ct m) c32, rfl, E.lv B0, cfb⟩
   replace H := im hb29 H; refine qn F (dz hb29) fun a F => qn F (dz hb29) fun a F => qn F (dz hb29) fun a F => qn F (dz hb29) fun a F => qn F (dz hb29) fun a F => ?_; refine qv F (r_pick_f F rfl (dz hb29) rfl) fun a F => ?_; refine qa F fun a F => nil (hK26 _ _ ?_); replace F : Fr a 31 [(4, .bool false)] := F.sub ⟨rfl, trivial⟩; refine wp_ret ?_; obtain rfl := si H; refine out1 F rfl rfl ?_; exact ⟨cf (ct m) c19, rfl, E.lv B0, cfb⟩
  replace H := im hb28 H; refine qn F (dz hb28) fun a F => qn F (dz hb28) fun a F => qn F (dz hb28) fun a F => qn F (dz hb28) fun a F => qn F (dz hb28) fun a F => ?_; refine qv F (r_pick_f F rfl (dz hb28) rfl) fun a F => ?_; refine qm F fun a F => qn F rfl fun a F => qn F rfl fun a F => qn F rfl fun a F => qn F rfl fun a F => qn F rfl fun a F => ?_; refine qp F fun a F => ?_; refine qa F fun a F => nil (hK26 _ _ ?_); replace F : Fr a 31 [(4, .bool false)] := F.sub ⟨rfl, trivial⟩; refine wp_ret ?_; obtain rfl := si H; refine out1 F rfl rfl ?_; exact ⟨cf (ct m) c19, rfl, E.lv B0, cfb⟩
 replace H := im hb27 H; refine qn F (dz hb27) fun a F => qn F (dz hb27) fun a F => qn F (dz hb27) fun a F => qn F (dz hb27) fun a F => qn F (dz hb27) fun a F => ?_; refine qv F (r_pick_f F rfl (dz hb27) rfl) fun a F => ?_; refine qm F fun a F => qn F rfl fun a F => qn F rfl fun a F => qn F rfl fun a F => qn F rfl fun a F => qn F rfl fun a F => ?_; refine qp F fun a F => ?_; refine qm F fun a F => qn F rfl fun a F => qn F rfl fun a F => qn F rfl fun a F => qn F rfl fun a F => qn F rfl fun a F => ?_; refine qp F fun a F => ?_; refine qa F fun a F => nil (hK26 _ _ ?_); replace F : Fr a 31 [(4, .bool false)] := F.sub ⟨rfl, trivial⟩; refine wp_ret ?_; obtain rfl := si H; refine out1 F rfl rfl ?_; exact ⟨cf (ct m) c19, rfl, E.lv B0, cfb⟩
theorem haulagelaw20_ints.calls (k : Nat) {m : Nat} {c0 : Nat → Nat} {w0 : World} {j5 : Nat} {j10 : Nat} {A2 : Option Addr} {C3 : Nat} {A7 : Option Addr} {C8 : Nat} {a1 : List Int} {a6 : List Int} (hm0 : 0 < m) (B0 : CB m c0 w0) (h4 : SL false (Kint .i64) j5 0 c0 w0 A2 C3 a1) (h9 : SL false (Kint .i64) j10 0 c0 w0 A7 C8 a6) (bj5 : j5 < m) (bj10 : j10 < m) (r : Bool) (H : haulagelaw20_ints.f k a1 a6 = some r) : Calls Try.prog 20 #[.slice A2 a1.length C3, .slice A7 a6.length C8] w0 (fun e w_ => ∃ (c_ : Nat → Nat), e = .returned (.bool r) ∧ Ev (fun x => False) c0 w0 c_ w_ ∧ CB m c_ w_) := by
 unfold haulagelaw20_ints.f at H; have B := B0.mono (show m ≤ m + 1 by omega); have E : Ev (fun x => False ∨ m ≤ x) c0 w0 c0 w0 := Ev.refl; refine enter (N := 26) (l := [.slice A2 a1.length C3, .slice A7 a6.length C8]) Try.func20 rfl rfl (nb rfl) fun a F => ?_; refine sr fun K11 hK11 => qa F fun a F => nil (hK11 _ _ ?_); refine sq fun K12 hK12 => ?_; refine sr fun K13 hK13 => qm F fun a F => ?_; refine qv F (r_lensl F Try.underlying36 rfl) fun a F => ?_; refine qm F fun a F => ?_; refine qv F (r_lensl F Try.underlying36 rfl) fun a F => ?_; refine qv F (r_neq F rfl rfl) fun a F => ?_; refine nil (hK13 _ _ ?_)
 by_cases hb14 : (a1.length : Int) = (a6.length : Int)
 ·replace H := ip hb14 H; refine wcf (fb F (congrArg not (dt hb14))) (wp_skip (hK12 _ _ ?_)); refine sq fun K16 hK16 => ?_; refine sr fun K17 hK17 => qa F fun a F => nil (hK17 _ _ ?_); refine wp_block ?_; obtain ⟨x28, HL, HR27⟩ := bind_some H; have J55 : ∀ (c56 : Nat → Nat) (w57 : World) (a : Act), Fr a 26 [] → Ev (fun x => False ∨ m ≤ x) c0 w0 c56 w57 → CB (m + 1) c56 w57 → haulagelaw20_ints.j2 = some r → K16 a w57 := by
   intro c56 w57 a  F E B  H; unfold haulagelaw20_ints.j2 at H; refine hK16 _ _ ?_; refine sr fun K58 hK58 => qa F fun a F => nil (hK58 _ _ ?_); refine wp_ret ?_; obtain rfl := si H; refine out1 F rfl rfl ?_; exact ⟨cf (ct m) c56, rfl, E.lv B0, cfb⟩
  refine loop_fuel (I := fun n a w => ∃ (i18 : Int) (c : Nat → Nat), Fr a 26 [(0, .slice A2 a1.length C3), (1, .slice A7 a6.length C8), (5, .int .i64 i18)] ∧ Ev (fun x => False ∨ m ≤ x) c0 w0 c w ∧ CB (m + 1) c w ∧ SL false (Kint .i64) j5 0 c w A2 C3 a1 ∧ SL false (Kint .i64) j10 0 c w A7 C8 a6 ∧ loop (fun (s_ : Int) => haulagelaw20_ints.b1 a1 a6 s_) n i18 = some x28) (k := k) ⟨0, c0, F.sub ⟨rfl, rfl, rfl, trivial⟩, E, B, h4, h9, HL⟩ ?_; clear HL H E F B; intro n25 X21 hX21 a w20 ⟨i18, c19, F, E, B, h4, h9, HL⟩; obtain ⟨n26, ctl24, rfl, HB, HN22, HD23⟩ := loop_some HL; have H : haulagelaw20_ints.b1 a1 a6 i18 = some ctl24 := HB; clear HB HL; unfold haulagelaw20_ints.b1 at H; refine sq fun K29 hK29 => ?_; refine sr fun K30 hK30 => qm F fun a F => qm F fun a F => ?_; refine qv F (r_lensl F Try.underlying36 rfl) fun a F => ?_; refine qv F (r_lss F rfl rfl) fun a F => ?_; refine nil (hK30 _ _ ?_)
  by_cases hb31 : i18 < (a1.length : Int)
  ·replace H := ip hb31 H; refine wct (fb F (dt hb31)) (wp_skip (hK29 _ _ ?_)); refine sq fun K32 hK32 => ?_; refine wp_block ?_; refine sq fun K33 hK33 => ?_; refine regD (SB No c19 w20) 9 (.q 0 (.q 1 (.q 2 (.q 3 (.q 4 (.q 5 (.q 6 (.q 7 (.q 8 .nil))))))))) Try_hm (by decide +kernel) ?_; intro w34 w1_ w2_ w3_ w4_; have E35 : Ev No c19 w20 c19 w34 := Ev.same w1_ w2_ w3_ w4_; replace B := B.same w1_; have zh4 := h4; have zh9 := h9; have ER : Ev No c19 w20 c19 w34 := Ev.same w1_ w2_ w3_ w4_; replace h4 := h4.ev E35; replace h9 := h9.ev E35; replace E := E.n E35; refine dm F ER.sb fun a F => ?_; refine dm F ER.sb fun a F => ?_; replace H := ifN H; obtain ⟨g36, H⟩ := H; obtain ⟨ad37, cs38, e39, h40, r41⟩ := SL.at zh4 i18 g36.1 g36.2; obtain rfl : cs38 = [.int .i64 (rd a1 i18)] := r41; obtain ⟨qa42, qqa42⟩ : ∃ q, q = (ad37.add (i18.toNat * 1)) := ⟨_, rfl⟩; have h40 : AT false j5 c19 w20 qa42 [.int .i64 (rd a1 i18)] := by rw [qqa42]; exact h40
   have zh40 := h40; refine dq F (fun wq hS => r_indexAddr' F Try.underlying36 sz_3 rfl rfl g36.1 g36.2 e39 qqa42) ER.sb fun a F => ?_; refine dq F (fun wq hS => r_load F rfl ag_3 (AT.cell0 (AT.sb zh40 hS nq) rfl)) ER.sb fun a F => ?_; refine dm F ER.sb fun a F => ?_; refine dm F ER.sb fun a F => ?_; replace H := ifN H; obtain ⟨g44, H⟩ := H; obtain ⟨ad45, cs46, e47, h48, r49⟩ := SL.at zh9 i18 g44.1 g44.2; obtain rfl : cs46 = [.int .i64 (rd a6 i18)] := r49; obtain ⟨qa50, qqa50⟩ : ∃ q, q = (ad45.add (i18.toNat * 1)) := ⟨_, rfl⟩; have h48 : AT false j10 c19 w20 qa50 [.int .i64 (rd a6 i18)] := by rw [qqa50]; exact h48
   have zh48 := h48; refine dq F (fun wq hS => r_indexAddr' F Try.underlying36 sz_3 rfl rfl g44.1 g44.2 e47 qqa50) ER.sb fun a F => ?_; refine dq F (fun wq hS => r_load F rfl ag_3 (AT.cell0 (AT.sb zh48 hS nq) rfl)) ER.sb fun a F => ?_; refine dq F (fun wq hS => r_neq F rfl rfl) ER.sb fun a F => ?_; refine d_nil ?_; refine hK33 _ _ ?_; replace F : Fr a 26 [(0, .slice A2 a1.length C3), (1, .slice A7 a6.length C8), (5, .int .i64 i18), (25, .bool (!decide ((rd a1 i18) = (rd a6 i18))))] := F.sub ⟨rfl, rfl, rfl, rfl, trivial⟩
   by_cases hb52 : (rd a1 i18) = (rd a6 i18)
   ·replace H := ip hb52 H; refine wcf (fb F (congrArg not (dt hb52))) (wp_skip (hK32 _ _ ?_)); refine reg ?_; refine qm F fun a F => ?_; refine qv F (r_add F rfl rfl) fun a F => ?_; refine qa F fun a F => nil ?_; replace H := HN22 _ (si H).symm; exact hX21 _ _ _ (Nat.lt_succ_self _) ⟨(IntKind.i64.wrap (i18 + 1)), c19, F.sub ⟨rfl, rfl, rfl, trivial⟩, E, B, h4, h9, H⟩
   replace H := im hb52 H; refine wct (fb F (congrArg not (dz hb52))) ?_; refine sr fun K53 hK53 => qa F fun a F => nil (hK53 _ _ ?_); refine wp_ret ?_; refine inbR ?_; refine thenR ?_; refine thenR ?_; refine inbR ?_; refine thenR ?_; have hx_ := HD23 _ (si H).symm; have H := HR27; rw [← hx_] at H; replace H : some false = some r := H; obtain rfl := si H; refine out1 F rfl rfl ?_; exact ⟨cf (ct m) c19, rfl, E.lv B0, cfb⟩
  replace H := im hb31 H; refine wcf (fb F (dz hb31)) ?_; refine wp_exit ?_; refine thenE ?_; refine thenE ?_; refine inbE ?_; have hx_ := HD23 _ (si H).symm; have H := HR27; rw [← hx_] at H; exact J55 c19 w20 a  (F.sub trivial) E B  H
 replace H := im hb14 H; refine wct (fb F (congrArg not (dz hb14))) ?_; refine sr fun K15 hK15 => qa F fun a F => nil (hK15 _ _ ?_); refine wp_ret ?_; refine thenR ?_; obtain rfl := si H; refine out1 F rfl rfl ?_; exact ⟨cf (ct m) c0, rfl, E.lv B0, cfb⟩
theorem haulagelaw20_kept.calls (k : Nat) {m : Nat} {c0 : Nat → Nat} {w0 : World} {j5 : Nat} {j10 : Nat} {A2 : Option Addr} {C3 : Nat} {A7 : Option Addr} {C8 : Nat} {a1 : List Int} {a6 : List Int} (hm0 : 0 < m) (B0 : CB m c0 w0) (h4 : SL false (Kint .u8) j5 0 c0 w0 A2 C3 (a1 ++ [201, 202, 203])) (h9 : SL false (Kint .u8) j10 0 c0 w0 A7 C8 a6) (bj5 : j5 < m) (bj10 : j10 < m) (r : Bool) (H : haulagelaw20_kept.f k a1 a6 = some r) : Calls Try.prog 37 #[.slice A2 a1.length C3, .slice A7 a6.length C8] w0 (fun e w_ => ∃ (c_ : Nat → Nat), e = .returned (.bool r) ∧ Ev (fun x => False) c0 w0 c_ w_ ∧ CB m c_ w_) := by
 unfold haulagelaw20_kept.f at H; have B := B0.mono (show m ≤ m + 1 by omega); have E : Ev (fun x => False ∨ m ≤ x) c0 w0 c0 w0 := Ev.refl; refine enter (N := 40) (l := [.slice A2 a1.length C3, .slice A7 a6.length C8]) Try.func37 rfl rfl (nb rfl) fun a F => ?_; refine sr fun K11 hK11 => qa F fun a F => nil (hK11 _ _ ?_); refine sr fun K12 hK12 => qm F fun a F => qm F fun a F => ?_; refine qv F (r_lensl F Try.underlying27 rfl) fun a F => ?_; refine qv F (r_add F rfl rfl) fun a F => ?_; replace H := ifN H; obtain ⟨g13, H⟩ := H; obtain ⟨A14, C15, r16, h17⟩ := cut_hK (kh := .i64) Try.underlying27 sz_5 h4 g13; refine qv F (r_slice (vl := none) (vh := some (.int .i64 (IntKind.i64.wrap ((a1.length : Int) + 3)))) (vm := none) F rfl rfl rfl rfl r16) fun a F => ?_; refine qa F fun a F => nil (hK12 _ _ ?_); refine sr fun K18 hK18 => qm F fun a F => ?_; refine qv F (r_lensl F Try.underlying27 rfl) fun a F => ?_; refine qa F fun a F => nil (hK18 _ _ ?_); replace F : Fr a 40 [(0, .slice A2 a1.length C3), (1, .slice A7 a6.length C8), (5, .slice A14 (List.take (IntKind.i64.wrap ((a1.length : Int) + 3)).toNat (a1 ++ [201, 202, 203])).length C15), (6, .int .i64 (a1.length : Int))] := F.sub ⟨rfl, rfl, rfl, rfl, trivial⟩; refine sr fun K19 hK19 => qm F fun a F => qm F fun a F => ?_; obtain ⟨t20, q21, H⟩ := bind_some H; refine qc F Try.func19 (haulagelaw20_same.calls k (m := m + 1) (pl hm0) B (SLM.v h4) h9 (Nat.lt_add_right _ bj5) (Nat.lt_add_right _ bj10) _ q21) ?_; rintro e w23 ⟨c22, rfl, E24, B⟩; refine rt fun a F => ?_; replace h17 := h17.ev E24; replace E := E.n E24; refine qm F fun a F => ?_
 by_cases hb27 : t20 = true
 ·replace H := ip hb27 H; refine qy F hb27 ?_; refine qm F fun a F => ?_; refine qy F hb27 ?_; refine qm F fun a F => ?_; replace H := ifN H; obtain ⟨g28, H⟩ := H; obtain ⟨ad29, cs30, e31, h32, r33⟩ := SL.at h17 (a1.length : Int) g28.1 g28.2; obtain rfl : cs30 = [.int .u8 (rd (List.take (IntKind.i64.wrap ((a1.length : Int) + 3)).toNat (a1 ++ [201, 202, 203])) (a1.length : Int))] := r33; obtain ⟨qa34, qqa34⟩ : ∃ q, q = (ad29.add ((a1.length : Int).toNat * 1)) := ⟨_, rfl⟩; have h32 : AT false j5 c22 w23 qa34 [.int .u8 (rd (List.take (IntKind.i64.wrap ((a1.length : Int) + 3)).toNat (a1 ++ [201, 202, 203])) (a1.length : Int))] := by rw [qqa34]; exact h32
  refine qy F hb27 ?_; refine qv F (r_indexAddr' F Try.underlying27 sz_5 rfl rfl g28.1 g28.2 e31 qqa34) fun a F => ?_; refine qy F hb27 ?_; refine qv F (r_load F rfl ag_5 (AT.cell0 h32 rfl)) fun a F => ?_; refine qy F hb27 ?_; refine qv F (r_eql F rfl rfl) fun a F => ?_; refine qv F (r_pick_t F rfl hb27 rfl) fun a F => ?_; refine qm F fun a F => ?_
  by_cases hb36 : (rd (List.take (IntKind.i64.wrap ((a1.length : Int) + 3)).toNat (a1 ++ [201, 202, 203])) (a1.length : Int)) = 201
  ·replace H := ip hb36 H; refine qy F (dt hb36) ?_; refine qm F fun a F => ?_; refine qy F (dt hb36) ?_; refine qm F fun a F => ?_; refine qy F (dt hb36) ?_; refine qv F (r_add F rfl rfl) fun a F => ?_; replace H := ifN H; obtain ⟨g37, H⟩ := H; obtain ⟨ad38, cs39, e40, h41, r42⟩ := SL.at h17 (IntKind.i64.wrap ((a1.length : Int) + 1)) g37.1 g37.2; obtain rfl : cs39 = [.int .u8 (rd (List.take (IntKind.i64.wrap ((a1.length : Int) + 3)).toNat (a1 ++ [201, 202, 203])) (IntKind.i64.wrap ((a1.length : Int) + 1)))] := r42; obtain ⟨qa43, qqa43⟩ : ∃ q, q = (ad38.add ((IntKind.i64.wrap ((a1.length : Int) + 1)).toNat * 1)) := ⟨_, rfl⟩; have h41 : AT false j5 c22 w23 qa43 [.int .u8 (rd (List.take (IntKind.i64.wrap ((a1.length : Int) + 3)).toNat (a1 ++ [201, 202, 203])) (IntKind.i64.wrap ((a1.length : Int) + 1)))] := by rw [qqa43]; exact h41
   refine qy F (dt hb36) ?_; refine qv F (r_indexAddr' F Try.underlying27 sz_5 rfl rfl g37.1 g37.2 e40 qqa43) fun a F => ?_; refine qy F (dt hb36) ?_; refine qv F (r_load F rfl ag_5 (AT.cell0 h41 rfl)) fun a F => ?_; refine qy F (dt hb36) ?_; refine qv F (r_eql F rfl rfl) fun a F => ?_; refine qv F (r_pick_t F rfl (dt hb36) rfl) fun a F => ?_; refine qm F fun a F => ?_
   by_cases hb45 : (rd (List.take (IntKind.i64.wrap ((a1.length : Int) + 3)).toNat (a1 ++ [201, 202, 203])) (IntKind.i64.wrap ((a1.length : Int) + 1))) = 202
   ·replace H := ip hb45 H; refine qy F (dt hb45) ?_; refine qm F fun a F => ?_; refine qy F (dt hb45) ?_; refine qm F fun a F => ?_; refine qy F (dt hb45) ?_; refine qv F (r_add F rfl rfl) fun a F => ?_; replace H := ifN H; obtain ⟨g46, H⟩ := H; obtain ⟨ad47, cs48, e49, h50, r51⟩ := SL.at h17 (IntKind.i64.wrap ((a1.length : Int) + 2)) g46.1 g46.2; obtain rfl : cs48 = [.int .u8 (rd (List.take (IntKind.i64.wrap ((a1.length : Int) + 3)).toNat (a1 ++ [201, 202, 203])) (IntKind.i64.wrap ((a1.length : Int) + 2)))] := r51; obtain ⟨qa52, qqa52⟩ : ∃ q, q = (ad47.add ((IntKind.i64.wrap ((a1.length : Int) + 2)).toNat * 1)) := ⟨_, rfl⟩; have h50 : AT false j5 c22 w23 qa52 [.int .u8 (rd (List.take (IntKind.i64.wrap ((a1.length : Int) + 3)).toNat (a1 ++ [201, 202, 203])) (IntKind.i64.wrap ((a1.length : Int) + 2)))] := by rw [qqa52]; exact h50
    refine qy F (dt hb45) ?_; refine qv F (r_indexAddr' F Try.underlying27 sz_5 rfl rfl g46.1 g46.2 e49 qqa52) fun a F => ?_; refine qy F (dt hb45) ?_; refine qv F (r_load F rfl ag_5 (AT.cell0 h50 rfl)) fun a F => ?_; refine qy F (dt hb45) ?_; refine qv F (r_eql F rfl rfl) fun a F => ?_; refine qv F (r_pick_t F rfl (dt hb45) rfl) fun a F => ?_; refine qa F fun a F => nil (hK19 _ _ ?_); replace F : Fr a 40 [(4, .bool (decide ((rd (List.take (IntKind.i64.wrap ((a1.length : Int) + 3)).toNat (a1 ++ [201, 202, 203])) (IntKind.i64.wrap ((a1.length : Int) + 2))) = 203)))] := F.sub ⟨rfl, trivial⟩; refine wp_ret ?_; obtain rfl := si H; refine out1 F rfl rfl ?_; exact ⟨cf (ct m) c22, rfl, E.lv B0, cfb⟩
   replace H := im hb45 H; refine qn F (dz hb45) fun a F => qn F (dz hb45) fun a F => qn F (dz hb45) fun a F => qn F (dz hb45) fun a F => qn F (dz hb45) fun a F => qn F (dz hb45) fun a F => ?_; refine qv F (r_pick_f F rfl (dz hb45) rfl) fun a F => ?_; refine qa F fun a F => nil (hK19 _ _ ?_); replace F : Fr a 40 [(4, .bool false)] := F.sub ⟨rfl, trivial⟩; refine wp_ret ?_; obtain rfl := si H; refine out1 F rfl rfl ?_; exact ⟨cf (ct m) c22, rfl, E.lv B0, cfb⟩
  replace H := im hb36 H; refine qn F (dz hb36) fun a F => qn F (dz hb36) fun a F => qn F (dz hb36) fun a F => qn F (dz hb36) fun a F => qn F (dz hb36) fun a F => qn F (dz hb36) fun a F => ?_; refine qv F (r_pick_f F rfl (dz hb36) rfl) fun a F => ?_; refine qm F fun a F => qn F rfl fun a F => qn F rfl fun a F => qn F rfl fun a F => qn F rfl fun a F => qn F rfl fun a F => qn F rfl fun a F => ?_; refine qp F fun a F => ?_; refine qa F fun a F => nil (hK19 _ _ ?_); replace F : Fr a 40 [(4, .bool false)] := F.sub ⟨rfl, trivial⟩; refine wp_ret ?_; obtain rfl := si H; refine out1 F rfl rfl ?_; exact ⟨cf (ct m) c22, rfl, E.lv B0, cfb⟩
 replace H := im hb27 H; refine qn F (bfalse hb27) fun a F => qn F (bfalse hb27) fun a F => qn F (bfalse hb27) fun a F => qn F (bfalse hb27) fun a F => qn F (bfalse hb27) fun a F => ?_; refine qv F (r_pick_f F rfl (bfalse hb27) rfl) fun a F => ?_; refine qm F fun a F => qn F rfl fun a F => qn F rfl fun a F => qn F rfl fun a F => qn F rfl fun a F => qn F rfl fun a F => qn F rfl fun a F => ?_; refine qp F fun a F => ?_; refine qm F fun a F => qn F rfl fun a F => qn F rfl fun a F => qn F rfl fun a F => qn F rfl fun a F => qn F rfl fun a F => qn F rfl fun a F => ?_; refine qp F fun a F => ?_; refine qa F fun a F => nil (hK19 _ _ ?_); replace F : Fr a 40 [(4, .bool false)] := F.sub ⟨rfl, trivial⟩; refine wp_ret ?_; obtain rfl := si H; refine out1 F rfl rfl ?_; exact ⟨cf (ct m) c22, rfl, E.lv B0, cfb⟩
theorem haulagelaw20_lent.calls {m : Nat} {c0 : Nat → Nat} {w0 : World} {j5 : Nat} {A2 : Option Addr} {C3 : Nat} {a1 : List Int} (hm0 : 0 < m) (B0 : CB m c0 w0) (h4 : SL false (Kint .u8) j5 0 c0 w0 A2 C3 a1) (bj5 : j5 < m) (jr47 : Nat) (bjr47 : jr47 < m) (r : (List Int)) (H : haulagelaw20_lent.f a1 = some r) : Calls Try.prog 11 #[.slice A2 a1.length C3] w0 (fun e w_ => ∃ (c_ : Nat → Nat) (A0_ : Option Addr) (C0_ : Nat), e = .returned (.slice A0_ r.length C0_) ∧ Ev (fun x => False) c0 w0 c_ w_ ∧ CB m c_ w_ ∧ SL true (Kint .u8) jr47 0 c_ w_ A0_ C0_ (r ++ [201, 202, 203])) := by
 unfold haulagelaw20_lent.f at H; have B := B0.mono (show m ≤ m + 2 by omega); have E : Ev (fun x => False ∨ m ≤ x) c0 w0 c0 w0 := Ev.refl; refine enter (N := 18) (l := [.slice A2 a1.length C3]) Try.func11 rfl rfl (nb rfl) fun a F => ?_; refine sr fun K6 hK6 => qa F fun a F => nil (hK6 _ _ ?_); refine sr fun K7 hK7 => qm F fun a F => ?_; refine qv F (r_lensl F Try.underlying27 rfl) fun a F => ?_; refine qv F (r_add F rfl rfl) fun a F => ?_; replace H := ifN H; obtain ⟨g8, H⟩ := H; refine q_eff F rfl rfl (by decide) (e_make (k := (Kint .u8)) (x0 := 0) F et_27 rfl rfl (fun _ _ _ => rfl) (by decide) g8 c0 (m + 1) 0) ?_; rintro v w10 a ⟨c9, A11, C12, rfl, E13, h14, B15⟩ F; replace B := B15 _ B lm; replace h4 := h4.ev E13; replace E := E.n E13; refine qa F fun a F => nil (hK7 _ _ ?_); refine sr fun K16 hK16 => qm F fun a F => qm F fun a F => ?_; replace H := ifN H; obtain ⟨g17, H⟩ := H; refine q_eff F rfl rfl (by decide) (e_append (k := (Kint .u8)) (xs := (List.replicate (0 : Int).toNat (0 : Int))) (ys := a1) (c := c9) (j := (m + 1)) (i := 0) F et_27 rfl rfl h14 h4 g17 (len_ok g17) ne_zm) ?_; rintro v w19 a ⟨c18, A20, C21, rfl, E22, h23, B24⟩ F; replace B := B24 _ B lm; replace E := E.trans E22 lc1; refine qa F fun a F => nil (hK16 _ _ ?_); replace F : Fr a 18 [(0, .slice A2 a1.length C3), (3, .slice A20 ((List.replicate (0 : Int).toNat (0 : Int)) ++ a1).length C21)] := F.sub ⟨rfl, rfl, trivial⟩; refine sr fun K25 hK25 => qm F fun a F => ?_; refine q_eff F rfl rfl (by decide) (e_buildSlice (n := 3) (e := 5) (c := c18) (k := (Kint .u8)) (i := 0) F [(0, .int .u8 201), (1, .int .u8 202), (2, .int .u8 203)] [.int .u8 201, .int .u8 202, .int .u8 203] ([201, 202, 203] : List Int) (by exact ⟨rfl, rfl, rfl, rfl, rfl, rfl, trivial⟩) (fun w => by kernel_rfl) rfl (by decide) rfl ⟨rfl, rfl, rfl, trivial⟩ (fun q => q) 0) ?_; rintro v w27 a ⟨c26, A28, C29, rfl, E30, h31, B32⟩ F; replace B := B32 _ B (pl hm0); replace h23 := h23.ev E30; replace E := E.n E30; replace H := ifN H; obtain ⟨g33, H⟩ := H; refine q_eff F rfl rfl (by decide) (e_append (k := (Kint .u8)) (xs := ((List.replicate (0 : Int).toNat (0 : Int)) ++ a1)) (ys := [201, 202, 203]) (c := c26) (j := (m + 1)) (i := 0) F et_27 rfl rfl h23 h31 g33 (len_ok g33) ne_zm) ?_; rintro v w35 a ⟨c34, A36, C37, rfl, E38, h39, B40⟩ F; replace B := B40 _ B lm; replace E := E.trans E38 lc1; refine qa F fun a F => nil (hK25 _ _ ?_); refine sr fun K41 hK41 => qm F fun a F => qm F fun a F => ?_; refine qv F (r_lensl F Try.underlying27 rfl) fun a F => ?_; replace H := ifN H; obtain ⟨g42, H⟩ := H; obtain ⟨A43, C44, r45, h46⟩ := cut_hM (kh := .i64) Try.underlying27 sz_5 h39 g42; refine qv F (r_slice (vl := none) (vh := some (.int .i64 (a1.length : Int))) (vm := none) F rfl rfl rfl rfl r45) fun a F => ?_; refine qa F fun a F => nil (hK41 _ _ ?_); replace F : Fr a 18 [(2, .slice A43 ((List.replicate (0 : Int).toNat (0 : Int)) ++ a1).length C44)] := F.sub ⟨rfl, trivial⟩; refine wp_ret ?_; obtain rfl := si H; refine out1 F rfl rfl ?_
 exact ⟨cf (fun x_ => if x_ = m + 1 then jr47 else if x_ < m then x_ else 0) c34, A43, C44, rfl, E.lv B0, cfb, SL.rc h46 cfk cfk⟩
theorem haulagelaw20_num.calls {m : Nat} {c0 : Nat → Nat} {w0 : World} {a1 : Int} (hm0 : 0 < m) (B0 : CB m c0 w0) (r : Int) (H : haulagelaw20_num.f a1 = some r) : Calls Try.prog 13 #[.int .i64 a1] w0 (fun e w_ => ∃ (c_ : Nat → Nat), e = .returned (.int .i64 r) ∧ Ev (fun x => False) c0 w0 c_ w_ ∧ CB m c_ w_) := by
 unfold haulagelaw20_num.f at H; have B := B0.mono (show m ≤ m + 1 by omega); have E : Ev (fun x => False ∨ m ≤ x) c0 w0 c0 w0 := Ev.refl; refine enter (N := 4) (l := [.int .i64 a1]) Try.func13 rfl rfl (nb rfl) fun a F => ?_; refine sr fun K2 hK2 => qa F fun a F => nil (hK2 _ _ ?_); refine sr fun K3 hK3 => qm F fun a F => qa F fun a F => nil (hK3 _ _ ?_); refine wp_ret ?_; obtain rfl := si H; refine out1 F rfl rfl ?_; exact ⟨cf (ct m) c0, rfl, E.lv B0, cfb⟩
theorem haulagelaw20_over.calls (k : Nat) {m : Nat} {c0 : Nat → Nat} {w0 : World} {j5 : Nat} {A2 : Option Addr} {C3 : Nat} {a1 : List Int} (hm0 : 0 < m) (B0 : CB m c0 w0) (h4 : SL true (Kint .u8) j5 0 c0 w0 A2 C3 a1) (bj5 : 0 < j5 ∧ j5 < m) (r : (List Int)) (H : haulagelaw20_over.f k a1 = some r) : Calls Try.prog 14 #[.slice A2 a1.length C3] w0 (fun e w_ => ∃ (c_ : Nat → Nat), e = .returned (.tuple #[]) ∧ Ev (fun x => (x = j5)) c0 w0 c_ w_ ∧ CB m c_ w_ ∧ SL true (Kint .u8) j5 0 c_ w_ A2 C3 r ∧ r.length = a1.length) := by
 unfold haulagelaw20_over.f at H; have B := B0.mono (show m ≤ m + 1 by omega); have E : Ev (fun x => (x = j5) ∨ m ≤ x) c0 w0 c0 w0 := Ev.refl; refine enter (N := 17) (l := [.slice A2 a1.length C3]) Try.func14 rfl rfl (nb rfl) fun a F => ?_; refine sr fun K6 hK6 => qa F fun a F => nil (hK6 _ _ ?_); refine wp_block ?_; obtain ⟨x56, HL, HR55⟩ := bind_some H; have J88 : ∀ (c89 : Nat → Nat) (w90 : World) (a : Act) (l87 : List Int), Fr a 17 [] → Ev (fun x => (x = j5) ∨ m ≤ x) c0 w0 c89 w90 → CB (m + 1) c89 w90 → SL true (Kint .u8) j5 0 c89 w90 A2 C3 l87 → haulagelaw20_over.j2 a1 l87 = some r → (bodyPost Try.prog Try.f14 (fun e w_ => ∃ (c_ : Nat → Nat), e = .returned (.tuple #[]) ∧ Ev (fun x => (x = j5)) c0 w0 c_ w_ ∧ CB m c_ w_ ∧ SL true (Kint .u8) j5 0 c_ w_ A2 C3 r ∧ r.length = a1.length) .normal) a w90 := by
  intro c89 w90 a l87 F E B h86 H; unfold haulagelaw20_over.j2 at H; replace H := ifN H; obtain ⟨hl91, H⟩ := H; obtain rfl := si H
  first | refine out0n F rfl ?_ | refine inbN (out0n F rfl ?_) | refine inbN (inbN (out0n F rfl ?_)) | refine inbN (inbN (inbN (out0n F rfl ?_)))
  exact ⟨cf (ct m) c89, rfl, E.lv B0, cfb, SL.rc h86 cfk cfk, hl91⟩
 refine loop_fuel (I := fun n a w => ∃ (l45 : List Int) (i46 : Int) (c : Nat → Nat), Fr a 17 [(0, .slice A2 l45.length C3), (2, .int .i64 i46)] ∧ Ev (fun x => (x = j5) ∨ m ≤ x) c0 w0 c w ∧ CB (m + 1) c w ∧ SL true (Kint .u8) j5 0 c w A2 C3 l45 ∧ loop (fun (s_ : (List Int) × Int) => haulagelaw20_over.b1 s_.1 s_.2) n (l45, i46) = some x56) (k := k) ⟨a1, 0, c0, F.sub ⟨rfl, rfl, trivial⟩, E, B, h4, HL⟩ ?_; clear HL H E F B; intro n53 X49 hX49 a w48 ⟨l45, i46, c47, F, E, B, h44, HL⟩; obtain ⟨n54, ctl52, rfl, HB, HN50, HD51⟩ := loop_some HL; have H : haulagelaw20_over.b1 l45 i46 = some ctl52 := HB; clear HB HL; unfold haulagelaw20_over.b1 at H; refine sq fun K57 hK57 => ?_; refine sr fun K58 hK58 => qm F fun a F => qm F fun a F => ?_; refine qv F (r_lensl F Try.underlying27 rfl) fun a F => ?_; refine qv F (r_lss F rfl rfl) fun a F => ?_; refine nil (hK58 _ _ ?_)
 by_cases hb59 : i46 < (l45.length : Int)
 ·replace H := ip hb59 H; refine wct (fb F (dt hb59)) (wp_skip (hK57 _ _ ?_)); refine sq fun K60 hK60 => ?_; refine wp_block ?_; refine reg ?_; refine qm F fun a F => qm F fun a F => qm F fun a F => qm F fun a F => ?_; replace H := ifN H; obtain ⟨g61, H⟩ := H; obtain ⟨ad62, cs63, e64, h65, r66⟩ := SL.at h44 i46 g61.1 g61.2; obtain rfl : cs63 = [.int .u8 (rd l45 i46)] := r66; obtain ⟨qa67, qqa67⟩ : ∃ q, q = (ad62.add (i46.toNat * 1)) := ⟨_, rfl⟩; have h65 : AT true j5 c47 w48 qa67 [.int .u8 (rd l45 i46)] := by rw [qqa67]; exact h65
  refine qv F (r_indexAddr' F Try.underlying27 sz_5 rfl rfl g61.1 g61.2 e64 qqa67) fun a F => ?_; refine qv F (r_load F rfl ag_5 (AT.cell0 h65 rfl)) fun a F => ?_; refine qv F (r_sub F rfl rfl) fun a F => ?_; replace H := ifN H; obtain ⟨g69, H⟩ := H; obtain ⟨ad70, cs71, e72, h73, r74⟩ := SL.at h44 i46 g69.1 g69.2; obtain rfl : cs71 = [.int .u8 (rd l45 i46)] := r74; obtain ⟨qa75, qqa75⟩ : ∃ q, q = (ad70.add (i46.toNat * 1)) := ⟨_, rfl⟩; have h73 : AT true j5 c47 w48 qa75 [.int .u8 (rd l45 i46)] := by rw [qqa75]; exact h73
  refine qv F (r_indexAddr' F Try.underlying27 sz_5 rfl rfl g69.1 g69.2 e72 qqa75) fun a F => ?_; refine q_eff0 F rfl rfl (e_storeel0 (k := (Kint .u8)) F rfl rfl sz_5 h44 g69.1 g69.2 e72 qqa75 h73 rfl (nb rfl) rfl (IntKind.u8.wrap (255 - (rd l45 i46))) rfl (ne_z bj5.1)) ?_; rintro w77 a ⟨E78, h44, Z79⟩ F; replace B := B.size Z79; replace E := E.trans E78 (fun x (q : x = j5) => Or.inl (q)); have hl80 : l45.length = (l45.set i46.toNat (IntKind.u8.wrap (255 - (rd l45 i46)))).length := by simp
  replace F := F.sub (L' := [(0, .slice A2 (l45.set i46.toNat (IntKind.u8.wrap (255 - (rd l45 i46)))).length C3), (2, .int .i64 i46), (15, .int .u8 (IntKind.u8.wrap (255 - (rd l45 i46))))]) ⟨(by rw [← hl80]; rfl), rfl, rfl, trivial⟩; refine nil (hK60 _ _ ?_); refine reg ?_; refine qm F fun a F => ?_; refine qv F (r_add F rfl rfl) fun a F => ?_; refine qa F fun a F => nil ?_; replace H := HN50 _ (si H).symm; exact hX49 _ _ _ (Nat.lt_succ_self _) ⟨(l45.set i46.toNat (IntKind.u8.wrap (255 - (rd l45 i46)))), (IntKind.i64.wrap (i46 + 1)), c47, F.sub ⟨rfl, rfl, trivial⟩, E, B, h44, H⟩
 replace H := im hb59 H; refine wcf (fb F (dz hb59)) ?_; refine wp_exit ?_; refine thenE ?_; refine thenE ?_; refine inbE ?_; have hx_ := HD51 _ (si H).symm; have H := HR55; rw [← hx_] at H; exact J88 c47 w48 a l45 (F.sub trivial) E B h44 H
theorem bag_Bag_Counts.calls {m : Nat} {c0 : Nat → Nat} {w0 : World} {j4 : Nat} {j5 : Nat} {p2 : Option Addr} {a1 : Option Bag} (hm0 : 0 < m) (B0 : CB m c0 w0) (h3 : BG j4 j5 c0 w0 p2 a1) (bj4 : j4 < m) (bj5 : 0 < j5 ∧ j5 < m ∧ j5 ≠ j4) (r : api_Traffic) (H : bag_Bag_Counts.f a1 = some r) : Calls Try.prog 29 #[.pointer p2] w0 (fun e w_ => ∃ (c_ : Nat → Nat), e = .returned (.agg #[.int .i64 r.Sent, .int .i64 r.Twice, .int .i64 r.Delivered, .int .i64 r.Dropped, .int .i64 r.Lost]) ∧ Ev (fun x => False) c0 w0 c_ w_ ∧ CB m c_ w_) := by
 unfold bag_Bag_Counts.f at H; have B := B0.mono (show m ≤ m + 2 by omega); have E : Ev (fun x => False ∨ m ≤ x) c0 w0 c0 w0 := Ev.refl; refine enter (N := 10) (l := [.pointer p2]) Try.func29 rfl rfl (nb rfl) fun a F => ?_; refine sr fun K6 hK6 => ?_; refine q_eff F rfl rfl (by decide) (e_alloc F zv_63 c0 (m + 1)) ?_; rintro v w8 a ⟨c7, qa9, rfl, E10, h11, B12⟩ F; replace B := B12 _ B lm; replace h3 := h3.ev E10; replace E := E.n E10; replace h11 : AT _ _ _ _ _ [.int .i64 0, .int .i64 0, .int .i64 0, .int .i64 0, .int .i64 0] := h11; refine nil (hK6 _ _ ?_); refine sq fun K14 hK14 => ?_; refine sr fun K15 hK15 => qm F fun a F => ?_; refine qv F (r_peqlA F Try.underlying24 rfl rfl (BG.isNone h3)) fun a F => ?_; refine nil (hK15 _ _ ?_)
 by_cases hb16 : (Option.isNone a1) = true
 ·replace H := ip hb16 H; refine wct (fb F hb16) ?_; refine sr fun K17 hK17 => ?_; refine qv F (r_build (v := .agg #[.int .i64 0, .int .i64 0, .int .i64 0, .int .i64 0, .int .i64 0]) F [] (by exact trivial) (fun w => by kernel_rfl)) fun a F => ?_; refine q_eff0 F rfl rfl (e_storeN0 (us := [.int .i64 0, .int .i64 0, .int .i64 0, .int .i64 0, .int .i64 0]) F rfl rfl sz_63 h11 (nb rfl) (one_all rfl)) ?_; rintro w18 a ⟨E19, h11, Z20⟩ F; replace E := E.trans E19 lc1; replace h11 : AT _ _ _ _ _ [.int .i64 0, .int .i64 0, .int .i64 0, .int .i64 0, .int .i64 0] := h11; refine nil (hK17 _ _ ?_); refine wp_ret ?_; refine thenR ?_; obtain rfl := si H; refine outR1 F rfl ⟨_, rfl, lv_agg (cs := [.int .i64 0, .int .i64 0, .int .i64 0, .int .i64 0, .int .i64 0]) ag_63 sz_63 h11⟩ ?_; exact ⟨cf (ct m) c7, rfl, E.lv B0, cfb⟩
 replace H := im hb16 H; refine wcf (fb F (bfalse hb16)) (wp_skip (hK14 _ _ ?_)); refine sr fun K21 hK21 => qm F fun a F => ?_; obtain ⟨ob22, e23, H⟩ := bind_some H; have z24 := h3; rw [e23] at z24; obtain ⟨ad25, p27, rfl, hat26, h28⟩ := BG.some z24; refine qi F fun a F => ?_; refine qf F ff_67_2 fun a F => ?_; refine qv F (r_loads (cs := [.int .i64 ob22.told.Sent, .int .i64 ob22.told.Twice, .int .i64 ob22.told.Delivered, .int .i64 ob22.told.Dropped, .int .i64 ob22.told.Lost]) F rfl ag_63 sz_63 (AT.sub hat26 2 5 (nb rfl))) fun a F => ?_; refine q_eff0 F rfl rfl (e_storeN0 (us := [.int .i64 ob22.told.Sent, .int .i64 ob22.told.Twice, .int .i64 ob22.told.Delivered, .int .i64 ob22.told.Dropped, .int .i64 ob22.told.Lost]) F rfl rfl sz_63 h11 (nb rfl) (one_all rfl)) ?_; rintro w30 a ⟨E31, h11, Z32⟩ F; replace E := E.trans E31 lc1; replace h11 : AT _ _ _ _ _ [.int .i64 ob22.told.Sent, .int .i64 ob22.told.Twice, .int .i64 ob22.told.Delivered, .int .i64 ob22.told.Dropped, .int .i64 ob22.told.Lost] := h11; refine nil (hK21 _ _ ?_); refine wp_ret ?_; obtain rfl := si H; refine outR1 F rfl ⟨_, rfl, lv_agg (cs := [.int .i64 ob22.told.Sent, .int .i64 ob22.told.Twice, .int .i64 ob22.told.Delivered, .int .i64 ob22.told.Dropped, .int .i64 ob22.told.Lost]) ag_63 sz_63 h11⟩ ?_; exact ⟨cf (ct m) c7, rfl, E.lv B0, cfb⟩
theorem haulageref20_Bag_Counts.calls {m : Nat} {c0 : Nat → Nat} {w0 : World} {j4 : Nat} {j5 : Nat} {p2 : Option Addr} {a1 : Option Bg3} (hm0 : 0 < m) (B0 : CB m c0 w0) (h3 : BG3 j4 j5 c0 w0 p2 a1) (bj4 : j4 < m) (bj5 : j5 < m ∧ j5 ≠ j4) (r : api_Traffic) (H : haulageref20_Bag_Counts.f a1 = some r) : Calls Try.prog 44 #[.pointer p2] w0 (fun e w_ => ∃ (c_ : Nat → Nat), e = .returned (.agg #[.int .i64 r.Sent, .int .i64 r.Twice, .int .i64 r.Delivered, .int .i64 r.Dropped, .int .i64 r.Lost]) ∧ Ev (fun x => False) c0 w0 c_ w_ ∧ CB m c_ w_) := by
 unfold haulageref20_Bag_Counts.f at H; have B := B0.mono (show m ≤ m + 2 by omega); have E : Ev (fun x => False ∨ m ≤ x) c0 w0 c0 w0 := Ev.refl; refine enter (N := 10) (l := [.pointer p2]) Try.func44 rfl rfl (nb rfl) fun a F => ?_; refine sr fun K6 hK6 => ?_; refine q_eff F rfl rfl (by decide) (e_alloc F zv_63 c0 (m + 1)) ?_; rintro v w8 a ⟨c7, qa9, rfl, E10, h11, B12⟩ F; replace B := B12 _ B lm; replace h3 := h3.ev E10; replace E := E.n E10; replace h11 : AT _ _ _ _ _ [.int .i64 0, .int .i64 0, .int .i64 0, .int .i64 0, .int .i64 0] := h11; refine nil (hK6 _ _ ?_); refine sq fun K14 hK14 => ?_; refine sr fun K15 hK15 => qm F fun a F => ?_; refine qv F (r_peqlA F Try.underlying48 rfl rfl (BG3.isNone h3)) fun a F => ?_; refine nil (hK15 _ _ ?_)
 by_cases hb16 : (Option.isNone a1) = true
 ·replace H := ip hb16 H; refine wct (fb F hb16) ?_; refine sr fun K17 hK17 => ?_; refine qv F (r_build (v := .agg #[.int .i64 0, .int .i64 0, .int .i64 0, .int .i64 0, .int .i64 0]) F [] (by exact trivial) (fun w => by kernel_rfl)) fun a F => ?_; refine q_eff0 F rfl rfl (e_storeN0 (us := [.int .i64 0, .int .i64 0, .int .i64 0, .int .i64 0, .int .i64 0]) F rfl rfl sz_63 h11 (nb rfl) (one_all rfl)) ?_; rintro w18 a ⟨E19, h11, Z20⟩ F; replace E := E.trans E19 lc1; replace h11 : AT _ _ _ _ _ [.int .i64 0, .int .i64 0, .int .i64 0, .int .i64 0, .int .i64 0] := h11; refine nil (hK17 _ _ ?_); refine wp_ret ?_; refine thenR ?_; obtain rfl := si H; refine outR1 F rfl ⟨_, rfl, lv_agg (cs := [.int .i64 0, .int .i64 0, .int .i64 0, .int .i64 0, .int .i64 0]) ag_63 sz_63 h11⟩ ?_; exact ⟨cf (ct m) c7, rfl, E.lv B0, cfb⟩
 replace H := im hb16 H; refine wcf (fb F (bfalse hb16)) (wp_skip (hK14 _ _ ?_)); refine sr fun K21 hK21 => qm F fun a F => ?_; obtain ⟨ob22, e23, H⟩ := bind_some H; have z24 := h3; rw [e23] at z24; obtain ⟨ad25, A27, C28, rfl, hat26, h29⟩ := BG3.some z24; refine qi F fun a F => ?_; refine qf F ff_76_2 fun a F => ?_; refine qv F (r_loads (cs := [.int .i64 ob22.Told.Sent, .int .i64 ob22.Told.Twice, .int .i64 ob22.Told.Delivered, .int .i64 ob22.Told.Dropped, .int .i64 ob22.Told.Lost]) F rfl ag_63 sz_63 (AT.sub hat26 2 5 (nb rfl))) fun a F => ?_; refine q_eff0 F rfl rfl (e_storeN0 (us := [.int .i64 ob22.Told.Sent, .int .i64 ob22.Told.Twice, .int .i64 ob22.Told.Delivered, .int .i64 ob22.Told.Dropped, .int .i64 ob22.Told.Lost]) F rfl rfl sz_63 h11 (nb rfl) (one_all rfl)) ?_; rintro w31 a ⟨E32, h11, Z33⟩ F; replace E := E.trans E32 lc1; replace h11 : AT _ _ _ _ _ [.int .i64 ob22.Told.Sent, .int .i64 ob22.Told.Twice, .int .i64 ob22.Told.Delivered, .int .i64 ob22.Told.Dropped, .int .i64 ob22.Told.Lost] := h11; refine nil (hK21 _ _ ?_); refine wp_ret ?_; obtain rfl := si H; refine outR1 F rfl ⟨_, rfl, lv_agg (cs := [.int .i64 ob22.Told.Sent, .int .i64 ob22.Told.Twice, .int .i64 ob22.Told.Delivered, .int .i64 ob22.Told.Dropped, .int .i64 ob22.Told.Lost]) ag_63 sz_63 h11⟩ ?_; exact ⟨cf (ct m) c7, rfl, E.lv B0, cfb⟩
theorem haulageref20_Bag_Len.calls {m : Nat} {c0 : Nat → Nat} {w0 : World} {j4 : Nat} {j5 : Nat} {p2 : Option Addr} {a1 : Option Bg3} (hm0 : 0 < m) (B0 : CB m c0 w0) (h3 : BG3 j4 j5 c0 w0 p2 a1) (bj4 : j4 < m) (bj5 : j5 < m ∧ j5 ≠ j4) (r : Int) (H : haulageref20_Bag_Len.f a1 = some r) : Calls Try.prog 42 #[.pointer p2] w0 (fun e w_ => ∃ (c_ : Nat → Nat), e = .returned (.int .i64 r) ∧ Ev (fun x => False) c0 w0 c_ w_ ∧ CB m c_ w_) := by
 unfold haulageref20_Bag_Len.f at H; have B := B0.mono (show m ≤ m + 1 by omega); have E : Ev (fun x => False ∨ m ≤ x) c0 w0 c0 w0 := Ev.refl; refine enter (N := 10) (l := [.pointer p2]) Try.func42 rfl rfl (nb rfl) fun a F => ?_; refine sr fun K6 hK6 => qa F fun a F => nil (hK6 _ _ ?_); refine sq fun K7 hK7 => ?_; refine sr fun K8 hK8 => qm F fun a F => ?_; refine qv F (r_peqlA F Try.underlying48 rfl rfl (BG3.isNone h3)) fun a F => ?_; refine nil (hK8 _ _ ?_)
 by_cases hb9 : (Option.isNone a1) = true
 ·replace H := ip hb9 H; refine wct (fb F hb9) ?_; refine sr fun K10 hK10 => qa F fun a F => nil (hK10 _ _ ?_); refine wp_ret ?_; refine thenR ?_; obtain rfl := si H; refine out1 F rfl rfl ?_; exact ⟨cf (ct m) c0, rfl, E.lv B0, cfb⟩
 replace H := im hb9 H; refine wcf (fb F (bfalse hb9)) (wp_skip (hK7 _ _ ?_)); refine sr fun K11 hK11 => qm F fun a F => ?_; obtain ⟨ob12, e13, H⟩ := bind_some H; have z14 := h3; rw [e13] at z14; obtain ⟨ad15, A17, C18, rfl, hat16, h19⟩ := BG3.some z14; refine qi F fun a F => ?_; refine qf F ff_76_0 fun a F => ?_; refine ql F ag_34 hat16 fun a F => ?_; refine qv F (r_lensl F Try.underlying34 rfl) fun a F => ?_; refine qa F fun a F => nil (hK11 _ _ ?_); replace F : Fr a 10 [(2, .int .i64 (ob12.Row.length : Int))] := F.sub ⟨rfl, trivial⟩; refine wp_ret ?_; obtain rfl := si H; refine out1 F rfl rfl ?_; exact ⟨cf (ct m) c0, rfl, E.lv B0, cfb⟩
theorem haulageref20_copied.calls {m : Nat} {c0 : Nat → Nat} {w0 : World} {j5 : Nat} {A2 : Option Addr} {C3 : Nat} {a1 : List Int} (hm0 : 0 < m) (B0 : CB m c0 w0) (h4 : SL false (Kint .u8) j5 0 c0 w0 A2 C3 a1) (bj5 : j5 < m) (jr17 : Nat) (bjr17 : jr17 < m) (r : (List Int)) (H : haulageref20_copied.f a1 = some r) : Calls Try.prog 52 #[.slice A2 a1.length C3] w0 (fun e w_ => ∃ (c_ : Nat → Nat) (A0_ : Option Addr) (C0_ : Nat), e = .returned (.slice A0_ r.length C0_) ∧ Ev (fun x => False) c0 w0 c_ w_ ∧ CB m c_ w_ ∧ SL true (Kint .u8) jr17 0 c_ w_ A0_ C0_ r) := by
 unfold haulageref20_copied.f at H; have B := B0.mono (show m ≤ m + 2 by omega); have E : Ev (fun x => False ∨ m ≤ x) c0 w0 c0 w0 := Ev.refl; refine enter (N := 7) (l := [.slice A2 a1.length C3]) Try.func52 rfl rfl (nb rfl) fun a F => ?_; refine sr fun K6 hK6 => qa F fun a F => nil (hK6 _ _ ?_); refine sr fun K7 hK7 => qa F fun a F => nil (hK7 _ _ ?_); refine sr fun K8 hK8 => qm F fun a F => qm F fun a F => ?_; replace H := ifN H; obtain ⟨g9, H⟩ := H; refine q_eff F rfl rfl (by decide) (e_append (k := (Kint .u8)) (xs := []) (ys := a1) (c := c0) (j := (m + 1)) (i := 0) F et_27 rfl rfl SL.nil h4 (ap0 g9) (len_ok0 g9) ne_zm) ?_; rintro v w11 a ⟨c10, A12, C13, rfl, E14, h15, B16⟩ F; replace B := B16 _ B lm; replace E := E.trans E14 lc1; refine qa F fun a F => nil (hK8 _ _ ?_); refine wp_ret ?_; obtain rfl := si H; refine out1 F rfl rfl ?_; exact ⟨cf (fun x_ => if x_ = m + 1 then jr17 else if x_ < m then x_ else 0) c10, A12, C13, rfl, E.lv B0, cfb, SL.rc h15 cfk cfk⟩
theorem haulageref20_Bag_Waiting.calls (k : Nat) {m : Nat} {c0 : Nat → Nat} {w0 : World} {j4 : Nat} {j5 : Nat} {p2 : Option Addr} {a1 : Option Bg3} (hm0 : 0 < m) (B0 : CB m c0 w0) (h3 : BG3 j4 j5 c0 w0 p2 a1) (bj4 : j4 < m) (bj5 : j5 < m ∧ j5 ≠ j4) (jr175 : Nat) (bjr175 : jr175 < m) (r : (List api_Letter)) (H : haulageref20_Bag_Waiting.f k a1 = some r) : Calls Try.prog 43 #[.pointer p2] w0 (fun e w_ => ∃ (c_ : Nat → Nat) (A0_ : Option Addr) (C0_ : Nat), e = .returned (.slice A0_ r.length C0_) ∧ Ev (fun x => False) c0 w0 c_ w_ ∧ CB m c_ w_ ∧ SL true K_api_Letter jr175 0 c_ w_ A0_ C0_ r) := by
 unfold haulageref20_Bag_Waiting.f at H; have B := B0.mono (show m ≤ m + 3 by omega); have E : Ev (fun x => False ∨ m ≤ x) c0 w0 c0 w0 := Ev.refl; refine enter (N := 33) (l := [.pointer p2]) Try.func43 rfl rfl (nb rfl) fun a F => ?_; refine sr fun K6 hK6 => qa F fun a F => nil (hK6 _ _ ?_); refine sq fun K7 hK7 => ?_; refine sr fun K8 hK8 => qm F fun a F => ?_; refine qv F (r_peqlA F Try.underlying48 rfl rfl (BG3.isNone h3)) fun a F => ?_; refine nil (hK8 _ _ ?_)
 by_cases hb9 : (Option.isNone a1) = true
 ·replace H := ip hb9 H; refine wct (fb F hb9) ?_; refine sr fun K10 hK10 => qa F fun a F => nil (hK10 _ _ ?_); refine wp_ret ?_; refine thenR ?_; obtain rfl := si H; refine out1 F rfl rfl ?_; exact ⟨cf (fun x_ => if x_ = m + 2 then jr175 else if x_ < m then x_ else 0) c0, none, 0, rfl, E.lv B0, cfb, SL.nil⟩
 replace H := im hb9 H; refine wcf (fb F (bfalse hb9)) (wp_skip (hK7 _ _ ?_)); refine sr fun K11 hK11 => qa F fun a F => nil (hK11 _ _ ?_); refine sq fun K12 hK12 => ?_; refine sr fun K13 hK13 => qa F fun a F => nil (hK13 _ _ ?_); refine wp_block ?_; obtain ⟨x103, HL, HR102⟩ := bind_some H; have J171 : ∀ (c172 : Nat → Nat) (w173 : World) (a : Act) (l168 : List api_Letter) (A169 : Option Addr) (C170 : Nat), Fr a 33 [(3, .slice A169 l168.length C170)] → Ev (fun x => False ∨ m ≤ x) c0 w0 c172 w173 → CB (m + 3) c172 w173 → SL true K_api_Letter (m + 2) 0 c172 w173 A169 C170 l168 → haulageref20_Bag_Waiting.j2 l168 = some r → K12 a w173 := by
  intro c172 w173 a l168 A169 C170 F E B h167 H; unfold haulageref20_Bag_Waiting.j2 at H; refine hK12 _ _ ?_; refine sr fun K174 hK174 => qm F fun a F => qa F fun a F => nil (hK174 _ _ ?_); refine wp_ret ?_; obtain rfl := si H; refine out1 F rfl rfl ?_; exact ⟨cf (fun x_ => if x_ = m + 2 then jr175 else if x_ < m then x_ else 0) c172, A169, C170, rfl, E.lv B0, cfb, SL.rc h167 cfk cfk⟩
 refine loop_fuel (I := fun n a w => ∃ (l89 : List api_Letter) (A90 : Option Addr) (C91 : Nat) (i93 : Int) (c : Nat → Nat), Fr a 33 [(0, .pointer p2), (3, .slice A90 l89.length C91), (4, .int .i64 i93)] ∧ Ev (fun x => False ∨ m ≤ x) c0 w0 c w ∧ CB (m + 3) c w ∧ BG3 j4 j5 c w p2 a1 ∧ SL true K_api_Letter (m + 2) 0 c w A90 C91 l89 ∧ loop (fun (s_ : (List api_Letter) × Int) => haulageref20_Bag_Waiting.b1 a1 s_.1 s_.2) n (l89, i93) = some x103) (k := k) ⟨[], none, 0, 0, c0, F.sub ⟨rfl, rfl, rfl, trivial⟩, E, B, h3, SL.nil, HL⟩ ?_; clear HL H E F B; intro n100 X96 hX96 a w95 ⟨l89, A90, C91, i93, c94, F, E, B, h3, h92, HL⟩; obtain ⟨n101, ctl99, rfl, HB, HN97, HD98⟩ := loop_some HL; have H : haulageref20_Bag_Waiting.b1 a1 l89 i93 = some ctl99 := HB; clear HB HL; unfold haulageref20_Bag_Waiting.b1 at H; refine sq fun K104 hK104 => ?_; refine sr fun K105 hK105 => qm F fun a F => qm F fun a F => ?_; obtain ⟨ob106, e107, H⟩ := bind_some H; have z108 := h3; rw [e107] at z108; obtain ⟨ad109, A111, C112, rfl, hat110, h113⟩ := BG3.some z108; refine qi F fun a F => ?_; refine qf F ff_76_0 fun a F => ?_; refine ql F ag_34 hat110 fun a F => ?_; refine qv F (r_lensl F Try.underlying34 rfl) fun a F => ?_; refine qv F (r_lss F rfl rfl) fun a F => ?_; refine nil (hK105 _ _ ?_)
 by_cases hb115 : i93 < (ob106.Row.length : Int)
 ·replace H := ip hb115 H; refine wct (fb F (dt hb115)) (wp_skip (hK104 _ _ ?_)); refine sq fun K116 hK116 => ?_; refine wp_block ?_; refine sr fun K117 hK117 => qm F fun a F => ?_; refine qi F fun a F => ?_; refine qf F ff_76_0 fun a F => ?_; refine ql F ag_34 hat110 fun a F => ?_; refine qm F fun a F => ?_; replace H := ifN H; obtain ⟨g118, H⟩ := H; obtain ⟨ad119, cs120, e121, h122, r123⟩ := SL.at h113 i93 g118.1 g118.2; obtain ⟨A124, C125, rfl, h126⟩ := r123; replace h126 := SL.fl (i' := 0) h126 (fun q => q); obtain ⟨qa127, qqa127⟩ : ∃ q, q = (ad119.add (i93.toNat * 4)) := ⟨_, rfl⟩; have h122 : AT true j5 c94 w95 qa127 [.int .i64 ((rd ob106.Row i93).Number), .int .i64 ((rd ob106.Row i93).From), .int .i64 ((rd ob106.Row i93).To), .slice A124 ((rd ob106.Row i93).Data).length C125] := by rw [qqa127]; exact h122
  refine qv F (r_indexAddr' F Try.underlying34 sz_40 rfl rfl g118.1 g118.2 e121 qqa127) fun a F => ?_; refine qv F (r_loads (cs := [.int .i64 ((rd ob106.Row i93).Number), .int .i64 ((rd ob106.Row i93).From), .int .i64 ((rd ob106.Row i93).To), .slice A124 ((rd ob106.Row i93).Data).length C125]) F rfl ag_40 sz_40 h122) fun a F => ?_; refine q_eff F rfl rfl (by decide) (e_alloc F zv_40 c94 (m + 1)) ?_; rintro v w130 a ⟨c129, qa52, rfl, E131, h54, B132⟩ F; replace B := B132 _ B lm; replace h3 := h3.ev E131; replace E := E.n E131; replace h54 : AT _ _ _ _ _ [.int .i64 0, .int .i64 0, .int .i64 0, .slice none 0 0] := h54; refine q_eff0 F rfl rfl (e_storeN0 (us := [.int .i64 ((rd ob106.Row i93).Number), .int .i64 ((rd ob106.Row i93).From), .int .i64 ((rd ob106.Row i93).To), .slice A124 ((rd ob106.Row i93).Data).length C125]) F rfl rfl sz_40 h54 (nb rfl) (one_all rfl)) ?_; rintro w133 a ⟨E134, h54, Z135⟩ F; replace B := B.size Z135; replace h3 := h3.ev E134 (ne_pm bj4) (ne_pm bj5.1) ne_zm; replace h126 := (h126.ev E131).ev E134; replace E := E.trans E134 lc1; replace h54 : AT _ _ _ _ _ [.int .i64 ((rd ob106.Row i93).Number), .int .i64 ((rd ob106.Row i93).From), .int .i64 ((rd ob106.Row i93).To), .slice A124 ((rd ob106.Row i93).Data).length C125] := h54; refine nil (hK117 _ _ ?_); replace F : Fr a 33 [(0, .pointer (some ad109)), (3, .slice A90 l89.length C91), (4, .int .i64 i93), (5, .pointer (some qa52))] := F.sub ⟨rfl, rfl, rfl, rfl, trivial⟩; refine sr fun K136 hK136 => qf F ff_40_3 fun a F => ?_; refine ql F ag_27 h54 fun a F => ?_; obtain ⟨t61, q62, H⟩ := bind_some H; refine qc F Try.func52 (haulageref20_copied.calls (m := m + 3) (pl hm0) B h126 (pl hm0) 0 (pl hm0) _ q62) ?_; rintro e w138 ⟨c137, A141, C142, rfl, E139, B, h143⟩; refine rt fun a F => ?_; replace h3 := h3.ev E139; replace h54 := h54.ev E139; replace E := E.n E139; refine qf F ff_40_3 fun a F => ?_; refine q_eff0 F rfl rfl (e_store F rfl rfl sz_27 h54 (nb rfl) rfl) ?_; rintro w145 a ⟨E146, h54, Z147⟩ F; replace B := B.size Z147; replace h3 := h3.ev E146 (ne_pm bj4) (ne_pm bj5.1) ne_zm; replace h143 := h143.ev E146; replace E := E.trans E146 lc1; replace h54 : AT _ _ _ _ _ [.int .i64 ((rd ob106.Row i93).Number), .int .i64 ((rd ob106.Row i93).From), .int .i64 ((rd ob106.Row i93).To), .slice A141 t61.length C142] := h54; refine nil (hK136 _ _ ?_); refine reg ?_; refine qm F fun a F => ?_; refine qv F (r_loads (cs := [.int .i64 ((rd ob106.Row i93).Number), .int .i64 ((rd ob106.Row i93).From), .int .i64 ((rd ob106.Row i93).To), .slice A141 t61.length C142]) F rfl ag_40 sz_40 h54) fun a F => ?_; refine q_eff F rfl rfl (by decide) (e_buildSlice (n := 1) (e := 40) (c := c137) (k := K_api_Letter) (i := 0) F [(0, .agg #[.int .i64 ((rd ob106.Row i93).Number), .int .i64 ((rd ob106.Row i93).From), .int .i64 ((rd ob106.Row i93).To), .slice A141 t61.length C142])] [.int .i64 ((rd ob106.Row i93).Number), .int .i64 ((rd ob106.Row i93).From), .int .i64 ((rd ob106.Row i93).To), .slice A141 t61.length C142] ([api_Letter.mk ((rd ob106.Row i93).Number) ((rd ob106.Row i93).From) ((rd ob106.Row i93).To) t61] : List api_Letter) (by exact ⟨rfl, rfl, trivial⟩) (fun w => by kernel_rfl) rfl (by decide) rfl ⟨⟨A141, C142, rfl, (SL.fl h143.r (fun q => q))⟩, trivial⟩ (fun q => q) 0) ?_
  rintro v w149 a ⟨c148, A150, C151, rfl, E152, h153, B154⟩ F; replace B := B154 _ B (pl hm0); replace h3 := h3.ev E152; replace h92 := ((((h92.ev E131).ev E134).ev E139).ev E146).ev E152; replace E := E.n E152; replace H := ifN H; obtain ⟨g81, H⟩ := H; refine q_eff F rfl rfl (by decide) (e_append (k := K_api_Letter) (xs := l89) (ys := [api_Letter.mk ((rd ob106.Row i93).Number) ((rd ob106.Row i93).From) ((rd ob106.Row i93).To) t61]) (c := c148) (j := (m + 2)) (i := 0) F et_34 rfl rfl h92 h153 g81 (len_ok g81) ne_zm) ?_; rintro v w156 a ⟨c155, A157, C158, rfl, E159, h160, B161⟩ F; replace B := B161 _ B lm; replace h3 := h3.ev E159 (ne_pm bj4) (ne_pm bj5.1) ne_zm; replace E := E.trans E159 lc1; refine qa F fun a F => nil (hK116 _ _ ?_); replace F : Fr a 33 [(0, .pointer (some ad109)), (3, .slice A157 (l89 ++ [api_Letter.mk ((rd ob106.Row i93).Number) ((rd ob106.Row i93).From) ((rd ob106.Row i93).To) t61]).length C158), (4, .int .i64 i93)] := F.sub ⟨rfl, rfl, rfl, trivial⟩; refine reg ?_; refine qm F fun a F => ?_; refine qv F (r_add F rfl rfl) fun a F => ?_; refine qa F fun a F => nil ?_; replace H := HN97 _ (si H).symm; exact hX96 _ _ _ (Nat.lt_succ_self _) ⟨(l89 ++ [api_Letter.mk ((rd ob106.Row i93).Number) ((rd ob106.Row i93).From) ((rd ob106.Row i93).To) t61]), A157, C158, (IntKind.i64.wrap (i93 + 1)), c155, F.sub ⟨rfl, rfl, rfl, trivial⟩, E, B, h3, h160, H⟩
 replace H := im hb115 H; refine wcf (fb F (dz hb115)) ?_; refine wp_exit ?_; refine thenE ?_; refine thenE ?_; refine inbE ?_; have hx_ := HD98 _ (si H).symm; have H := HR102; rw [← hx_] at H; exact J171 c94 w95 a l89 A90 C91 (F.sub ⟨rfl, trivial⟩) E B h92 H
theorem haulagelaw20_told.calls (k : Nat) {m : Nat} {c0 : Nat → Nat} {w0 : World} {j4 : Nat} {j5 : Nat} {j9 : Nat} {j10 : Nat} {p2 : Option Addr} {p7 : Option Addr} {a1 : Option Bag} {a6 : Option Bg3} (hm0 : 0 < m) (B0 : CB m c0 w0) (h3 : BG j4 j5 c0 w0 p2 a1) (h8 : BG3 j9 j10 c0 w0 p7 a6) (bj4 : j4 < m) (bj5 : 0 < j5 ∧ j5 < m ∧ j5 ≠ j4) (bj9 : j9 < m) (bj10 : j10 < m ∧ j10 ≠ j9) (r : Bool) (H : haulagelaw20_told.f k a1 a6 = some r) : Calls Try.prog 25 #[.pointer p2, .pointer p7] w0 (fun e w_ => ∃ (c_ : Nat → Nat), e = .returned (.bool r) ∧ Ev (fun x => False) c0 w0 c_ w_ ∧ CB m c_ w_) := by
 unfold haulagelaw20_told.f at H; have B := B0.mono (show m ≤ m + 4 by omega); have E : Ev (fun x => False ∨ m ≤ x) c0 w0 c0 w0 := Ev.refl; refine enter (N := 53) (l := [.pointer p2, .pointer p7]) Try.func25 rfl rfl (nb rfl) fun a F => ?_; refine sr fun K11 hK11 => qa F fun a F => nil (hK11 _ _ ?_); refine sr fun K12 hK12 => qm F fun a F => ?_; obtain ⟨t13, q14, H⟩ := bind_some H; refine qc F Try.func15 (bag_Bag_Waiting.calls (m := m + 4) (pl hm0) B h3 (by omega) (by omega) (m + 1) lm (m + 2) ⟨(pl hm0), lm⟩ _ q14) ?_; rintro e w16 ⟨c15, A19, C20, rfl, E17, B, h21⟩; refine rt fun a F => ?_; replace h8 := h8.ev E17; replace E := E.n E17; refine qa F fun a F => nil (hK12 _ _ ?_); refine sr fun K23 hK23 => qm F fun a F => ?_; obtain ⟨t24, q25, H⟩ := bind_some H; refine qc F Try.func43 (haulageref20_Bag_Waiting.calls k (m := m + 4) (pl hm0) B h8 (Nat.lt_add_right _ bj9) ⟨(Nat.lt_add_right _ bj10.1), bj10.2⟩ 0 (pl hm0) _ q25) ?_; rintro e w27 ⟨c26, A30, C31, rfl, E28, B, h32⟩; refine rt fun a F => ?_; replace h3 := (h3.ev E17).ev E28; replace h8 := h8.ev E28; replace h21 := h21.ev E28; replace E := E.n E28; refine qa F fun a F => nil (hK23 _ _ ?_); refine sq fun K34 hK34 => ?_; refine sq fun K35 hK35 => ?_; have J67 : ∀ (c68 : Nat → Nat) (w69 : World) (a : Act) (b66 : Bool), Fr a 53 [(5, .slice A19 t13.length C20), (6, .slice A30 t24.length C31), (30, .bool b66)] → Ev (fun x => False ∨ m ≤ x) c0 w0 c68 w69 → CB (m + 4) c68 w69 → OL KO_api_Letter (m + 1) (m + 2) c68 w69 A19 C20 t13 → SL true K_api_Letter 0 0 c68 w69 A30 C31 t24 → haulagelaw20_told.j1 k t13 t24 b66 = some r → K35 a w69 := by
  intro c68 w69 a b66 F E B h21 h32 H; unfold haulagelaw20_told.j1 at H; refine hK35 _ _ ?_
  by_cases hb70 : b66 = true
  ·replace H := ip hb70 H; refine wct (fb F hb70) ?_; refine sr fun K71 hK71 => qa F fun a F => nil (hK71 _ _ ?_); refine wp_ret ?_; refine thenR ?_; obtain rfl := si H; refine out1 F rfl rfl ?_; exact ⟨cf (ct m) c68, rfl, E.lv B0, cfb⟩
  replace H := im hb70 H; refine wcf (fb F (bfalse hb70)) (wp_skip (hK34 _ _ ?_)); refine sq fun K72 hK72 => ?_; refine sr fun K73 hK73 => qa F fun a F => nil (hK73 _ _ ?_); refine wp_block ?_; obtain ⟨x166, HL, HR165⟩ := bind_some H; have J235 : ∀ (c236 : Nat → Nat) (w237 : World) (a : Act), Fr a 53 [] → Ev (fun x => False ∨ m ≤ x) c0 w0 c236 w237 → CB (m + 4) c236 w237 → haulagelaw20_told.j3 = some r → K72 a w237 := by
   intro c236 w237 a  F E B  H; unfold haulagelaw20_told.j3 at H; refine hK72 _ _ ?_; refine sr fun K238 hK238 => qa F fun a F => nil (hK238 _ _ ?_); refine wp_ret ?_; obtain rfl := si H; refine out1 F rfl rfl ?_; exact ⟨cf (ct m) c236, rfl, E.lv B0, cfb⟩
  refine loop_fuel (I := fun n a w => ∃ (l155 : List api_Letter) (A152 : Option Addr) (C153 : Nat) (i156 : Int) (c : Nat → Nat), Fr a 53 [(5, .slice A152 l155.length C153), (6, .slice A30 t24.length C31), (7, .int .i64 i156)] ∧ Ev (fun x => False ∨ m ≤ x) c0 w0 c w ∧ CB (m + 4) c w ∧ SL true K_api_Letter 0 0 c w A30 C31 t24 ∧ OL KO_api_Letter (m + 1) (m + 2) c w A152 C153 l155 ∧ loop (fun (s_ : (List api_Letter) × Int) => haulagelaw20_told.b2 k t24 s_.1 s_.2) n (l155, i156) = some x166) (k := k) ⟨t13, A19, C20, 0, c68, F.sub ⟨rfl, rfl, rfl, trivial⟩, E, B, h32, h21, HL⟩ ?_; clear HL H E F B; intro n163 X159 hX159 a w158 ⟨l155, A152, C153, i156, c157, F, E, B, h32, h154, HL⟩; obtain ⟨n164, ctl162, rfl, HB, HN160, HD161⟩ := loop_some HL; have H : haulagelaw20_told.b2 k t24 l155 i156 = some ctl162 := HB; clear HB HL; unfold haulagelaw20_told.b2 at H; refine sq fun K167 hK167 => ?_; refine sr fun K168 hK168 => qm F fun a F => qm F fun a F => ?_; refine qv F (r_lensl F Try.underlying34 rfl) fun a F => ?_; refine qv F (r_lss F rfl rfl) fun a F => ?_; refine nil (hK168 _ _ ?_)
  by_cases hb169 : i156 < (l155.length : Int)
  ·replace H := ip hb169 H; refine wct (fb F (dt hb169)) (wp_skip (hK167 _ _ ?_)); refine sq fun K170 hK170 => ?_; refine wp_block ?_; refine sq fun K171 hK171 => ?_; refine sq fun K172 hK172 => ?_; have h173 : SL false K_api_Letter (m + 1) (m + 2) c157 w158 A152 C153 l155 := OL.view h154 rfl KO_api_Letter.v; refine regD (SB No c157 w158) 10 (.q 0 (.q 1 (.q 2 (.q 3 (.q 4 (.q 5 (.q 6 (.q 7 (.e 8 (.q 9 .nil)))))))))) Try_hm (by decide +kernel) ?_; intro w174 w1_ w2_ w3_ w4_; have E175 : Ev No c157 w158 c157 w174 := Ev.same w1_ w2_ w3_ w4_; replace B := B.same w1_; have zh32 := h32; have zh173 := h173; have ER : Ev No c157 w158 c157 w174 := Ev.same w1_ w2_ w3_ w4_; replace E := E.n E175; refine dm F ER.sb fun a F => ?_; refine dm F ER.sb fun a F => ?_; replace H := ifN H; obtain ⟨g176, H⟩ := H; obtain ⟨ad177, cs178, e179, h180, r181⟩ := SL.at zh173 i156 g176.1 g176.2; obtain ⟨A182, C183, rfl, h184⟩ := r181; replace h184 := SL.fl (i' := 0) h184 (fun q => q); obtain ⟨qa185, qqa185⟩ : ∃ q, q = (ad177.add (i156.toNat * 4)) := ⟨_, rfl⟩; have h180 : AT false (m + 1) c157 w158 qa185 [.int .i64 ((rd l155 i156).Number), .int .i64 ((rd l155 i156).From), .int .i64 ((rd l155 i156).To), .slice A182 ((rd l155 i156).Data).length C183] := by rw [qqa185]; exact h180
   replace h184 := h184.ev ER nq nq; have zh180 := h180; refine dq F (fun wq hS => r_indexAddr' F Try.underlying34 sz_40 rfl rfl g176.1 g176.2 e179 qqa185) ER.sb fun a F => ?_; refine dq F (fun wq hS => r_loads (cs := [.int .i64 ((rd l155 i156).Number), .int .i64 ((rd l155 i156).From), .int .i64 ((rd l155 i156).To), .slice A182 ((rd l155 i156).Data).length C183]) F rfl ag_40 sz_40 (AT.sb zh180 hS nq)) ER.sb fun a F => ?_; refine dm F ER.sb fun a F => ?_; refine dm F ER.sb fun a F => ?_; replace H := ifN H; obtain ⟨g187, H⟩ := H; obtain ⟨ad188, cs189, e190, h191, r192⟩ := SL.at zh32 i156 g187.1 g187.2; obtain ⟨A193, C194, rfl, h195⟩ := r192; replace h195 := SL.fl (i' := 0) h195 (fun q => q); obtain ⟨qa196, qqa196⟩ : ∃ q, q = (ad188.add (i156.toNat * 4)) := ⟨_, rfl⟩; have h191 : AT true 0 c157 w158 qa196 [.int .i64 ((rd t24 i156).Number), .int .i64 ((rd t24 i156).From), .int .i64 ((rd t24 i156).To), .slice A193 ((rd t24 i156).Data).length C194] := by rw [qqa196]; exact h191
   replace h195 := h195.ev ER nq nq; have zh191 := h191; refine dq F (fun wq hS => r_indexAddr' F Try.underlying34 sz_40 rfl rfl g187.1 g187.2 e190 qqa196) ER.sb fun a F => ?_; refine dq F (fun wq hS => r_loads (cs := [.int .i64 ((rd t24 i156).Number), .int .i64 ((rd t24 i156).From), .int .i64 ((rd t24 i156).To), .slice A193 ((rd t24 i156).Data).length C194]) F rfl ag_40 sz_40 (AT.sb zh191 hS nq)) ER.sb fun a F => ?_; refine d_e ?_; obtain ⟨t116, q117, H⟩ := bind_some H; refine oc F Try.func28 (haulagelaw20_alike.calls k (m := m + 4) (pl hm0) B h184 h195 lm (pl hm0) _ q117) ?_; rintro e w199 ⟨c198, rfl, E200, B⟩; refine rt fun a F => ?_; replace ER := ER.trans E200 nx; replace h32 := (h32.ev E175).ev E200; replace h154 := (h154.ev E175).ev E200; replace E := E.n E200; refine ⟨fun _ => ER.sb, ?_⟩; refine dq F (fun wq hS => r_not F rfl) ER.sb fun a F => ?_; refine d_nil ?_; refine hK172 _ _ ?_; replace F : Fr a 53 [(5, .slice A152 l155.length C153), (6, .slice A30 t24.length C31), (7, .int .i64 i156), (46, .bool (!t116))] := F.sub ⟨rfl, rfl, rfl, rfl, trivial⟩
   by_cases hb203 : t116 = true
   ·replace H := ip hb203 H; refine wcf (fb F (congrArg not hb203)) (wp_skip (hK171 _ _ ?_)); refine reg ?_; refine qm F fun a F => qm F fun a F => ?_; replace H := ifN H; obtain ⟨g205, H⟩ := H; obtain ⟨c206, e207, e208, ad209, cs210, e211, h212, r213, h154⟩ := OL.lend h154 [m + 3] i156 g205.1 g205.2 rfl ⟨⟨mm, (pl hm0)⟩, trivial⟩ mm; replace h32 := SL.rc h32 (rk e207 ne_zm) (rk e207 ne_zm); obtain ⟨A215, C216, rfl, h217⟩ := r213; replace h217 : SL true (Kint .u8) (m + 3) 0 c206 w199 A215 C216 ((rd l155 i156).Data) := h217; obtain ⟨qa214, qqa214⟩ : ∃ q, q = (ad209.add (i156.toNat * 4)) := ⟨_, rfl⟩; have h212 : AT true (m + 1) c206 w199 qa214 [.int .i64 ((rd l155 i156).Number), .int .i64 ((rd l155 i156).From), .int .i64 ((rd l155 i156).To), .slice A215 ((rd l155 i156).Data).length C216] := by rw [qqa214]; exact h212
    replace E := E.rk B0 e207; replace B : CB (m + 4) c206 w199 := e208 _ ⟨lm, trivial⟩ B; refine qv F (r_indexAddr' F Try.underlying34 sz_40 rfl rfl g205.1 g205.2 e211 qqa214) fun a F => ?_; refine qf F ff_40_3 fun a F => ?_; refine ql F ag_27 h212 fun a F => ?_; obtain ⟨t139, q140, H⟩ := bind_some H; refine qc F Try.func14 (haulagelaw20_over.calls k (m := m + 4) (pl hm0) B h217 ⟨(pl hm0), lm⟩ _ q140) ?_; rintro e w220 ⟨c219, rfl, E221, B, h223, hl224⟩; refine rt fun a F => ?_; replace h32 := h32.ev E221; replace h154 := h154.ev E221; replace h212 := h212.ev E221; replace E := E.trans E221 lc1; replace hl224 := hl224.symm; have h212 : AT true (m + 1) c219 w220 qa214 [.int .i64 ((rd l155 i156).Number), .int .i64 ((rd l155 i156).From), .int .i64 ((rd l155 i156).To), .slice A215 t139.length C216] := by rw [← hl224]; exact h212
    replace F := F.sub (L' := [(5, .slice A152 l155.length C153), (6, .slice A30 t24.length C31), (7, .int .i64 i156), (51, .slice A215 t139.length C216)]) ⟨rfl, rfl, rfl, (by rw [← hl224]; rfl), trivial⟩; obtain ⟨c226, e227, e228, h154⟩ := OL.back (zs := [m + 3]) (k := i156) (ad := ad209) (x := api_Letter.mk ((rd l155 i156).Number) ((rd l155 i156).From) ((rd l155 i156).To) t139) h154 g205.1 g205.2 e211 (by have q_ := h212; rw [qqa214] at q_; exact q_) ⟨A215, C216, rfl, h223⟩ rfl ⟨⟨mm, (pl hm0)⟩, trivial⟩ ⟨trivial, trivial⟩ ⟨mm, trivial⟩ ⟨ne_zm, trivial⟩; replace h32 := SL.rc h32 (rn e227 ⟨ne_zm, trivial⟩) (rn e227 ⟨ne_zm, trivial⟩); replace E := E.rn B0 e227; replace B := B.rk e228 lm; have hl229 : l155.length = (l155.set i156.toNat (api_Letter.mk ((rd l155 i156).Number) ((rd l155 i156).From) ((rd l155 i156).To) t139)).length := by simp
    replace F := F.sub (L' := [(5, .slice A152 (l155.set i156.toNat (api_Letter.mk ((rd l155 i156).Number) ((rd l155 i156).From) ((rd l155 i156).To) t139)).length C153), (6, .slice A30 t24.length C31), (7, .int .i64 i156)]) ⟨(by rw [← hl229]; rfl), rfl, rfl, trivial⟩; refine nil (hK170 _ _ ?_); refine reg ?_; refine qm F fun a F => ?_; refine qv F (r_add F rfl rfl) fun a F => ?_; refine qa F fun a F => nil ?_; replace H := HN160 _ (si H).symm; exact hX159 _ _ _ (Nat.lt_succ_self _) ⟨(l155.set i156.toNat (api_Letter.mk ((rd l155 i156).Number) ((rd l155 i156).From) ((rd l155 i156).To) t139)), A152, C153, (IntKind.i64.wrap (i156 + 1)), c226, F.sub ⟨rfl, rfl, rfl, trivial⟩, E, B, h32, h154, H⟩
   replace H := im hb203 H; refine wct (fb F (congrArg not (bfalse hb203))) ?_; refine sr fun K204 hK204 => qa F fun a F => nil (hK204 _ _ ?_); refine wp_ret ?_; refine thenR ?_; refine inbR ?_; refine thenR ?_; refine thenR ?_; refine inbR ?_; refine thenR ?_; have hx_ := HD161 _ (si H).symm; have H := HR165; rw [← hx_] at H; replace H : some false = some r := H; obtain rfl := si H; refine out1 F rfl rfl ?_; exact ⟨cf (ct m) c198, rfl, E.lv B0, cfb⟩
  replace H := im hb169 H; refine wcf (fb F (dz hb169)) ?_; refine wp_exit ?_; refine thenE ?_; refine thenE ?_; refine inbE ?_; have hx_ := HD161 _ (si H).symm; have H := HR165; rw [← hx_] at H; exact J235 c157 w158 a  (F.sub trivial) E B  H
 refine reg ?_; refine qm F fun a F => ?_; refine qv F (r_lensl F Try.underlying34 rfl) fun a F => ?_; refine qm F fun a F => ?_; refine qv F (r_lensl F Try.underlying34 rfl) fun a F => ?_; refine qv F (r_neq F rfl rfl) fun a F => ?_; refine qm F fun a F => ?_
 by_cases hb36 : (t13.length : Int) = (t24.length : Int)
 ·replace H := ip hb36 H; refine qy F (congrArg not (dt hb36)) ?_; refine qm F fun a F => ?_; obtain ⟨t37, q38, H⟩ := bind_some H; refine qy F (congrArg not (dt hb36)) ?_; refine qc F Try.func10 (bag_Bag_Len.calls (m := m + 4) (pl hm0) B h3 (Nat.lt_add_right _ bj4) ⟨bj5.1, (Nat.lt_add_right _ bj5.2.1), bj5.2.2⟩ _ q38) ?_; rintro e w40 ⟨c39, rfl, E41, B⟩; refine rt fun a F => ?_; replace h8 := h8.ev E41; replace E := E.n E41; refine qy F (congrArg not (dt hb36)) ?_; refine qm F fun a F => ?_; obtain ⟨t44, q45, H⟩ := bind_some H; refine qy F (congrArg not (dt hb36)) ?_; refine qc F Try.func42 (haulageref20_Bag_Len.calls (m := m + 4) (pl hm0) B h8 (Nat.lt_add_right _ bj9) ⟨(Nat.lt_add_right _ bj10.1), bj10.2⟩ _ q45) ?_; rintro e w47 ⟨c46, rfl, E48, B⟩; refine rt fun a F => ?_; replace h3 := (h3.ev E41).ev E48; replace h8 := h8.ev E48; replace h21 := (h21.ev E41).ev E48; replace h32 := (h32.ev E41).ev E48; replace E := E.n E48; refine qy F (congrArg not (dt hb36)) ?_; refine qv F (r_neq F rfl rfl) fun a F => ?_; refine qv F (r_pick_f F rfl (congrArg not (dt hb36)) rfl) fun a F => ?_; refine qm F fun a F => ?_
  by_cases hb51 : t37 = t44
  ·replace H := ip hb51 H; refine qy F (congrArg not (dt hb51)) ?_; refine qm F fun a F => ?_; obtain ⟨t52, q53, H⟩ := bind_some H; refine qy F (congrArg not (dt hb51)) ?_; refine qc F Try.func29 (bag_Bag_Counts.calls (m := m + 4) (pl hm0) B h3 (Nat.lt_add_right _ bj4) ⟨bj5.1, (Nat.lt_add_right _ bj5.2.1), bj5.2.2⟩ _ q53) ?_; rintro e w55 ⟨c54, rfl, E56, B⟩; refine rt fun a F => ?_; replace h8 := h8.ev E56; replace E := E.n E56; refine qy F (congrArg not (dt hb51)) ?_; refine qm F fun a F => ?_; obtain ⟨t59, q60, H⟩ := bind_some H; refine qy F (congrArg not (dt hb51)) ?_; refine qc F Try.func44 (haulageref20_Bag_Counts.calls (m := m + 4) (pl hm0) B h8 (Nat.lt_add_right _ bj9) ⟨(Nat.lt_add_right _ bj10.1), bj10.2⟩ _ q60) ?_; rintro e w62 ⟨c61, rfl, E63, B⟩; refine rt fun a F => ?_; replace h21 := (h21.ev E56).ev E63; replace h32 := (h32.ev E56).ev E63; replace E := E.n E63; refine qy F (congrArg not (dt hb51)) ?_; refine qv F (r_agneq F sqg_63 rfl rfl (sq_63 ..)) fun a F => ?_; refine qv F (r_pick_f F rfl (congrArg not (dt hb51)) rfl) fun a F => ?_; refine nil ?_; exact J67 c61 w62 a (!decide (t52 = t59)) (F.sub ⟨rfl, rfl, rfl, trivial⟩) E B h21 h32 H
  replace H := im hb51 H; refine qn F (congrArg not (dz hb51)) fun a F => qn F (congrArg not (dz hb51)) fun a F => qn F (congrArg not (dz hb51)) fun a F => qn F (congrArg not (dz hb51)) fun a F => qn F (congrArg not (dz hb51)) fun a F => ?_; refine qv F (r_pick_t F rfl (congrArg not (dz hb51)) rfl) fun a F => ?_; refine nil ?_; exact J67 c46 w47 a true (F.sub ⟨rfl, rfl, rfl, trivial⟩) E B h21 h32 H
 replace H := im hb36 H; refine qn F (congrArg not (dz hb36)) fun a F => qn F (congrArg not (dz hb36)) fun a F => qn F (congrArg not (dz hb36)) fun a F => qn F (congrArg not (dz hb36)) fun a F => qn F (congrArg not (dz hb36)) fun a F => ?_; refine qv F (r_pick_t F rfl (congrArg not (dz hb36)) rfl) fun a F => ?_; refine qm F fun a F => qn F rfl fun a F => qn F rfl fun a F => qn F rfl fun a F => qn F rfl fun a F => qn F rfl fun a F => ?_; refine qt F fun a F => ?_; refine nil ?_; exact J67 c26 w27 a true (F.sub ⟨rfl, rfl, rfl, trivial⟩) E B h21 h32 H
theorem haulageref20_Bag_find.calls (k : Nat) {m : Nat} {c0 : Nat → Nat} {w0 : World} {j4 : Nat} {j5 : Nat} {p2 : Option Addr} {a1 : Option Bg3} {a6 : Int} (hm0 : 0 < m) (B0 : CB m c0 w0) (h3 : BG3 j4 j5 c0 w0 p2 a1) (bj4 : j4 < m) (bj5 : j5 < m ∧ j5 ≠ j4) (r : Int) (H : haulageref20_Bag_find.f k a1 a6 = some r) : Calls Try.prog 50 #[.pointer p2, .int .i64 a6] w0 (fun e w_ => ∃ (c_ : Nat → Nat), e = .returned (.int .i64 r) ∧ Ev (fun x => False) c0 w0 c_ w_ ∧ CB m c_ w_) := by
 unfold haulageref20_Bag_find.f at H; have B := B0.mono (show m ≤ m + 1 by omega); have E : Ev (fun x => False ∨ m ≤ x) c0 w0 c0 w0 := Ev.refl; refine enter (N := 26) (l := [.pointer p2, .int .i64 a6]) Try.func50 rfl rfl (nb rfl) fun a F => ?_; refine sr fun K7 hK7 => qa F fun a F => nil (hK7 _ _ ?_); refine sq fun K8 hK8 => ?_; refine sr fun K9 hK9 => qa F fun a F => nil (hK9 _ _ ?_); refine wp_block ?_; obtain ⟨x20, HL, HR19⟩ := bind_some H; have J49 : ∀ (c50 : Nat → Nat) (w51 : World) (a : Act), Fr a 26 [] → Ev (fun x => False ∨ m ≤ x) c0 w0 c50 w51 → CB (m + 1) c50 w51 → haulageref20_Bag_find.j2 = some r → K8 a w51 := by
  intro c50 w51 a  F E B  H; unfold haulageref20_Bag_find.j2 at H; refine hK8 _ _ ?_; refine sr fun K52 hK52 => qa F fun a F => nil (hK52 _ _ ?_); refine wp_ret ?_; obtain rfl := si H; refine out1 F rfl rfl ?_; exact ⟨cf (ct m) c50, rfl, E.lv B0, cfb⟩
 refine loop_fuel (I := fun n a w => ∃ (i10 : Int) (c : Nat → Nat), Fr a 26 [(0, .pointer p2), (1, .int .i64 a6), (5, .int .i64 i10)] ∧ Ev (fun x => False ∨ m ≤ x) c0 w0 c w ∧ CB (m + 1) c w ∧ BG3 j4 j5 c w p2 a1 ∧ loop (fun (s_ : Int) => haulageref20_Bag_find.b1 a1 a6 s_) n i10 = some x20) (k := k) ⟨0, c0, F.sub ⟨rfl, rfl, rfl, trivial⟩, E, B, h3, HL⟩ ?_; clear HL H E F B; intro n17 X13 hX13 a w12 ⟨i10, c11, F, E, B, h3, HL⟩; obtain ⟨n18, ctl16, rfl, HB, HN14, HD15⟩ := loop_some HL; have H : haulageref20_Bag_find.b1 a1 a6 i10 = some ctl16 := HB; clear HB HL; unfold haulageref20_Bag_find.b1 at H; refine sq fun K21 hK21 => ?_; refine sr fun K22 hK22 => qm F fun a F => qm F fun a F => ?_; obtain ⟨ob23, e24, H⟩ := bind_some H; have z25 := h3; rw [e24] at z25; obtain ⟨ad26, A28, C29, rfl, hat27, h30⟩ := BG3.some z25; refine qi F fun a F => ?_; refine qf F ff_76_0 fun a F => ?_; refine ql F ag_34 hat27 fun a F => ?_; refine qv F (r_lensl F Try.underlying34 rfl) fun a F => ?_; refine qv F (r_lss F rfl rfl) fun a F => ?_; refine nil (hK22 _ _ ?_)
 by_cases hb32 : i10 < (ob23.Row.length : Int)
 ·replace H := ip hb32 H; refine wct (fb F (dt hb32)) (wp_skip (hK21 _ _ ?_)); refine sq fun K33 hK33 => ?_; refine wp_block ?_; refine sr fun K34 hK34 => qm F fun a F => ?_; refine qi F fun a F => ?_; refine qf F ff_76_0 fun a F => ?_; refine ql F ag_34 hat27 fun a F => ?_; refine qm F fun a F => ?_; replace H := ifN H; obtain ⟨g35, H⟩ := H; obtain ⟨ad36, cs37, e38, h39, r40⟩ := SL.at h30 i10 g35.1 g35.2; obtain ⟨A41, C42, rfl, h43⟩ := r40; obtain ⟨qa44, qqa44⟩ : ∃ q, q = (ad36.add (i10.toNat * 4)) := ⟨_, rfl⟩; have h39 : AT true j5 c11 w12 qa44 [.int .i64 ((rd ob23.Row i10).Number), .int .i64 ((rd ob23.Row i10).From), .int .i64 ((rd ob23.Row i10).To), .slice A41 ((rd ob23.Row i10).Data).length C42] := by rw [qqa44]; exact h39
  refine qv F (r_indexAddr' F Try.underlying34 sz_40 rfl rfl g35.1 g35.2 e38 qqa44) fun a F => ?_; refine qf F ff_40_0 fun a F => ?_; refine ql F ag_3 h39 fun a F => ?_; refine qm F fun a F => ?_; refine qv F (r_eql F rfl rfl) fun a F => ?_; refine nil (hK34 _ _ ?_); replace F : Fr a 26 [(0, .pointer (some ad26)), (1, .int .i64 a6), (5, .int .i64 i10), (24, .bool (decide (((rd ob23.Row i10).Number) = a6)))] := F.sub ⟨rfl, rfl, rfl, rfl, trivial⟩
  by_cases hb46 : ((rd ob23.Row i10).Number) = a6
  ·replace H := ip hb46 H; refine wct (fb F (dt hb46)) ?_; refine sr fun K47 hK47 => qm F fun a F => qa F fun a F => nil (hK47 _ _ ?_); refine wp_ret ?_; refine inbR ?_; refine thenR ?_; refine thenR ?_; refine inbR ?_; refine thenR ?_; have hx_ := HD15 _ (si H).symm; have H := HR19; rw [← hx_] at H; replace H : some i10 = some r := H; obtain rfl := si H; refine out1 F rfl rfl ?_; exact ⟨cf (ct m) c11, rfl, E.lv B0, cfb⟩
  replace H := im hb46 H; refine wcf (fb F (dz hb46)) (wp_skip (hK33 _ _ ?_)); refine reg ?_; refine qm F fun a F => ?_; refine qv F (r_add F rfl rfl) fun a F => ?_; refine qa F fun a F => nil ?_; replace H := HN14 _ (si H).symm; exact hX13 _ _ _ (Nat.lt_succ_self _) ⟨(IntKind.i64.wrap (i10 + 1)), c11, F.sub ⟨rfl, rfl, rfl, trivial⟩, E, B, h3, H⟩
 replace H := im hb32 H; refine wcf (fb F (dz hb32)) ?_; refine wp_exit ?_; refine thenE ?_; refine thenE ?_; refine inbE ?_; have hx_ := HD15 _ (si H).symm; have H := HR19; rw [← hx_] at H; exact J49 c11 w12 a  (F.sub trivial) E B  H
theorem haulageref20_Bag_take.calls {m : Nat} {c0 : Nat → Nat} {w0 : World} {j4 : Nat} {j5 : Nat} {p2 : Option Addr} {a1 : Option Bg3} {a6 : Int} (hm0 : 0 < m) (B0 : CB m c0 w0) (h3 : BG3 j4 j5 c0 w0 p2 a1) (bj4 : 0 < j4 ∧ j4 < m) (bj5 : 0 < j5 ∧ j5 < m ∧ j5 ≠ j4) (r : api_Letter × (Option Bg3)) (H : haulageref20_Bag_take.f a1 a6 = some r) : Calls Try.prog 51 #[.pointer p2, .int .i64 a6] w0 (fun e w_ => ∃ (c_ : Nat → Nat) (A0_ : Option Addr) (C0_ : Nat), e = .returned (.agg #[.int .i64 r.1.Number, .int .i64 r.1.From, .int .i64 r.1.To, .slice A0_ r.1.Data.length C0_]) ∧ Ev (fun x => (x = j4 ∨ x = j5)) c0 w0 c_ w_ ∧ CB m c_ w_ ∧ SL false (Kint .u8) 0 0 c_ w_ A0_ C0_ r.1.Data ∧ BG3 j4 j5 c_ w_ p2 r.2) := by
 unfold haulageref20_Bag_take.f at H; have B := B0.mono (show m ≤ m + 4 by omega); have E : Ev (fun x => (x = j4 ∨ x = j5) ∨ m ≤ x) c0 w0 c0 w0 := Ev.refl; refine enter (N := 35) (l := [.pointer p2, .int .i64 a6]) Try.func51 rfl rfl (nb rfl) fun a F => ?_; refine sr fun K7 hK7 => ?_; refine q_eff F rfl rfl (by decide) (e_alloc F zv_40 c0 (m + 1)) ?_; rintro v w9 a ⟨c8, qa10, rfl, E11, h12, B13⟩ F; replace B := B13 _ B lm; replace h3 := h3.ev E11; replace E := E.n E11; replace h12 : AT _ _ _ _ _ [.int .i64 0, .int .i64 0, .int .i64 0, .slice none 0 0] := h12; refine nil (hK7 _ _ ?_); refine sr fun K15 hK15 => qm F fun a F => ?_; obtain ⟨ob16, e17, H⟩ := bind_some H; have z18 := h3; rw [e17] at z18; obtain ⟨ad19, A21, C22, rfl, hat20, h23⟩ := BG3.some z18; refine qi F fun a F => ?_; refine qf F ff_76_0 fun a F => ?_; refine ql F ag_34 hat20 fun a F => ?_; refine qm F fun a F => ?_; replace H := ifN H; obtain ⟨g25, H⟩ := H; obtain ⟨ad26, cs27, e28, h29, r30⟩ := SL.at h23 a6 g25.1 g25.2; obtain ⟨A31, C32, rfl, h33⟩ := r30; replace h33 := SL.fl (i' := 0) h33 (fun q => q); obtain ⟨qa34, qqa34⟩ : ∃ q, q = (ad26.add (a6.toNat * 4)) := ⟨_, rfl⟩; have h29 : AT true j5 c8 w9 qa34 [.int .i64 ((rd ob16.Row a6).Number), .int .i64 ((rd ob16.Row a6).From), .int .i64 ((rd ob16.Row a6).To), .slice A31 ((rd ob16.Row a6).Data).length C32] := by rw [qqa34]; exact h29
 refine qv F (r_indexAddr' F Try.underlying34 sz_40 rfl rfl g25.1 g25.2 e28 qqa34) fun a F => ?_; refine qv F (r_loads (cs := [.int .i64 ((rd ob16.Row a6).Number), .int .i64 ((rd ob16.Row a6).From), .int .i64 ((rd ob16.Row a6).To), .slice A31 ((rd ob16.Row a6).Data).length C32]) F rfl ag_40 sz_40 h29) fun a F => ?_; refine q_eff F rfl rfl (by decide) (e_alloc F zv_40 c8 (m + 2)) ?_; rintro v w37 a ⟨c36, qa38, rfl, E39, h40, B41⟩ F; replace B := B41 _ B lm; replace h23 := h23.ev E39; replace hat20 := hat20.ev E39; replace E := E.n E39; replace h40 : AT _ _ _ _ _ [.int .i64 0, .int .i64 0, .int .i64 0, .slice none 0 0] := h40; refine q_eff0 F rfl rfl (e_storeN0 (us := [.int .i64 ((rd ob16.Row a6).Number), .int .i64 ((rd ob16.Row a6).From), .int .i64 ((rd ob16.Row a6).To), .slice A31 ((rd ob16.Row a6).Data).length C32]) F rfl rfl sz_40 h40 (nb rfl) (one_all rfl)) ?_; rintro w43 a ⟨E44, h40, Z45⟩ F; replace B := B.size Z45; replace h23 := h23.ev E44 (ne_pm bj5.2.1) ne_zm; replace hat20 := hat20.ev E44 (ne_pm bj4.2); replace E := E.trans E44 lc1; replace h40 : AT _ _ _ _ _ [.int .i64 ((rd ob16.Row a6).Number), .int .i64 ((rd ob16.Row a6).From), .int .i64 ((rd ob16.Row a6).To), .slice A31 ((rd ob16.Row a6).Data).length C32] := h40; refine nil (hK15 _ _ ?_); refine sr fun K46 hK46 => qa F fun a F => nil (hK46 _ _ ?_); refine sr fun K47 hK47 => qm F fun a F => qm F fun a F => ?_; refine qi F fun a F => ?_; refine qf F ff_76_0 fun a F => ?_; refine ql F ag_34 hat20 fun a F => ?_; refine qm F fun a F => ?_; replace H := ifN H; obtain ⟨g48, H⟩ := H; obtain ⟨A49, C50, r51, h52⟩ := cut_h (kh := .i64) Try.underlying34 sz_40 h23 g48; refine qv F (r_slice (vl := none) (vh := some (.int .i64 a6)) (vm := none) F rfl rfl rfl rfl r51) fun a F => ?_; replace H := ifN H; obtain ⟨g53, H⟩ := H; refine q_eff F rfl rfl (by decide) (e_append (k := K_api_Letter) (xs := []) (ys := (ob16.Row.take a6.toNat)) (c := c36) (j := (m + 3)) (i := 0) F et_34 rfl rfl SL.nil h52 (ap0 g53) (len_ok0 g53) ne_zm) ?_; rintro v w55 a ⟨c54, A56, C57, rfl, E58, h59, B60⟩ F; replace B := B60 _ B lm; replace h23 := h23.ev E58 (ne_pm bj5.2.1) ne_zm; replace hat20 := hat20.ev E58 (ne_pm bj4.2); replace E := E.trans E58 lc1; refine qa F fun a F => nil (hK47 _ _ ?_); replace F : Fr a 35 [(0, .pointer (some ad19)), (1, .int .i64 a6), (4, .pointer (some qa10)), (5, .pointer (some qa38)), (6, .slice A56 ([] ++ (ob16.Row.take a6.toNat)).length C57)] := F.sub ⟨rfl, rfl, rfl, rfl, rfl, trivial⟩; refine sr fun K61 hK61 => qm F fun a F => qm F fun a F => qm F fun a F => ?_; refine qi F fun a F => ?_; refine qf F ff_76_0 fun a F => ?_; refine ql F ag_34 hat20 fun a F => ?_; refine qm F fun a F => ?_; refine qv F (r_add F rfl rfl) fun a F => ?_; replace H := ifN H; obtain ⟨g62, H⟩ := H; obtain ⟨A63, C64, r65, h66⟩ := cut_l (kl := .i64) Try.underlying34 sz_40 h23 g62; refine qv F (r_slice (vl := some (.int .i64 (IntKind.i64.wrap (a6 + 1)))) (vh := none) (vm := none) F rfl rfl rfl rfl r65) fun a F => ?_; replace H := ifN H
 obtain ⟨g67, H⟩ := H; refine q_eff F rfl rfl (by decide) (e_append (k := K_api_Letter) (xs := ([] ++ (ob16.Row.take a6.toNat))) (ys := (ob16.Row.drop (IntKind.i64.wrap (a6 + 1)).toNat)) (c := c54) (j := (m + 3)) (i := 0) F et_34 rfl rfl h59 h66 g67 (len_ok g67) ne_zm) ?_; rintro v w69 a ⟨c68, A70, C71, rfl, E72, h73, B74⟩ F; replace B := B74 _ B lm; replace h12 := (((h12.ev E39).ev E44).ev E58).ev E72; replace hat20 := hat20.ev E72 (ne_pm bj4.2); replace h33 := (((h33.ev E39).ev E44).ev E58).ev E72; replace h40 := (h40.ev E58).ev E72; replace E := E.trans E72 lc1; refine qi F fun a F => ?_; refine qf F ff_76_0 fun a F => ?_; refine q_eff0 F rfl rfl (e_store F rfl rfl sz_34 hat20 (nb rfl) rfl) ?_; rintro w75 a ⟨E76, hat20, Z77⟩ F; replace h12 := h12.ev E76 (ne_mp bj4.2); replace h33 := h33.ev E76 (ne_z bj4.1) (ne_z bj4.1); replace h40 := h40.ev E76 (ne_mp bj4.2); replace h73 := h73.ev E76 (ne_mp bj4.2) (ne_z bj4.1); replace E := E.trans E76 (fun x (q : x = j4) => Or.inl (Or.inl q)); replace hat20 : AT true j4 c68 w75 ad19 [.slice A70 (([] ++ (ob16.Row.take a6.toNat)) ++ (ob16.Row.drop (IntKind.i64.wrap (a6 + 1)).toNat)).length C71, .int .i64 ob16.Next, .int .i64 ob16.Told.Sent, .int .i64 ob16.Told.Twice, .int .i64 ob16.Told.Delivered, .int .i64 ob16.Told.Dropped, .int .i64 ob16.Told.Lost] := hat20; refine nil (hK61 _ _ ?_); replace F : Fr a 35 [(4, .pointer (some qa10)), (5, .pointer (some qa38))] := F.sub ⟨rfl, rfl, trivial⟩; refine sr fun K78 hK78 => ?_; refine qv F (r_loads (cs := [.int .i64 ((rd ob16.Row a6).Number), .int .i64 ((rd ob16.Row a6).From), .int .i64 ((rd ob16.Row a6).To), .slice A31 ((rd ob16.Row a6).Data).length C32]) F rfl ag_40 sz_40 h40) fun a F => ?_; refine q_eff0 F rfl rfl (e_storeN0 (us := [.int .i64 ((rd ob16.Row a6).Number), .int .i64 ((rd ob16.Row a6).From), .int .i64 ((rd ob16.Row a6).To), .slice A31 ((rd ob16.Row a6).Data).length C32]) F rfl rfl sz_40 h12 (nb rfl) (one_all rfl)) ?_; rintro w79 a ⟨E80, h12, Z81⟩ F; replace hat20 := hat20.ev E80 (ne_pm bj4.2); replace h33 := h33.ev E80; replace h73 := h73.ev E80; replace E := E.trans E80 lc1; replace h12 : AT _ _ _ _ _ [.int .i64 ((rd ob16.Row a6).Number), .int .i64 ((rd ob16.Row a6).From), .int .i64 ((rd ob16.Row a6).To), .slice A31 ((rd ob16.Row a6).Data).length C32] := h12; refine nil (hK78 _ _ ?_); refine wp_ret ?_; have h82 : BG3 j4 (m + 3) c68 w79 (some ad19) (some (Bg3.mk (([] ++ (ob16.Row.take a6.toNat)) ++ (ob16.Row.drop (IntKind.i64.wrap (a6 + 1)).toNat)) ob16.Next ob16.Told)) := BG3.mk hat20 h73; obtain rfl := si H; refine outR1 F rfl ⟨_, rfl, lv_agg (cs := [.int .i64 ((rd ob16.Row a6).Number), .int .i64 ((rd ob16.Row a6).From), .int .i64 ((rd ob16.Row a6).To), .slice A31 ((rd ob16.Row a6).Data).length C32]) ag_40 sz_40 h12⟩ ?_; exact ⟨cf (fun x_ => if x_ = m + 3 then j5 else if x_ < m then x_ else 0) c68, A31, C32, rfl, E.lv B0, cfb, SL.rc h33 cfk cfk, BG3.rc h82 cfk cfk cfk⟩
theorem haulageref20_Bag_Deliver.calls (k : Nat) {m : Nat} {c0 : Nat → Nat} {w0 : World} {j4 : Nat} {j5 : Nat} {p2 : Option Addr} {a1 : Option Bg3} {a6 : Int} (hm0 : 0 < m) (B0 : CB m c0 w0) (h3 : BG3 j4 j5 c0 w0 p2 a1) (bj4 : 0 < j4 ∧ j4 < m) (bj5 : 0 < j5 ∧ j5 < m ∧ j5 ≠ j4) (r : api_Letter × Int × (Option Bg3)) (H : haulageref20_Bag_Deliver.f k a1 a6 = some r) : Calls Try.prog 38 #[.pointer p2, .int .i64 a6] w0 (fun e w_ => ∃ (c_ : Nat → Nat) (A0_ : Option Addr) (C0_ : Nat), e = .returned (.tuple #[.agg #[.int .i64 r.1.Number, .int .i64 r.1.From, .int .i64 r.1.To, .slice A0_ r.1.Data.length C0_], .int .i64 r.2.1]) ∧ Ev (fun x => (x = j4 ∨ x = j5)) c0 w0 c_ w_ ∧ CB m c_ w_ ∧ SL false (Kint .u8) 0 0 c_ w_ A0_ C0_ r.1.Data ∧ BG3 j4 j5 c_ w_ p2 r.2.2) := by
 unfold haulageref20_Bag_Deliver.f at H; have B := B0.mono (show m ≤ m + 2 by omega); have E : Ev (fun x => (x = j4 ∨ x = j5) ∨ m ≤ x) c0 w0 c0 w0 := Ev.refl; refine enter (N := 28) (l := [.pointer p2, .int .i64 a6]) Try.func38 rfl rfl (nb rfl) fun a F => ?_; refine sr fun K7 hK7 => ?_; refine q_eff F rfl rfl (by decide) (e_alloc F zv_40 c0 (m + 1)) ?_; rintro v w9 a ⟨c8, qa10, rfl, E11, h12, B13⟩ F; replace B := B13 _ B lm; replace h3 := h3.ev E11; replace E := E.n E11; replace h12 : AT _ _ _ _ _ [.int .i64 0, .int .i64 0, .int .i64 0, .slice none 0 0] := h12; refine qa F fun a F => nil (hK7 _ _ ?_); refine sq fun K15 hK15 => ?_; refine sr fun K16 hK16 => qm F fun a F => ?_; refine qv F (r_peqlA F Try.underlying48 rfl rfl (BG3.isNone h3)) fun a F => ?_; refine nil (hK16 _ _ ?_)
 by_cases hb17 : (Option.isNone a1) = true
 ·replace H := ip hb17 H; refine wct (fb F hb17) ?_; refine sr fun K18 hK18 => ?_; refine qv F (r_build (v := .agg #[.int .i64 0, .int .i64 0, .int .i64 0, .slice none 0 0]) F [] (by exact trivial) (fun w => by kernel_rfl)) fun a F => ?_; refine q_eff0 F rfl rfl (e_storeN0 (us := [.int .i64 0, .int .i64 0, .int .i64 0, .slice none 0 0]) F rfl rfl sz_40 h12 (nb rfl) (one_all rfl)) ?_; rintro w19 a ⟨E20, h12, Z21⟩ F; replace h3 := h3.ev E20 (ne_pm bj4.2) (ne_pm bj5.2.1) ne_zm; replace E := E.trans E20 lc1; replace h12 : AT _ _ _ _ _ [.int .i64 0, .int .i64 0, .int .i64 0, .slice none 0 0] := h12; refine qa F fun a F => nil (hK18 _ _ ?_); refine wp_ret ?_; refine thenR ?_; obtain rfl := si H; refine outR2 F rfl ⟨_, rfl, lv_agg (cs := [.int .i64 0, .int .i64 0, .int .i64 0, .slice none 0 0]) ag_40 sz_40 h12⟩ rfl ?_; exact ⟨cf (ct m) c8, none, 0, rfl, E.lv B0, cfb, SL.nil, BG3.rc h3 cfk cfk cfk⟩
 replace H := im hb17 H; refine wcf (fb F (bfalse hb17)) (wp_skip (hK15 _ _ ?_)); refine sr fun K22 hK22 => qm F fun a F => qm F fun a F => ?_; obtain ⟨t23, q24, H⟩ := bind_some H; refine qc F Try.func50 (haulageref20_Bag_find.calls k (m := m + 2) (pl hm0) B h3 (Nat.lt_add_right _ bj4.2) ⟨(Nat.lt_add_right _ bj5.2.1), bj5.2.2⟩ _ q24) ?_; rintro e w26 ⟨c25, rfl, E27, B⟩; refine rt fun a F => ?_; replace h3 := h3.ev E27; replace h12 := h12.ev E27; replace E := E.n E27; refine qa F fun a F => nil (hK22 _ _ ?_); refine sq fun K30 hK30 => ?_; refine sr fun K31 hK31 => qm F fun a F => ?_; refine qv F (r_lss F rfl rfl) fun a F => ?_; refine nil (hK31 _ _ ?_); replace F : Fr a 28 [(0, .pointer p2), (4, .pointer (some qa10)), (6, .int .i64 t23), (14, .bool (decide (t23 < 0)))] := F.sub ⟨rfl, rfl, rfl, rfl, trivial⟩
 by_cases hb32 : t23 < 0
 ·replace H := ip hb32 H; refine wct (fb F (dt hb32)) ?_; refine sr fun K33 hK33 => ?_; refine qv F (r_build (v := .agg #[.int .i64 0, .int .i64 0, .int .i64 0, .slice none 0 0]) F [] (by exact trivial) (fun w => by kernel_rfl)) fun a F => ?_; refine q_eff0 F rfl rfl (e_storeN0 (us := [.int .i64 0, .int .i64 0, .int .i64 0, .slice none 0 0]) F rfl rfl sz_40 h12 (nb rfl) (one_all rfl)) ?_; rintro w34 a ⟨E35, h12, Z36⟩ F; replace h3 := h3.ev E35 (ne_pm bj4.2) (ne_pm bj5.2.1) ne_zm; replace E := E.trans E35 lc1; replace h12 : AT _ _ _ _ _ [.int .i64 0, .int .i64 0, .int .i64 0, .slice none 0 0] := h12; refine qa F fun a F => nil (hK33 _ _ ?_); refine wp_ret ?_; refine thenR ?_; obtain rfl := si H; refine outR2 F rfl ⟨_, rfl, lv_agg (cs := [.int .i64 0, .int .i64 0, .int .i64 0, .slice none 0 0]) ag_40 sz_40 h12⟩ rfl ?_; exact ⟨cf (ct m) c25, none, 0, rfl, E.lv B0, cfb, SL.nil, BG3.rc h3 cfk cfk cfk⟩
 replace H := im hb32 H; refine wcf (fb F (dz hb32)) (wp_skip (hK30 _ _ ?_)); refine sr fun K37 hK37 => qm F fun a F => ?_; obtain ⟨ob38, e39, H⟩ := bind_some H; have z40 := h3; rw [e39] at z40; obtain ⟨ad41, A43, C44, rfl, hat42, h45⟩ := BG3.some z40; refine qi F fun a F => ?_; refine qf F ff_76_2 fun a F => ?_; refine qv F (r_fieldAddr2 F hat42 rfl ff_63_2) fun a F => ?_; refine ql F ag_3 hat42 fun a F => ?_; refine qv F (r_add F rfl rfl) fun a F => ?_; refine qi F fun a F => ?_; refine qf F ff_76_2 fun a F => ?_; refine qv F (r_fieldAddr2 F hat42 rfl ff_63_2) fun a F => ?_; refine q_eff0 F rfl rfl (e_store F rfl rfl sz_3 hat42 (nb rfl) rfl) ?_; rintro w47 a ⟨E48, hat42, Z49⟩ F; replace B := B.size Z49; replace h12 := h12.ev E48 (ne_mp bj4.2); replace h45 := h45.ev E48 bj5.2.2 (ne_z bj4.1); replace E := E.trans E48 (fun x (q : x = j4) => Or.inl (Or.inl q)); replace hat42 : AT true j4 c25 w47 ad41 [.slice A43 ob38.Row.length C44, .int .i64 ob38.Next, .int .i64 ob38.Told.Sent, .int .i64 ob38.Told.Twice, .int .i64 (IntKind.i64.wrap (ob38.Told.Delivered + 1)), .int .i64 ob38.Told.Dropped, .int .i64 ob38.Told.Lost] := hat42; refine nil (hK37 _ _ ?_); replace F : Fr a 28 [(0, .pointer (some ad41)), (4, .pointer (some qa10)), (6, .int .i64 t23)] := F.sub ⟨rfl, rfl, rfl, trivial⟩; refine sr fun K50 hK50 => qm F fun a F => qm F fun a F => ?_; have h51 : BG3 j4 j5 c25 w47 (some ad41) (some (Bg3.mk ob38.Row ob38.Next (api_Traffic.mk ob38.Told.Sent ob38.Told.Twice (IntKind.i64.wrap (ob38.Told.Delivered + 1)) ob38.Told.Dropped ob38.Told.Lost))) := BG3.mk hat42 h45; obtain ⟨t52, q53, H⟩ := bind_some H; refine qc F Try.func51 (haulageref20_Bag_take.calls (m := m + 2) (pl hm0) B h51 ⟨bj4.1, (Nat.lt_add_right _ bj4.2)⟩ ⟨bj5.1, (Nat.lt_add_right _ bj5.2.1), bj5.2.2⟩ _ q53) ?_; rintro e w55 ⟨c54, A58, C59, rfl, E56, B, h60, h61⟩; refine rt fun a F => ?_; replace h12 := h12.ev E56 (nor (ne_mp bj4.2) (ne_mp bj5.2.1)); replace E := E.trans E56 (fun x (q : x = j4 ∨ x = j5) => q.elim (fun q => Or.inl (Or.inl q)) (fun q => Or.inl (Or.inr (q)))); refine q_eff0 F rfl rfl (e_storeN0 (us := [.int .i64 t52.1.Number, .int .i64 t52.1.From, .int .i64 t52.1.To, .slice A58 t52.1.Data.length C59]) F rfl rfl sz_40 h12 (nb rfl) (one_all rfl)) ?_; rintro w63 a ⟨E64, h12, Z65⟩ F; replace h60 := h60.ev E64; replace h61 := h61.ev E64 (ne_pm bj4.2) (ne_pm bj5.2.1) ne_zm; replace E := E.trans E64 lc1; replace h12 : AT _ _ _ _ _ [.int .i64 t52.1.Number, .int .i64 t52.1.From, .int .i64 t52.1.To, .slice A58 t52.1.Data.length C59] := h12; refine qa F fun a F => nil (hK50 _ _ ?_); refine wp_ret ?_; obtain rfl := si H; refine outR2 F rfl ⟨_, rfl, lv_agg (cs := [.int .i64 t52.1.Number, .int .i64 t52.1.From, .int .i64 t52.1.To, .slice A58 t52.1.Data.length C59]) ag_40 sz_40 h12⟩ rfl ?_; exact ⟨cf (ct m) c54, A58, C59, rfl, E.lv B0, cfb, SL.rc h60 cfk cfk, BG3.rc h61 cfk cfk cfk⟩
theorem haulageref20_Bag_Drop.calls (k : Nat) {m : Nat} {c0 : Nat → Nat} {w0 : World} {j4 : Nat} {j5 : Nat} {p2 : Option Addr} {a1 : Option Bg3} {a6 : Int} (hm0 : 0 < m) (B0 : CB m c0 w0) (h3 : BG3 j4 j5 c0 w0 p2 a1) (bj4 : 0 < j4 ∧ j4 < m) (bj5 : 0 < j5 ∧ j5 < m ∧ j5 ≠ j4) (r : Int × (Option Bg3)) (H : haulageref20_Bag_Drop.f k a1 a6 = some r) : Calls Try.prog 39 #[.pointer p2, .int .i64 a6] w0 (fun e w_ => ∃ (c_ : Nat → Nat), e = .returned (.int .i64 r.1) ∧ Ev (fun x => (x = j4 ∨ x = j5)) c0 w0 c_ w_ ∧ CB m c_ w_ ∧ BG3 j4 j5 c_ w_ p2 r.2) := by
 unfold haulageref20_Bag_Drop.f at H; have B := B0.mono (show m ≤ m + 1 by omega); have E : Ev (fun x => (x = j4 ∨ x = j5) ∨ m ≤ x) c0 w0 c0 w0 := Ev.refl; refine enter (N := 25) (l := [.pointer p2, .int .i64 a6]) Try.func39 rfl rfl (nb rfl) fun a F => ?_; refine sr fun K7 hK7 => qa F fun a F => nil (hK7 _ _ ?_); refine sq fun K8 hK8 => ?_; refine sr fun K9 hK9 => qm F fun a F => ?_; refine qv F (r_peqlA F Try.underlying48 rfl rfl (BG3.isNone h3)) fun a F => ?_; refine nil (hK9 _ _ ?_)
 by_cases hb10 : (Option.isNone a1) = true
 ·replace H := ip hb10 H; refine wct (fb F hb10) ?_; refine sr fun K11 hK11 => qa F fun a F => nil (hK11 _ _ ?_); refine wp_ret ?_; refine thenR ?_; obtain rfl := si H; refine out1 F rfl rfl ?_; exact ⟨cf (ct m) c0, rfl, E.lv B0, cfb, BG3.rc h3 cfk cfk cfk⟩
 replace H := im hb10 H; refine wcf (fb F (bfalse hb10)) (wp_skip (hK8 _ _ ?_)); refine sr fun K12 hK12 => qm F fun a F => qm F fun a F => ?_; obtain ⟨t13, q14, H⟩ := bind_some H; refine qc F Try.func50 (haulageref20_Bag_find.calls k (m := m + 1) (pl hm0) B h3 (Nat.lt_add_right _ bj4.2) ⟨(Nat.lt_add_right _ bj5.2.1), bj5.2.2⟩ _ q14) ?_; rintro e w16 ⟨c15, rfl, E17, B⟩; refine rt fun a F => ?_; replace h3 := h3.ev E17; replace E := E.n E17; refine qa F fun a F => nil (hK12 _ _ ?_); refine sq fun K20 hK20 => ?_; refine sr fun K21 hK21 => qm F fun a F => ?_; refine qv F (r_lss F rfl rfl) fun a F => ?_; refine nil (hK21 _ _ ?_); replace F : Fr a 25 [(0, .pointer p2), (5, .int .i64 t13), (12, .bool (decide (t13 < 0)))] := F.sub ⟨rfl, rfl, rfl, trivial⟩
 by_cases hb22 : t13 < 0
 ·replace H := ip hb22 H; refine wct (fb F (dt hb22)) ?_; refine sr fun K23 hK23 => qa F fun a F => nil (hK23 _ _ ?_); refine wp_ret ?_; refine thenR ?_; obtain rfl := si H; refine out1 F rfl rfl ?_; exact ⟨cf (ct m) c15, rfl, E.lv B0, cfb, BG3.rc h3 cfk cfk cfk⟩
 replace H := im hb22 H; refine wcf (fb F (dz hb22)) (wp_skip (hK20 _ _ ?_)); refine sr fun K24 hK24 => qm F fun a F => ?_; obtain ⟨ob25, e26, H⟩ := bind_some H; have z27 := h3; rw [e26] at z27; obtain ⟨ad28, A30, C31, rfl, hat29, h32⟩ := BG3.some z27; refine qi F fun a F => ?_; refine qf F ff_76_2 fun a F => ?_; refine qv F (r_fieldAddr2 F hat29 rfl ff_63_3) fun a F => ?_; refine ql F ag_3 hat29 fun a F => ?_; refine qv F (r_add F rfl rfl) fun a F => ?_; refine qi F fun a F => ?_; refine qf F ff_76_2 fun a F => ?_; refine qv F (r_fieldAddr2 F hat29 rfl ff_63_3) fun a F => ?_; refine q_eff0 F rfl rfl (e_store F rfl rfl sz_3 hat29 (nb rfl) rfl) ?_; rintro w34 a ⟨E35, hat29, Z36⟩ F; replace B := B.size Z36; replace h32 := h32.ev E35 bj5.2.2 (ne_z bj4.1); replace E := E.trans E35 (fun x (q : x = j4) => Or.inl (Or.inl q)); replace hat29 : AT true j4 c15 w34 ad28 [.slice A30 ob25.Row.length C31, .int .i64 ob25.Next, .int .i64 ob25.Told.Sent, .int .i64 ob25.Told.Twice, .int .i64 ob25.Told.Delivered, .int .i64 (IntKind.i64.wrap (ob25.Told.Dropped + 1)), .int .i64 ob25.Told.Lost] := hat29; refine nil (hK24 _ _ ?_); replace F : Fr a 25 [(0, .pointer (some ad28)), (5, .int .i64 t13)] := F.sub ⟨rfl, rfl, trivial⟩; refine sr fun K37 hK37 => qm F fun a F => qm F fun a F => ?_; have h38 : BG3 j4 j5 c15 w34 (some ad28) (some (Bg3.mk ob25.Row ob25.Next (api_Traffic.mk ob25.Told.Sent ob25.Told.Twice ob25.Told.Delivered (IntKind.i64.wrap (ob25.Told.Dropped + 1)) ob25.Told.Lost))) := BG3.mk hat29 h32; obtain ⟨t39, q40, H⟩ := bind_some H; refine qc F Try.func51 (haulageref20_Bag_take.calls (m := m + 1) (pl hm0) B h38 ⟨bj4.1, (Nat.lt_add_right _ bj4.2)⟩ ⟨bj5.1, (Nat.lt_add_right _ bj5.2.1), bj5.2.2⟩ _ q40) ?_; rintro e w42 ⟨c41, A45, C46, rfl, E43, B, h47, h48⟩; refine rt fun a F => ?_; replace E := E.trans E43 (fun x (q : x = j4 ∨ x = j5) => q.elim (fun q => Or.inl (Or.inl q)) (fun q => Or.inl (Or.inr (q)))); refine nil (hK37 _ _ ?_); refine sr fun K50 hK50 => qa F fun a F => nil (hK50 _ _ ?_); refine wp_ret ?_; obtain rfl := si H; refine out1 F rfl rfl ?_; exact ⟨cf (ct m) c41, rfl, E.lv B0, cfb, BG3.rc h48 cfk cfk cfk⟩
theorem haulageref20_Bag_For.calls (k : Nat) {m : Nat} {c0 : Nat → Nat} {w0 : World} {j4 : Nat} {j5 : Nat} {p2 : Option Addr} {a1 : Option Bg3} {a6 : Int} (hm0 : 0 < m) (B0 : CB m c0 w0) (h3 : BG3 j4 j5 c0 w0 p2 a1) (bj4 : j4 < m) (bj5 : j5 < m ∧ j5 ≠ j4) (jr157 : Nat) (bjr157 : jr157 < m) (r : (List Int)) (H : haulageref20_Bag_For.f k a1 a6 = some r) : Calls Try.prog 41 #[.pointer p2, .int .i64 a6] w0 (fun e w_ => ∃ (c_ : Nat → Nat) (A0_ : Option Addr) (C0_ : Nat), e = .returned (.slice A0_ r.length C0_) ∧ Ev (fun x => False) c0 w0 c_ w_ ∧ CB m c_ w_ ∧ SL true (Kint .i64) jr157 0 c_ w_ A0_ C0_ r) := by
 unfold haulageref20_Bag_For.f at H; have B := B0.mono (show m ≤ m + 2 by omega); have E : Ev (fun x => False ∨ m ≤ x) c0 w0 c0 w0 := Ev.refl; refine enter (N := 41) (l := [.pointer p2, .int .i64 a6]) Try.func41 rfl rfl (nb rfl) fun a F => ?_; refine sr fun K7 hK7 => qa F fun a F => nil (hK7 _ _ ?_); refine sr fun K8 hK8 => qa F fun a F => nil (hK8 _ _ ?_); refine sq fun K9 hK9 => ?_; refine sr fun K10 hK10 => qm F fun a F => ?_; refine qv F (r_peqlA F Try.underlying48 rfl rfl (BG3.isNone h3)) fun a F => ?_; refine nil (hK10 _ _ ?_)
 by_cases hb11 : (Option.isNone a1) = true
 ·replace H := ip hb11 H; refine wct (fb F hb11) ?_; refine sr fun K12 hK12 => qm F fun a F => qa F fun a F => nil (hK12 _ _ ?_); refine wp_ret ?_; refine thenR ?_; obtain rfl := si H; refine out1 F rfl rfl ?_; exact ⟨cf (fun x_ => if x_ = m + 1 then jr157 else if x_ < m then x_ else 0) c0, none, 0, rfl, E.lv B0, cfb, SL.nil⟩
 replace H := im hb11 H; refine wcf (fb F (bfalse hb11)) (wp_skip (hK9 _ _ ?_)); refine sq fun K13 hK13 => ?_; refine sr fun K14 hK14 => qa F fun a F => nil (hK14 _ _ ?_); refine wp_block ?_; obtain ⟨x92, HL, HR91⟩ := bind_some H; have J153 : ∀ (c154 : Nat → Nat) (w155 : World) (a : Act) (l150 : List Int) (A151 : Option Addr) (C152 : Nat), Fr a 41 [(5, .slice A151 l150.length C152)] → Ev (fun x => False ∨ m ≤ x) c0 w0 c154 w155 → CB (m + 2) c154 w155 → SL true (Kint .i64) (m + 1) 0 c154 w155 A151 C152 l150 → haulageref20_Bag_For.j2 l150 = some r → K13 a w155 := by
  intro c154 w155 a l150 A151 C152 F E B h149 H; unfold haulageref20_Bag_For.j2 at H; refine hK13 _ _ ?_; refine sr fun K156 hK156 => qm F fun a F => qa F fun a F => nil (hK156 _ _ ?_); refine wp_ret ?_; obtain rfl := si H; refine out1 F rfl rfl ?_; exact ⟨cf (fun x_ => if x_ = m + 1 then jr157 else if x_ < m then x_ else 0) c154, A151, C152, rfl, E.lv B0, cfb, SL.rc h149 cfk cfk⟩
 refine loop_fuel (I := fun n a w => ∃ (l78 : List Int) (A79 : Option Addr) (C80 : Nat) (i82 : Int) (c : Nat → Nat), Fr a 41 [(0, .pointer p2), (1, .int .i64 a6), (5, .slice A79 l78.length C80), (6, .int .i64 i82)] ∧ Ev (fun x => False ∨ m ≤ x) c0 w0 c w ∧ CB (m + 2) c w ∧ BG3 j4 j5 c w p2 a1 ∧ SL true (Kint .i64) (m + 1) 0 c w A79 C80 l78 ∧ loop (fun (s_ : (List Int) × Int) => haulageref20_Bag_For.b1 a1 a6 s_.1 s_.2) n (l78, i82) = some x92) (k := k) ⟨[], none, 0, 0, c0, F.sub ⟨rfl, rfl, rfl, rfl, trivial⟩, E, B, h3, SL.nil, HL⟩ ?_; clear HL H E F B; intro n89 X85 hX85 a w84 ⟨l78, A79, C80, i82, c83, F, E, B, h3, h81, HL⟩; obtain ⟨n90, ctl88, rfl, HB, HN86, HD87⟩ := loop_some HL; have H : haulageref20_Bag_For.b1 a1 a6 l78 i82 = some ctl88 := HB; clear HB HL; unfold haulageref20_Bag_For.b1 at H; refine sq fun K93 hK93 => ?_; refine sr fun K94 hK94 => qm F fun a F => qm F fun a F => ?_; obtain ⟨ob95, e96, H⟩ := bind_some H; have z97 := h3; rw [e96] at z97; obtain ⟨ad98, A100, C101, rfl, hat99, h102⟩ := BG3.some z97; refine qi F fun a F => ?_; refine qf F ff_76_0 fun a F => ?_; refine ql F ag_34 hat99 fun a F => ?_; refine qv F (r_lensl F Try.underlying34 rfl) fun a F => ?_; refine qv F (r_lss F rfl rfl) fun a F => ?_; refine nil (hK94 _ _ ?_)
 by_cases hb104 : i82 < (ob95.Row.length : Int)
 ·replace H := ip hb104 H; refine wct (fb F (dt hb104)) (wp_skip (hK93 _ _ ?_)); refine sq fun K105 hK105 => ?_; refine wp_block ?_; refine sr fun K106 hK106 => qm F fun a F => ?_; refine qi F fun a F => ?_; refine qf F ff_76_0 fun a F => ?_; refine ql F ag_34 hat99 fun a F => ?_; refine qm F fun a F => ?_; replace H := ifN H; obtain ⟨g107, H⟩ := H; obtain ⟨ad108, cs109, e110, h111, r112⟩ := SL.at h102 i82 g107.1 g107.2; obtain ⟨A113, C114, rfl, h115⟩ := r112; obtain ⟨qa116, qqa116⟩ : ∃ q, q = (ad108.add (i82.toNat * 4)) := ⟨_, rfl⟩; have h111 : AT true j5 c83 w84 qa116 [.int .i64 ((rd ob95.Row i82).Number), .int .i64 ((rd ob95.Row i82).From), .int .i64 ((rd ob95.Row i82).To), .slice A113 ((rd ob95.Row i82).Data).length C114] := by rw [qqa116]; exact h111
  refine qv F (r_indexAddr' F Try.underlying34 sz_40 rfl rfl g107.1 g107.2 e110 qqa116) fun a F => ?_; refine qf F ff_40_2 fun a F => ?_; refine ql F ag_3 h111 fun a F => ?_; refine qm F fun a F => ?_; refine qv F (r_eql F rfl rfl) fun a F => ?_; refine nil (hK106 _ _ ?_); replace F : Fr a 41 [(0, .pointer (some ad98)), (1, .int .i64 a6), (5, .slice A79 l78.length C80), (6, .int .i64 i82), (28, .bool (decide (((rd ob95.Row i82).To) = a6)))] := F.sub ⟨rfl, rfl, rfl, rfl, rfl, trivial⟩
  by_cases hb118 : ((rd ob95.Row i82).To) = a6
  ·replace H := ip hb118 H; refine wct (fb F (dt hb118)) ?_; refine reg ?_; refine qm F fun a F => qm F fun a F => ?_; refine qi F fun a F => ?_; refine qf F ff_76_0 fun a F => ?_; refine ql F ag_34 hat99 fun a F => ?_; refine qm F fun a F => ?_; replace H := ifN H; obtain ⟨g119, H⟩ := H; obtain ⟨ad120, cs121, e122, h123, r124⟩ := SL.at h102 i82 g119.1 g119.2; obtain ⟨A125, C126, rfl, h127⟩ := r124; obtain ⟨qa128, qqa128⟩ : ∃ q, q = (ad120.add (i82.toNat * 4)) := ⟨_, rfl⟩; have h123 : AT true j5 c83 w84 qa128 [.int .i64 ((rd ob95.Row i82).Number), .int .i64 ((rd ob95.Row i82).From), .int .i64 ((rd ob95.Row i82).To), .slice A125 ((rd ob95.Row i82).Data).length C126] := by rw [qqa128]; exact h123
   refine qv F (r_indexAddr' F Try.underlying34 sz_40 rfl rfl g119.1 g119.2 e122 qqa128) fun a F => ?_; refine qf F ff_40_0 fun a F => ?_; refine ql F ag_3 h123 fun a F => ?_; refine q_eff F rfl rfl (by decide) (e_buildSlice (n := 1) (e := 3) (c := c83) (k := (Kint .i64)) (i := 0) F [(0, .int .i64 ((rd ob95.Row i82).Number))] [.int .i64 ((rd ob95.Row i82).Number)] ([(rd ob95.Row i82).Number] : List Int) (by exact ⟨rfl, rfl, trivial⟩) (fun w => by kernel_rfl) rfl (by decide) rfl ⟨rfl, trivial⟩ (fun q => q) 0) ?_; rintro v w131 a ⟨c130, A132, C133, rfl, E134, h135, B136⟩ F; replace B := B136 _ B (pl hm0); replace h3 := h3.ev E134; replace h81 := h81.ev E134; replace E := E.n E134; replace H := ifN H; obtain ⟨g70, H⟩ := H; refine q_eff F rfl rfl (by decide) (e_append (k := (Kint .i64)) (xs := l78) (ys := [(rd ob95.Row i82).Number]) (c := c130) (j := (m + 1)) (i := 0) F et_36 rfl rfl h81 h135 g70 (len_ok g70) ne_zm) ?_; rintro v w138 a ⟨c137, A139, C140, rfl, E141, h142, B143⟩ F; replace B := B143 _ B lm; replace h3 := h3.ev E141 (ne_pm bj4) (ne_pm bj5.1) ne_zm; replace E := E.trans E141 lc1; refine qa F fun a F => nil (hK105 _ _ ?_); replace F : Fr a 41 [(0, .pointer (some ad98)), (1, .int .i64 a6), (5, .slice A139 (l78 ++ [(rd ob95.Row i82).Number]).length C140), (6, .int .i64 i82)] := F.sub ⟨rfl, rfl, rfl, rfl, trivial⟩; refine reg ?_; refine qm F fun a F => ?_; refine qv F (r_add F rfl rfl) fun a F => ?_; refine qa F fun a F => nil ?_; replace H := HN86 _ (si H).symm; exact hX85 _ _ _ (Nat.lt_succ_self _) ⟨(l78 ++ [(rd ob95.Row i82).Number]), A139, C140, (IntKind.i64.wrap (i82 + 1)), c137, F.sub ⟨rfl, rfl, rfl, rfl, trivial⟩, E, B, h3, h142, H⟩
  replace H := im hb118 H; refine wcf (fb F (dz hb118)) (wp_skip (hK105 _ _ ?_)); refine reg ?_; refine qm F fun a F => ?_; refine qv F (r_add F rfl rfl) fun a F => ?_; refine qa F fun a F => nil ?_; replace H := HN86 _ (si H).symm; exact hX85 _ _ _ (Nat.lt_succ_self _) ⟨l78, A79, C80, (IntKind.i64.wrap (i82 + 1)), c83, F.sub ⟨rfl, rfl, rfl, rfl, trivial⟩, E, B, h3, h81, H⟩
 replace H := im hb104 H; refine wcf (fb F (dz hb104)) ?_; refine wp_exit ?_; refine thenE ?_; refine thenE ?_; refine inbE ?_; have hx_ := HD87 _ (si H).symm; have H := HR91; rw [← hx_] at H; exact J153 c83 w84 a l78 A79 C80 (F.sub ⟨rfl, trivial⟩) E B h81 H
theorem haulageref20_Bag_put.calls {m : Nat} {c0 : Nat → Nat} {w0 : World} {j4 : Nat} {j5 : Nat} {p2 : Option Addr} {A9 : Option Addr} {C10 : Nat} {a1 : Option Bg3} {a6 : Int} {a7 : Int} {a8 : List Int} (hm0 : 0 < m) (B0 : CB m c0 w0) (h3 : BG3 j4 j5 c0 w0 p2 a1) (h11 : SL false (Kint .u8) 0 0 c0 w0 A9 C10 a8) (bj4 : 0 < j4 ∧ j4 < m) (bj5 : 0 < j5 ∧ j5 < m ∧ j5 ≠ j4) (r : Int × (Option Bg3)) (H : haulageref20_Bag_put.f a1 a6 a7 a8 = some r) : Calls Try.prog 45 #[.pointer p2, .int .i64 a6, .int .i64 a7, .slice A9 a8.length C10] w0 (fun e w_ => ∃ (c_ : Nat → Nat), e = .returned (.int .i64 r.1) ∧ Ev (fun x => (x = j4 ∨ x = j5)) c0 w0 c_ w_ ∧ CB m c_ w_ ∧ BG3 j4 j5 c_ w_ p2 r.2) := by
 unfold haulageref20_Bag_put.f at H; have B := B0.mono (show m ≤ m + 1 by omega); have E : Ev (fun x => (x = j4 ∨ x = j5) ∨ m ≤ x) c0 w0 c0 w0 := Ev.refl; refine enter (N := 37) (l := [.pointer p2, .int .i64 a6, .int .i64 a7, .slice A9 a8.length C10]) Try.func45 rfl rfl (nb rfl) fun a F => ?_; refine sr fun K12 hK12 => qa F fun a F => nil (hK12 _ _ ?_); refine sr fun K13 hK13 => qm F fun a F => ?_; obtain ⟨ob14, e15, H⟩ := bind_some H; have z16 := h3; rw [e15] at z16; obtain ⟨ad17, A19, C20, rfl, hat18, h21⟩ := BG3.some z16; refine qi F fun a F => ?_; refine qf F ff_76_1 fun a F => ?_; refine ql F ag_3 hat18 fun a F => ?_; refine qa F fun a F => nil (hK13 _ _ ?_); refine sr fun K23 hK23 => qm F fun a F => ?_; refine qi F fun a F => ?_; refine qf F ff_76_1 fun a F => ?_; refine ql F ag_3 hat18 fun a F => ?_; refine qv F (r_add F rfl rfl) fun a F => ?_; refine qi F fun a F => ?_; refine qf F ff_76_1 fun a F => ?_; refine q_eff0 F rfl rfl (e_store F rfl rfl sz_3 hat18 (nb rfl) rfl) ?_; rintro w24 a ⟨E25, hat18, Z26⟩ F; replace B := B.size Z26; replace h11 := h11.ev E25 (ne_z bj4.1) (ne_z bj4.1); replace h21 := h21.ev E25 bj5.2.2 (ne_z bj4.1); replace E := E.trans E25 (fun x (q : x = j4) => Or.inl (Or.inl q)); replace hat18 : AT true j4 c0 w24 ad17 [.slice A19 ob14.Row.length C20, .int .i64 (IntKind.i64.wrap (ob14.Next + 1)), .int .i64 ob14.Told.Sent, .int .i64 ob14.Told.Twice, .int .i64 ob14.Told.Delivered, .int .i64 ob14.Told.Dropped, .int .i64 ob14.Told.Lost] := hat18; refine nil (hK23 _ _ ?_); replace F : Fr a 37 [(0, .pointer (some ad17)), (1, .int .i64 a6), (2, .int .i64 a7), (3, .slice A9 a8.length C10), (9, .int .i64 ob14.Next)] := F.sub ⟨rfl, rfl, rfl, rfl, rfl, trivial⟩; refine sq fun K27 hK27 => ?_; refine regD (SB (fun x => x = j5 ∨ x = j4) c0 w24) 16 (.q 0 (.q 1 (.q 2 (.q 3 (.q 5 (.q 6 (.q 7 (.q 8 (.f 4 (.e 9 (.q 10 (.e 11 (.e 12 (.q 13 (.q 14 (.e 15 .nil))))))) 9 (.q 10 (.f 4 (.e 11 (.e 12 (.q 13 (.q 14 (.e 15 .nil))))) 11 (.e 4 (.e 12 (.q 13 (.q 14 (.e 15 .nil)))))))))))))))) Try_hm (by decide +kernel) ?_; intro w30 w1_ w2_ w3_ w4_; have E31 : Ev No c0 w24 c0 w30 := Ev.same w1_ w2_ w3_ w4_; replace B := B.same w1_; have ER : Ev (fun x => x = j5 ∨ x = j4) c0 w24 c0 w30 := Ev.same w1_ w2_ w3_ w4_; replace h11 := h11.ev E31; replace h21 := h21.ev E31; replace hat18 := hat18.ev E31; replace E := E.n E31; refine dm F ER.sb fun a F => ?_; refine dm F ER.sb fun a F => ?_; refine di F ER.sb fun a F => ?_; refine df F ff_76_0 ER.sb fun a F => ?_; refine dm F ER.sb fun a F => ?_; refine dm F ER.sb fun a F => ?_; refine dm F ER.sb fun a F => ?_; refine dm F ER.sb fun a F => ?_; refine d_f ?_ ?_
 ·refine o_val F rfl rfl rfl (by decide) (r_load F rfl ag_34 (AT.cell hat18 rfl)) fun a F => ?_; refine ⟨fun _ => ER.sb, ?_⟩; refine d_e ?_; obtain ⟨t32, q33, H⟩ := bind_some H; refine oc F Try.func52 (haulageref20_copied.calls (m := m + 1) (pl hm0) B h11 (pl hm0) 0 (pl hm0) _ q33) ?_; rintro e w35 ⟨c34, A38, C39, rfl, E36, B, h40⟩; refine rt fun a F => ?_; replace ER := ER.trans E36 nx; replace E := E.n E36; refine ⟨fun _ => ER.sb, ?_⟩; refine d_q F rfl rfl rfl (by decide) (fun wq hS => r_build (v := .agg #[.int .i64 ob14.Next, .int .i64 a6, .int .i64 a7, .slice A38 t32.length C39]) F [(0, .int .i64 ob14.Next), (1, .int .i64 a6), (2, .int .i64 a7), (3, .slice A38 t32.length C39)] (by exact ⟨rfl, rfl, rfl, rfl, rfl, rfl, rfl, rfl, trivial⟩) (fun w => by kernel_rfl)) ER.sb fun a F => ?_; refine d_e ?_; refine o_eff F rfl rfl rfl (by decide) (e_buildSlice (n := 1) (e := 40) (c := c34) (k := K_api_Letter) (i := 0) F [(0, .agg #[.int .i64 ob14.Next, .int .i64 a6, .int .i64 a7, .slice A38 t32.length C39])] [.int .i64 ob14.Next, .int .i64 a6, .int .i64 a7, .slice A38 t32.length C39] ([api_Letter.mk ob14.Next a6 a7 t32] : List api_Letter) (by exact ⟨rfl, rfl, trivial⟩) (fun w => by kernel_rfl) rfl (by decide) rfl ⟨⟨A38, C39, rfl, (SL.fl h40.r (fun q => q))⟩, trivial⟩ (fun q => q) 0) ?_; rintro v w43 a ⟨c42, A44, C45, rfl, E46, h47, B48⟩ F; replace B := B48 _ B (pl hm0); replace ER := ER.trans E46 nx; replace h21 := (h21.ev E36).ev E46; replace hat18 := (hat18.ev E36).ev E46; replace E := E.n E46; refine ⟨fun _ => ER.sb, ?_⟩; refine d_e ?_; replace H := ifN H; obtain ⟨g49, H⟩ := H; refine o_eff F rfl rfl rfl (by decide) (e_append (k := K_api_Letter) (xs := ob14.Row) (ys := [api_Letter.mk ob14.Next a6 a7 t32]) (c := c42) (j := j5) (i := 0) F et_34 rfl rfl h21 h47 g49 (len_ok g49) (ne_z bj5.1)) ?_; rintro v w51 a ⟨c50, A52, C53, rfl, E54, h55, B56⟩ F; replace B := B56 _ B (Nat.lt_add_right _ bj5.2.1); replace ER := ER.trans E54 (fun x q => by replace q : x = j5 := q; show x = j5 ∨ x = j4; omega); replace hat18 := hat18.ev E54 (Ne.symm bj5.2.2); replace E := E.trans E54 (fun x (q : x = j5) => Or.inl (Or.inr (q))); refine ⟨fun _ => ER.sb, ?_⟩; refine di F ER.sb fun a F => ?_; refine df F ff_76_0 ER.sb fun a F => ?_; refine d_e ?_; refine o_eff0 F rfl rfl rfl (e_store F rfl rfl sz_34 hat18 (nb rfl) rfl) ?_; rintro w57 a ⟨E58, hat18, Z59⟩ F; replace ER := ER.trans E58 (fun x q => by replace q : x = j4 := q; show x = j5 ∨ x = j4; omega); replace h55 := h55.ev E58 bj5.2.2 (ne_z bj4.1); replace E := E.trans E58 (fun x (q : x = j4) => Or.inl (Or.inl q)); replace hat18 : AT true j4 c50 w57 ad17 [.slice A52 (ob14.Row ++ [api_Letter.mk ob14.Next a6 a7 t32]).length C53, .int .i64 (IntKind.i64.wrap (ob14.Next + 1)), .int .i64 ob14.Told.Sent, .int .i64 ob14.Told.Twice, .int .i64 ob14.Told.Delivered, .int .i64 ob14.Told.Dropped, .int .i64 ob14.Told.Lost] := hat18; refine ⟨fun _ => ER.sb, ?_⟩; refine d_nil ?_; refine hK27 _ _ ?_; replace F : Fr a 37 [(9, .int .i64 ob14.Next)] := F.sub ⟨rfl, trivial⟩
  refine sr fun K102 hK102 => qm F fun a F => qa F fun a F => nil (hK102 _ _ ?_); refine wp_ret ?_; have h103 : BG3 j4 j5 c50 w57 (some ad17) (some (Bg3.mk (ob14.Row ++ [api_Letter.mk ob14.Next a6 a7 t32]) (IntKind.i64.wrap (ob14.Next + 1)) ob14.Told)) := BG3.mk hat18 h55; obtain rfl := si H; refine out1 F rfl rfl ?_; exact ⟨cf (ct m) c50, rfl, E.lv B0, cfb, BG3.rc h103 cfk cfk cfk⟩
 obtain ⟨t32, q33, H⟩ := bind_some H; refine oc F Try.func52 (haulageref20_copied.calls (m := m + 1) (pl hm0) B h11 (pl hm0) 0 (pl hm0) _ q33) ?_; rintro e w61 ⟨c60, A64, C65, rfl, E62, B, h66⟩; refine rt fun a F => ?_; replace ER := ER.trans E62 nx; replace h21 := h21.ev E62; replace hat18 := hat18.ev E62; replace E := E.n E62; refine ⟨fun _ => ER.sb, ?_⟩; refine d_q F rfl rfl rfl (by decide) (fun wq hS => r_build (v := .agg #[.int .i64 ob14.Next, .int .i64 a6, .int .i64 a7, .slice A64 t32.length C65]) F [(0, .int .i64 ob14.Next), (1, .int .i64 a6), (2, .int .i64 a7), (3, .slice A64 t32.length C65)] (by exact ⟨rfl, rfl, rfl, rfl, rfl, rfl, rfl, rfl, trivial⟩) (fun w => by kernel_rfl)) ER.sb fun a F => ?_; refine d_f ?_ ?_
 ·refine o_val F rfl rfl rfl (by decide) (r_load F rfl ag_34 (AT.cell hat18 rfl)) fun a F => ?_; refine ⟨fun _ => ER.sb, ?_⟩; refine d_e ?_; refine o_eff F rfl rfl rfl (by decide) (e_buildSlice (n := 1) (e := 40) (c := c60) (k := K_api_Letter) (i := 0) F [(0, .agg #[.int .i64 ob14.Next, .int .i64 a6, .int .i64 a7, .slice A64 t32.length C65])] [.int .i64 ob14.Next, .int .i64 a6, .int .i64 a7, .slice A64 t32.length C65] ([api_Letter.mk ob14.Next a6 a7 t32] : List api_Letter) (by exact ⟨rfl, rfl, trivial⟩) (fun w => by kernel_rfl) rfl (by decide) rfl ⟨⟨A64, C65, rfl, (SL.fl h66.r (fun q => q))⟩, trivial⟩ (fun q => q) 0) ?_; rintro v w69 a ⟨c68, A70, C71, rfl, E72, h73, B74⟩ F; replace B := B74 _ B (pl hm0); replace ER := ER.trans E72 nx; replace h21 := h21.ev E72; replace hat18 := hat18.ev E72; replace E := E.n E72; refine ⟨fun _ => ER.sb, ?_⟩; refine d_e ?_; replace H := ifN H; obtain ⟨g49, H⟩ := H; refine o_eff F rfl rfl rfl (by decide) (e_append (k := K_api_Letter) (xs := ob14.Row) (ys := [api_Letter.mk ob14.Next a6 a7 t32]) (c := c68) (j := j5) (i := 0) F et_34 rfl rfl h21 h73 g49 (len_ok g49) (ne_z bj5.1)) ?_; rintro v w76 a ⟨c75, A77, C78, rfl, E79, h80, B81⟩ F; replace B := B81 _ B (Nat.lt_add_right _ bj5.2.1); replace ER := ER.trans E79 (fun x q => by replace q : x = j5 := q; show x = j5 ∨ x = j4; omega); replace hat18 := hat18.ev E79 (Ne.symm bj5.2.2); replace E := E.trans E79 (fun x (q : x = j5) => Or.inl (Or.inr (q))); refine ⟨fun _ => ER.sb, ?_⟩; refine di F ER.sb fun a F => ?_; refine df F ff_76_0 ER.sb fun a F => ?_; refine d_e ?_; refine o_eff0 F rfl rfl rfl (e_store F rfl rfl sz_34 hat18 (nb rfl) rfl) ?_; rintro w82 a ⟨E83, hat18, Z84⟩ F; replace ER := ER.trans E83 (fun x q => by replace q : x = j4 := q; show x = j5 ∨ x = j4; omega); replace h80 := h80.ev E83 bj5.2.2 (ne_z bj4.1); replace E := E.trans E83 (fun x (q : x = j4) => Or.inl (Or.inl q)); replace hat18 : AT true j4 c75 w82 ad17 [.slice A77 (ob14.Row ++ [api_Letter.mk ob14.Next a6 a7 t32]).length C78, .int .i64 (IntKind.i64.wrap (ob14.Next + 1)), .int .i64 ob14.Told.Sent, .int .i64 ob14.Told.Twice, .int .i64 ob14.Told.Delivered, .int .i64 ob14.Told.Dropped, .int .i64 ob14.Told.Lost] := hat18; refine ⟨fun _ => ER.sb, ?_⟩; refine d_nil ?_; refine hK27 _ _ ?_; replace F : Fr a 37 [(9, .int .i64 ob14.Next)] := F.sub ⟨rfl, trivial⟩; refine sr fun K104 hK104 => qm F fun a F => qa F fun a F => nil (hK104 _ _ ?_); refine wp_ret ?_; have h105 : BG3 j4 j5 c75 w82 (some ad17) (some (Bg3.mk (ob14.Row ++ [api_Letter.mk ob14.Next a6 a7 t32]) (IntKind.i64.wrap (ob14.Next + 1)) ob14.Told)) := BG3.mk hat18 h80; obtain rfl := si H; refine out1 F rfl rfl ?_; exact ⟨cf (ct m) c75, rfl, E.lv B0, cfb, BG3.rc h105 cfk cfk cfk⟩
 refine o_eff F rfl rfl rfl (by decide) (e_buildSlice (n := 1) (e := 40) (c := c60) (k := K_api_Letter) (i := 0) F [(0, .agg #[.int .i64 ob14.Next, .int .i64 a6, .int .i64 a7, .slice A64 t32.length C65])] [.int .i64 ob14.Next, .int .i64 a6, .int .i64 a7, .slice A64 t32.length C65] ([api_Letter.mk ob14.Next a6 a7 t32] : List api_Letter) (by exact ⟨rfl, rfl, trivial⟩) (fun w => by kernel_rfl) rfl (by decide) rfl ⟨⟨A64, C65, rfl, (SL.fl h66.r (fun q => q))⟩, trivial⟩ (fun q => q) 0) ?_; rintro v w86 a ⟨c85, A87, C88, rfl, E89, h90, B91⟩ F; replace B := B91 _ B (pl hm0); replace ER := ER.trans E89 nx; replace h21 := h21.ev E89; replace hat18 := hat18.ev E89; replace E := E.n E89; refine ⟨fun _ => ER.sb, ?_⟩; refine d_e ?_; refine o_val F rfl rfl rfl (by decide) (r_load F rfl ag_34 (AT.cell hat18 rfl)) fun a F => ?_; refine ⟨fun _ => ER.sb, ?_⟩; refine d_e ?_; replace H := ifN H; obtain ⟨g49, H⟩ := H; refine o_eff F rfl rfl rfl (by decide) (e_append (k := K_api_Letter) (xs := ob14.Row) (ys := [api_Letter.mk ob14.Next a6 a7 t32]) (c := c85) (j := j5) (i := 0) F et_34 rfl rfl h21 h90 g49 (len_ok g49) (ne_z bj5.1)) ?_; rintro v w93 a ⟨c92, A94, C95, rfl, E96, h97, B98⟩ F; replace B := B98 _ B (Nat.lt_add_right _ bj5.2.1); replace ER := ER.trans E96 (fun x q => by replace q : x = j5 := q; show x = j5 ∨ x = j4; omega); replace hat18 := hat18.ev E96 (Ne.symm bj5.2.2); replace E := E.trans E96 (fun x (q : x = j5) => Or.inl (Or.inr (q))); refine ⟨fun _ => ER.sb, ?_⟩; refine di F ER.sb fun a F => ?_; refine df F ff_76_0 ER.sb fun a F => ?_; refine d_e ?_; refine o_eff0 F rfl rfl rfl (e_store F rfl rfl sz_34 hat18 (nb rfl) rfl) ?_; rintro w99 a ⟨E100, hat18, Z101⟩ F; replace ER := ER.trans E100 (fun x q => by replace q : x = j4 := q; show x = j5 ∨ x = j4; omega); replace h97 := h97.ev E100 bj5.2.2 (ne_z bj4.1); replace E := E.trans E100 (fun x (q : x = j4) => Or.inl (Or.inl q)); replace hat18 : AT true j4 c92 w99 ad17 [.slice A94 (ob14.Row ++ [api_Letter.mk ob14.Next a6 a7 t32]).length C95, .int .i64 (IntKind.i64.wrap (ob14.Next + 1)), .int .i64 ob14.Told.Sent, .int .i64 ob14.Told.Twice, .int .i64 ob14.Told.Delivered, .int .i64 ob14.Told.Dropped, .int .i64 ob14.Told.Lost] := hat18; refine ⟨fun _ => ER.sb, ?_⟩; refine d_nil ?_; refine hK27 _ _ ?_; replace F : Fr a 37 [(9, .int .i64 ob14.Next)] := F.sub ⟨rfl, trivial⟩; refine sr fun K106 hK106 => qm F fun a F => qa F fun a F => nil (hK106 _ _ ?_); refine wp_ret ?_; have h107 : BG3 j4 j5 c92 w99 (some ad17) (some (Bg3.mk (ob14.Row ++ [api_Letter.mk ob14.Next a6 a7 t32]) (IntKind.i64.wrap (ob14.Next + 1)) ob14.Told)) := BG3.mk hat18 h97; obtain rfl := si H; refine out1 F rfl rfl ?_; exact ⟨cf (ct m) c92, rfl, E.lv B0, cfb, BG3.rc h107 cfk cfk cfk⟩
end Go.Proofs.Ytdlokohmdnkdoaa.G