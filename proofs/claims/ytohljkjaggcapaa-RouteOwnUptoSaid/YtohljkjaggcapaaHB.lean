/- A route in the walks' own form; the plain functions that the program's functions compute; the rows' arguments opened. -/
import Derived.Test.YtohljkjaggcapaaHA
import Derived.Test.YtohljkjaggcapaaRm
import Derived.Test.YtohljkjaggcapaaRz
import Derived.KernelRfl
/-! Lists of own lists that share no memory. (Printed by gen_sp.py.) -/
namespace Go.Proofs.Ytohljkjaggcapaa.G
open Go Go.RowKit
set_option linter.unusedVariables false
set_option linter.unusedSimpArgs false
section
variable {P : Program} {w w' : World} {c : Nat → Nat} {j j2 i : Nat} {own own2 : Bool} {A B : Option Addr} {cap cap2 : Nat} {t e ty : TypeId} {bytes : Nat} {z : Value} {α : Type} {k : K α} {xs ys : List α}
theorem run_appendT (T : ET P t e k.sz bytes z) (h1 : SL true k j i c w A cap xs) (h2 : SL own2 k j2 i c w B cap2 ys) (hb : (xs.length + ys.length) * bytes ≤ 140737488355328) (hm : xs.length + ys.length ≤ maxLen) (hij : i ≠ j) :
    ∃ A' cap' w', (Builtin.append_ #[t, t] ty #[.slice A xs.length cap, .slice B ys.length cap2]).run P w = .ok (.slice A' (xs ++ ys).length cap') w' ∧
      ∃ c', Ev (fun x => x = j) c w c' w' ∧ SL true k j i c' w' A' cap' (xs ++ ys) ∧ (∀ m, CB m c w → j < m → CB m c' w') ∧ ((A' = A ∧ cap' = cap) ∨ (Ev No c w c' w' ∧ w'.heap.size = w.heap.size + 1 ∧ ∃ q, A' = some q ∧ q.block = w.heap.size)) := by
  obtain ⟨cs, a1, a2, a3, a4, a5⟩ := h1
  obtain ⟨ds, b1, b2, b3, b4, b5⟩ := h2
  obtain ⟨inf, hi, hz, hs, hby⟩ := T.hi
  subst hby
  have hp := k.pos
  have xl : xs.length * k.sz ≤ cs.length := by rw [a3]; exact Nat.mul_le_mul_right _ a1
  have yl : ys.length * k.sz ≤ ds.length := by rw [b3]; exact Nat.mul_le_mul_right _ b1
  have hlen : (xs ++ ys).length = xs.length + ys.length := by simp
  have reps : ∀ (c' : Nat → Nat) (w' : World) (r : List Value), Ev (fun x => x = j) c w c' w' → ∀ n (h : n < (xs ++ ys).length), k.rep i c' w' (((cs.take (xs.length * k.sz) ++ (ds.take (ys.length * k.sz) ++ r)).drop (n * k.sz)).take k.sz) (xs ++ ys)[n] := by
    intro c' w' r E n hn
    by_cases q : n < xs.length
    · rw [blk_old q xl, List.getElem_append_left q]; exact k.ev (a5 n q) E hij
    · obtain ⟨q', rfl⟩ : ∃ q', n = xs.length + q' := ⟨n - xs.length, by omega⟩
      have hq' : q' < ys.length := by simp at hn; omega
      rw [blk_new (by simp; omega) hq' yl, List.getElem_append_right (by omega)]
      simp only [Nat.add_sub_cancel_left]
      exact k.ev (b5 q' hq') E hij
  have f2 := fun w1 hw => run_first (P := P) (len := ys.length) (n := ys.length) b4 b3 b1 w1 hw
  by_cases room : xs.length + ys.length ≤ cap
  · rcases a4 with a4 | ⟨a, rfl, a4⟩
    · have hc0 : cap = 0 := by
        subst a4
        have h : cap * k.sz = 0 := a3.symm
        rcases Nat.mul_eq_zero.1 h with h | h
        · exact h
        · omega
      have x0 : xs = [] := List.eq_nil_of_length_eq_zero (by omega)
      have y0 : ys = [] := List.eq_nil_of_length_eq_zero (by omega)
      subst x0 y0 hc0
      refine ⟨A, 0, w, ?_, c, Ev.refl, ⟨cs, by simp, by simp, a3, .inl a4, fun n hn => by simp at hn⟩, fun m hm _ => hm, .inl ⟨rfl, rfl⟩⟩
      have f3 := f2 w rfl
      simp at f3
      cases A <;> simp [Builtin.append_, run_underlying T.ht, sizeOf, typeInfo, hi, hs, Builtin.lenOf, f3, storeCells]
    · obtain ⟨w1, hr, E, hat, hsz⟩ := run_lay (P := P) (n := xs.length * k.sz) (us := ds.take (ys.length * k.sz)) a4 (by
          have : (xs.length + ys.length) * k.sz ≤ cap * k.sz := Nat.mul_le_mul_right _ room
          rw [Nat.add_mul] at this
          simp; omega) (fun u hu => by
          obtain ⟨q, hq, rfl⟩ := List.getElem_of_mem hu
          simp at hq
          have hlt : q / k.sz < ys.length := Nat.div_lt_of_lt_mul (by rw [Nat.mul_comm]; omega)
          have hone := k.one (b5 (q / k.sz) hlt)
          apply hone
          rw [List.getElem_take]
          have e1 : ((ds.drop (q / k.sz * k.sz)).take k.sz)[q % k.sz]? = some ds[q] := by
            rw [List.getElem?_take_of_lt (Nat.mod_lt _ hp), List.getElem?_drop, Nat.div_add_mod' q k.sz, List.getElem?_eq_getElem]
          exact List.mem_of_getElem? e1)
      refine ⟨some a, cap, w1, ?_, c, E, ⟨lay cs (xs.length * k.sz) (ds.take (ys.length * k.sz)), by rw [hlen]; exact room, a2, ?_, .inr ⟨a, rfl, hat⟩, fun n hn => ?_⟩, fun m hm _ => hm.size hsz, .inl ⟨rfl, rfl⟩⟩
      · have f3 := f2 w rfl
        simp only [Builtin.append_, Sem.run_bind]
        simp [run_underlying T.ht, sizeOf, typeInfo, hi, hs, Builtin.lenOf, room, f3, hr]
      · rw [lay_length]
        · exact a3
        · have : (xs.length + ys.length) * k.sz ≤ cap * k.sz := Nat.mul_le_mul_right _ room
          rw [Nat.add_mul] at this
          simp; omega
      · have := reps c w1 (cs.drop (xs.length * k.sz + (ds.take (ys.length * k.sz)).length)) E n hn
        unfold lay
        rw [List.append_assoc]; exact this
  · have f1 := fun w1 hw => run_first (P := P) (len := xs.length) (n := xs.length) a4 a3 a1 w1 hw
    have hg : cap < xs.length + ys.length := by omega
    have h63' : ¬ (9223372036854775807 < ((xs.length : Int) + (ys.length : Int))) := by simp only [maxLen] at hm; omega
    have h48' : ¬ (281474976710656 < Builtin.nextslicecap (xs.length + ys.length) cap * inf.bytes) := by have := growslice_fits hg hb; omega
    have g1 := grownCap_ge w (xs.length + ys.length) cap e
    have g2 := grownCap_le_maxLen w (xs.length + ys.length) cap e hm
    have e1 := f1 w.drew rfl
    have e2 := f2 w.drew rfl
    obtain ⟨n1, n2, n3⟩ := alloc_new (M := fun x => x = j) c w.drew ((cs.take (xs.length * k.sz)).toArray ++ (ds.take (ys.length * k.sz)).toArray ++ Builtin.zeroCells z.cells (grownCap w (xs.length + ys.length) cap e - (xs.length + ys.length))) e (0, 0) j true (fun _ k _ => by simp)
    refine ⟨some ⟨w.heap.size, 0, none⟩, grownCap w (xs.length + ys.length) cap e, _, ?_, _, ⟨n1.os, n1.tape, n1.out, n1.size, n1.col, n1.blk⟩, ⟨_, by rw [hlen]; exact g1, g2, ?_, .inr ⟨_, rfl, n2⟩, fun n hn => ?_⟩, fun m hm hj => n3 m (fun k hk => hm k hk) hj, .inr ⟨⟨n1.os, n1.tape, n1.out, n1.size, n1.col, fun k hk _ => (alloc_new (M := No) c w.drew _ e (0, 0) j false (fun q => by cases q)).1.blk k hk (fun q => q)⟩, World.size_alloc .., _, rfl, rfl⟩⟩
    · rw [hlen]
      simp [Builtin.append_, run_underlying T.ht, sizeOf, typeInfo, zeroValue, hi, hz, hs, Builtin.lenOf, room, h63', h48', Question.forced, e1, e2, newRow, grownCap]
      congr 2
      apply Array.ext'
      simp [List.append_assoc]
    · have hzz : (Builtin.zeroCells z.cells (grownCap w (xs.length + ys.length) cap e - (xs.length + ys.length))).size = (grownCap w (xs.length + ys.length) cap e - (xs.length + ys.length)) * k.sz := by rw [← T.hz]; simp [Builtin.zeroCells]
      simp [hzz]
      rw [Nat.min_eq_left xl, Nat.min_eq_left yl, ← Nat.add_mul, ← Nat.add_mul]
      congr 1; omega
    · have := reps _ _ (Builtin.zeroCells z.cells (grownCap w (xs.length + ys.length) cap e - (xs.length + ys.length))).toList (⟨n1.os, n1.tape, n1.out, n1.size, n1.col, n1.blk⟩ : Ev (fun x => x = j) c w _ _) n hn
      simpa [List.append_assoc] using this
end
/-- a value's cell as it lies there -/
def Kval : K Value where
  sz := 1
  pos := by decide
  rep := fun _ _ _ cs v => cs = [v] ∧ v.oneCell' = true
  ev := fun h _ _ => h
  rc := fun h _ => h
  len := fun h => by rw [h.1]; rfl
  one := fun h v hv => by rw [h.1] at hv; simp at hv; subst hv; exact h.2
section
variable {α : Type} {e : KO α} {i : Nat} {c : Nat → Nat} {w : World} {css : List (List Value)} {xs : List α} {hole : Nat → Prop}
theorem GRh.weak {hole' : Nat → Prop} (h : GRh e i c w css xs hole) (hh : ∀ k, hole k → hole' k) : GRh e i c w css xs hole' := by
  obtain ⟨h1, h2, d, h3⟩ := h
  exact ⟨h1, h2, d, fun k a b hk => h3 k a b fun q => hk (hh k q)⟩
theorem GRh.borrow (h : GRh e i c w css xs hole) {n : Nat} (hn : n < xs.length) (hnh : ¬ hole n) (ξ : Nat → Nat) (hξ : ∀ q, q < e.np → ξ q ≠ i ∧ 0 < ξ q) :
    ∃ c', (∀ b, c b ≠ i → c' b = c b) ∧ (∀ b, c' b = c b ∨ (c b = i ∧ ∃ q, q < e.np ∧ c' b = ξ q)) ∧ (∃ h' : n < css.length, e.rep ξ c' w css[n] xs[n]) ∧ GRh e i c' w css xs (fun k => hole k ∨ k = n) := by
  obtain ⟨h1, h2, d, h3⟩ := h
  have hn' : n < css.length := by omega
  let P : Nat → Prop := fun b => c b = i ∧ ∃ q, q < e.np ∧ d b = n * e.np + q
  have hdec : ∀ b, Decidable (P b) := fun b => Classical.propDecidable _
  let c' : Nat → Nat := fun b => @ite _ (P b) (hdec b) (ξ (d b - n * e.np)) (c b)
  have hc : ∀ b q, q < e.np → c b = i → d b = n * e.np + q → c' b = ξ q := fun b q hq hi hd => by
    show @ite _ (P b) (hdec b) _ _ = _
    rw [if_pos (show P b from ⟨hi, q, hq, hd⟩), hd]
    congr 1; omega
  have ho : ∀ b, ¬ P b → c' b = c b := fun b hp => if_neg hp
  refine ⟨c', fun b hb => ho b fun p => hb p.1, fun b => ?_, ⟨hn', e.rc (h3 n hn hn' hnh) (fun q hq b hb => ?_) (fun b hb => ?_)⟩, h1, h2, d, fun k a b hk => e.rc (h3 k a b (fun q => hk (.inl q))) (fun q hq b hb => ?_) (fun b hb => ?_)⟩
  · by_cases p : P b
    · obtain ⟨p1, q, hq, p2⟩ := p
      exact .inr ⟨p1, q, hq, hc b q hq p1 p2⟩
    · exact .inl (ho b p)
  · obtain ⟨e1, e2⟩ := sub_eq hb
    exact hc b q hq e1 e2
  · obtain ⟨e1, e2⟩ := sub_zero hb
    rw [ho b fun p => e2 p.1]; exact e1
  · obtain ⟨e1, e2⟩ := sub_eq hb
    have hnp : ¬ P b := fun ⟨_, q', hq', hd⟩ => hk (.inr (idx_inj hq hq' (by omega)).1)
    exact sub_mk ((ho b hnp).trans e1) e2
  · obtain ⟨e1, e2⟩ := sub_zero hb
    exact sub_zero' ((ho b fun p => e2 p.1).trans e1) h1
theorem GRh.fillH {n : Nat} (h : GRh e i c w css xs (fun k => hole k ∨ k = n)) {ξ : Nat → Nat} {ds : List Value} {y : α} (hy : e.rep ξ c w ds y) (hξ : ∀ q, q < e.np → ξ q ≠ i ∧ 0 < ξ q) (hinj : ∀ q q', q < e.np → q' < e.np → ξ q = ξ q' → q = q') :
    ∃ c', (∀ b, (∀ q, q < e.np → c b ≠ ξ q) → c' b = c b) ∧ (∀ b, c' b = c b ∨ c' b = i) ∧ GRh e i c' w (css.set n ds) (xs.set n y) hole := by
  obtain ⟨h1, h2, d, h3⟩ := h
  let P : Nat → Prop := fun b => ∃ q, q < e.np ∧ c b = ξ q
  have hdec : ∀ b, Decidable (P b) := fun b => Classical.propDecidable _
  let c' : Nat → Nat := fun b => @ite _ (P b) (hdec b) i (c b)
  let d' : Nat → Nat := fun b => @dite _ (P b) (hdec b) (fun p => n * e.np + Classical.choose p) (fun _ => d b)
  have hc : ∀ b, P b → c' b = i := fun b p => if_pos p
  have ho : ∀ b, ¬ P b → c' b = c b := fun b p => if_neg p
  have hd : ∀ b q, q < e.np → c b = ξ q → d' b = n * e.np + q := fun b q hq hb => by
    have p : P b := ⟨q, hq, hb⟩
    show @dite _ (P b) (hdec b) _ _ = _
    rw [dif_pos p]
    have hs := Classical.choose_spec p
    rw [hinj _ _ hs.1 hq (hs.2.symm.trans hb)]
  have hdo : ∀ b, ¬ P b → d' b = d b := fun b p => dif_neg p
  refine ⟨c', fun b hb => ho b fun ⟨q, hq, p⟩ => hb q hq p, fun b => ?_, h1, by simpa using h2, d', fun k a b hnk => ?_⟩
  · by_cases p : P b
    · exact .inr (hc b p)
    · exact .inl (ho b p)
  · rw [List.length_set] at a b
    by_cases hk : k = n
    · subst hk
      simp only [List.getElem_set_self]
      refine e.rc hy (fun q hq b hb => sub_mk (hc b ⟨q, hq, hb⟩) (hd b q hq hb)) (fun b hb => sub_zero' ?_ h1)
      rw [ho b fun ⟨q, hq, p⟩ => by have := (hξ q hq).2; omega]; exact hb
    · rw [List.getElem_set_ne (fun e => hk e.symm), List.getElem_set_ne (fun e => hk e.symm)]
      refine e.rc (h3 k a b fun q => q.elim hnk hk) (fun q hq b hb => ?_) (fun b hb => ?_)
      · obtain ⟨e1, e2⟩ := sub_eq hb
        have hp : ¬ P b := fun ⟨q', hq', p⟩ => (hξ q' hq').1 (p.symm.trans e1)
        exact sub_mk ((ho b hp).trans e1) ((hdo b hp).trans e2)
      · obtain ⟨e1, e2⟩ := sub_zero hb
        have hp : ¬ P b := fun ⟨q', hq', p⟩ => by have := (hξ q' hq').2; omega
        exact sub_zero' ((ho b hp).trans e1) h1
end
section
variable {α : Type} {e : K α} {i i' j j' y y' z X n cap C0 C D : Nat} {c c' : Nat → Nat} {w w' : World} {A A0 B : Option Addr} {xss : List (List α)} {xs ys : List α} {M : Nat → Prop} {hole : Nat → Prop} {Hs : List Value} {own : Bool}
def one1 (v : Value) : List Value := [v]
/-- a list of slices: the first X are of what never turns, the memory of the others is their own, of the colour y -/
def SP (e : K α) (j y : Nat) (c : Nat → Nat) (w : World) (A : Option Addr) (cap : Nat) (xss : List (List α)) (X : Nat) (hole : Nat → Prop := noHole) : Prop :=
  ∃ Hs : List Value, SL true Kval j 0 c w A cap Hs ∧ GRh (KOsl e) y c w (Hs.map one1) xss (fun k => k < X ∨ hole k) ∧ ∀ k (h : k < xss.length), k < X → ∃ B D, Hs[k]? = some (.slice B (xss[k]).length D) ∧ SL false e 0 0 c w B D xss[k]
theorem GRh.hl (h : GRh (KOsl e) y c w (Hs.map one1) xss hole) : Hs.length = xss.length := by have := h.2.1; simpa using this
theorem SP.lenB (h : SP e j y c w A cap xss X hole) : xss.length ≤ maxLen := by
  obtain ⟨Hs, h1, h2, _⟩ := h
  have := h1.lenB; rw [h2.hl] at this; exact this
theorem SP.ev (h : SP e j y c w A cap xss X hole) (E : Ev M c w c' w') (hj : ¬ M j := by first | exact nq | exact ne_zm | exact mm) (hy : ¬ M y := by first | exact nq | exact ne_zm | exact mm) (h0 : ¬ M 0 := by first | exact nq | exact ne_zm | exact mm) : SP e j y c' w' A cap xss X hole := by
  obtain ⟨Hs, h1, h2, h3⟩ := h
  exact ⟨Hs, h1.ev E hj h0, h2.ev E hy h0, fun k a b => by obtain ⟨B, D, g1, g2⟩ := h3 k a b; exact ⟨B, D, g1, g2.ev E h0 h0⟩⟩
theorem SP.rc (h : SP e j y c w A cap xss X hole) (hj : ∀ k, c k = j → c' k = j') (hy : ∀ k, c k = y → c' k = y') (h0 : ∀ k, c k = 0 → c' k = 0) (hp : 0 < y') : SP e j' y' c' w A cap xss X hole := by
  obtain ⟨Hs, h1, h2, h3⟩ := h
  exact ⟨Hs, h1.rc hj h0, h2.rc hy h0 hp, fun k a b => by obtain ⟨B, D, g1, g2⟩ := h3 k a b; exact ⟨B, D, g1, g2.rc h0 h0⟩⟩
theorem SP.nil (hy : 0 < y) : SP e j y c w none 0 [] 0 := ⟨[], SL.nil, (GR.nil hy).weak fun k h => h.elim, fun k h => absurd h (by simp)⟩
theorem SP.mk (h : SL true Kval j 0 c w A cap Hs) (g : GR (KOsl e) y c w (Hs.map one1) xss) : SP e j y c w A cap xss 0 := ⟨Hs, h, GRh.weak g fun k h => h.elim, fun k _ h => absurd h (Nat.not_lt_zero k)⟩
theorem SP.open (h : SP e j y c w A cap xss 0) : ∃ Hs, Hs.length = xss.length ∧ SL true Kval j 0 c w A cap Hs ∧ GR (KOsl e) y c w (Hs.map one1) xss := by
  obtain ⟨Hs, h1, h2, _⟩ := h
  exact ⟨Hs, h2.hl, h1, h2.weak fun k h => h.elim (fun q => absurd q (Nat.not_lt_zero k)) id⟩
theorem GP.push (h : GR (KOsl e) y c w (Hs.map one1) xss) (hs : SL true e z 0 c w B D ys) (hz : z ≠ y ∧ 0 < z) :
    ∃ c', (∀ b, c b ≠ z → c' b = c b) ∧ (∀ b, c' b = c b ∨ c' b = y) ∧ GR (KOsl e) y c' w ((Hs ++ [Value.slice B ys.length D]).map one1) (xss ++ [ys]) := by
  obtain ⟨c', a1, a2, a3⟩ := GR.push (e := KOsl e) h (ξ := fun _ => z) (ds := [Value.slice B ys.length D]) ⟨B, D, rfl, hs⟩ (fun q _ => hz) (fun q q' hq hq' _ => by have : (KOsl e).np = 1 := rfl; omega)
  exact ⟨c', fun b hb => a1 b (fun q _ => hb), a2, by rw [List.map_append]; exact a3⟩
/-- to be looked at -/
theorem SP.view (h : SP e j y c w A cap xss 0) (hf : ∀ {c w cs x}, e.rep 0 c w cs x → e.rep y c w cs x) : SL false (Kslice e) j y c w A cap xss := by
  obtain ⟨Hs, hl, ⟨cs, g1, g2, g3, g4, g5⟩, h2⟩ := h.open
  refine ⟨cs, by omega, g2, g3, g4.imp id (fun ⟨a, q, r⟩ => ⟨a, q, r.r⟩), fun n hn => ?_⟩
  have hn' : n < Hs.length := by omega
  obtain ⟨B, D, q1, q2⟩ := GRh.read h2 hn (by simpa using hn') (fun q => q)
  have h5 := (g5 n hn').1
  refine ⟨B, D, ?_, ?_⟩
  · have e1 : (Kslice e).sz = 1 := rfl
    have e2 : Kval.sz = 1 := rfl
    rw [e1]; rw [e2] at h5
    rw [h5]
    simpa [one1] using q1
  · obtain ⟨cs, a1, a2, a3, a4, a5⟩ := q2.r
    exact ⟨cs, a1, a2, a3, a4, fun n hn => hf (a5 n hn)⟩
/-- its header's cell -/
theorem SP.cell (h : SL own Kval j 0 c w A cap Hs) {k : Nat} (hk : k < Hs.length) : ∃ ad, A = some ad ∧ AT own j c w (ad.add (k * 1)) [Hs[k]] := by
  obtain ⟨cs, g1, g2, g3, g4, g5⟩ := h
  have e2 : Kval.sz = 1 := rfl
  rw [e2, Nat.mul_one] at g3
  rcases g4 with rfl | ⟨ad, rfl, hat⟩
  · simp at g3; omega
  · refine ⟨ad, rfl, ?_⟩
    have := hat.sub (k * 1) 1 (by omega)
    have h5 := (g5 k hk).1
    rw [e2] at h5
    rwa [h5] at this
/-- an element's memory takes a colour of its own -/
theorem SP.lend [Inhabited (List α)] (h : SP e j y c w A cap xss X) (k : Int) (h0 : 0 ≤ k) (h1 : k < xss.length) (hX : X ≤ k.toNat) (hz : z ≠ y ∧ 0 < z) (hjy : j ≠ y) :
    ∃ c', (∀ b, c b ≠ y → c' b = c b) ∧ (∀ b, c' b = c b ∨ c' b = z) ∧ ∃ ad B D, A = some ad ∧ AT true j c' w (ad.add (k.toNat * 1)) [Value.slice B (rd xss k).length D] ∧ SL true e z 0 c' w B D (rd xss k) ∧ SP e j y c' w A cap xss X (fun q => q = k.toNat) := by
  obtain ⟨Hs, g1, g2, g3⟩ := h
  have hk : k.toNat < xss.length := by omega
  have hl := g2.hl
  have hk' : k.toNat < Hs.length := by omega
  have hy := g2.1
  obtain ⟨c', a1, a2, ⟨hq, B, D, a3, a4⟩, a5⟩ := GRh.borrow g2 hk (by rintro (q | q); exact absurd q (by omega); exact q) (fun _ => z) (fun q _ => hz)
  have hj : ∀ b, c b = j → c' b = j := fun b hb => (a1 b (by rw [hb]; exact hjy)).trans hb
  have h00 : ∀ b, c b = 0 → c' b = 0 := fun b hb => (a1 b (by rw [hb]; omega)).trans hb
  obtain ⟨ad, rfl, hat⟩ := SP.cell g1 hk'
  have er : rd xss k = xss[k.toNat] := by unfold rd; rw [List.getD_eq_getElem?_getD, List.getElem?_eq_getElem hk]; rfl
  have eh : Hs[k.toNat] = Value.slice B (xss[k.toNat]).length D := by simpa [one1] using a3
  refine ⟨c', a1, fun b => (a2 b).imp id (fun ⟨_, _, _, q⟩ => q), ad, B, D, rfl, ?_, ?_, Hs, g1.rc hj h00, a5.weak ?_, fun q a b => by obtain ⟨B, D, r1, r2⟩ := g3 q a b; exact ⟨B, D, r1, r2.rc h00 h00⟩⟩
  · rw [er, ← eh]; exact hat.rc hj
  · rw [er]; exact a4
  · rintro q ((r | r) | r)
    · exact .inl r
    · exact r.elim
    · exact .inr r
theorem AT.cell_eq {own' : Bool} {p : Addr} {u v : Value} (h1 : AT own j c w p [u]) (h2 : AT own' j' c' w p [v]) : u = v := by
  have a := h1.cell0 (v := u) rfl
  have b := h2.cell0 (v := v) rfl
  exact Option.some.inj (a.symm.trans b)
/-- given back -/
theorem SP.back [Inhabited (List α)] {k : Int} {ad : Addr} (h : SP e j y c w A cap xss X (fun q => q = k.toNat)) (h0 : 0 ≤ k) (h1 : k < xss.length) (hX : X ≤ k.toNat) (hA : A = some ad) (hat : AT own i c w (ad.add (k.toNat * 1)) [Value.slice B ys.length D]) (hs : SL true e z 0 c w B D ys) (hz : z ≠ y ∧ 0 < z) (hjz : j ≠ z) :
    ∃ c', (∀ b, c b ≠ z → c' b = c b) ∧ (∀ b, c' b = c b ∨ c' b = y) ∧ SP e j y c' w A cap (xss.set k.toNat ys) X := by
  obtain ⟨Hs, g1, g2, g3⟩ := h
  have hl := g2.hl
  have hk : k.toNat < xss.length := by omega
  have hk' : k.toNat < Hs.length := by omega
  obtain ⟨c', a1, a2, a3⟩ := GRh.fillH (hole := fun q => q < X ∨ noHole q) (n := k.toNat) (g2.weak (by rintro q (r | r); exact .inl (.inl r); exact .inr r)) (ξ := fun _ => z) (ds := [Value.slice B ys.length D]) ⟨B, D, rfl, hs⟩ (fun q _ => hz) (fun q q' hq hq' _ => by have : (KOsl e).np = 1 := rfl; omega)
  have a1 : ∀ b, c b ≠ z → c' b = c b := fun b hb => a1 b (fun q _ => hb)
  have hj : ∀ b, c b = j → c' b = j := fun b hb => (a1 b (by rw [hb]; exact hjz)).trans hb
  have h00 : ∀ b, c b = 0 → c' b = 0 := fun b hb => (a1 b (by rw [hb]; omega)).trans hb
  obtain ⟨ad', q1, hat'⟩ := SP.cell g1 hk'
  rw [hA] at q1
  obtain rfl := Option.some.inj q1
  have eh := hat'.cell_eq hat
  have es : (Hs.map one1).set k.toNat [Value.slice B ys.length D] = Hs.map one1 := by
    rw [← eh]
    have : Hs.set k.toNat Hs[k.toNat] = Hs := List.set_getElem_self hk'
    have h2 := congrArg (List.map one1) this
    rw [List.map_set] at h2
    exact h2
  rw [es] at a3
  refine ⟨c', a1, a2, Hs, g1.rc hj h00, a3, fun q a b => ?_⟩
  have a' : q < xss.length := by simpa using a
  obtain ⟨B, D, r1, r2⟩ := g3 q a' b
  have hne : k.toNat ≠ q := by omega
  rw [List.getElem_set_ne hne]
  exact ⟨B, D, r1, r2.rc h00 h00⟩
/-- the element X is taken out: what turns hangs on z; its header is told -/
def SPT (e : K α) (j y : Nat) (c : Nat → Nat) (w : World) (A : Option Addr) (cap : Nat) (xss : List (List α)) (X : Nat) (B : Option Addr) (D : Nat) (xs : List α) : Prop :=
  ∃ Hs : List Value, SL true Kval j 0 c w A cap Hs ∧ GRh (KOsl e) y c w (Hs.map one1) xss (fun k => k < X + 1) ∧ (∀ k (h : k < xss.length), k < X → ∃ B D, Hs[k]? = some (.slice B (xss[k]).length D) ∧ SL false e 0 0 c w B D xss[k]) ∧ Hs[X]? = some (.slice B xs.length D) ∧ xss[X]? = some xs
theorem SPT.ev (h : SPT e j y c w A cap xss X B D xs) (E : Ev M c w c' w') (hj : ¬ M j := by first | exact nq | exact ne_zm | exact mm) (hy : ¬ M y := by first | exact nq | exact ne_zm | exact mm) (h0 : ¬ M 0 := by first | exact nq | exact ne_zm | exact mm) : SPT e j y c' w' A cap xss X B D xs := by
  obtain ⟨Hs, h1, h2, h3, h4⟩ := h
  exact ⟨Hs, h1.ev E hj h0, h2.ev E hy h0, fun k a b => (by obtain ⟨B, D, g1, g2⟩ := h3 k a b; exact ⟨B, D, g1, g2.ev E h0 h0⟩), h4⟩
theorem SPT.rc (h : SPT e j y c w A cap xss X B D xs) (hj : ∀ k, c k = j → c' k = j') (hy : ∀ k, c k = y → c' k = y') (h0 : ∀ k, c k = 0 → c' k = 0) (hp : 0 < y') : SPT e j' y' c' w A cap xss X B D xs := by
  obtain ⟨Hs, h1, h2, h3, h4⟩ := h
  exact ⟨Hs, h1.rc hj h0, h2.rc hy h0 hp, fun k a b => (by obtain ⟨B, D, g1, g2⟩ := h3 k a b; exact ⟨B, D, g1, g2.rc h0 h0⟩), h4⟩
/-- what is gone on with (A, ys), and what it came of (A0, xs), which stays as it is -/
def TW (e : K α) (z : Nat) (c : Nat → Nat) (w : World) (A0 : Option Addr) (C0 : Nat) (xs : List α) (A : Option Addr) (C : Nat) (ys : List α) : Prop :=
  SL true e z 0 c w A C ys ∧ ((A0 = A ∧ C0 = C ∧ xs.length ≤ ys.length ∧ ys.take xs.length = xs) ∨ SL false e 0 0 c w A0 C0 xs)
theorem TW.ev (h : TW e z c w A0 C0 xs A C ys) (E : Ev M c w c' w') (hz : ¬ M z := by first | exact nq | exact ne_zm | exact mm) (h0 : ¬ M 0 := by first | exact nq | exact ne_zm | exact mm) : TW e z c' w' A0 C0 xs A C ys := ⟨h.1.ev E hz h0, h.2.imp id fun q => q.ev E h0 h0⟩
theorem TW.rc (h : TW e z c w A0 C0 xs A C ys) (hz : ∀ k, c k = z → c' k = i') (h0 : ∀ k, c k = 0 → c' k = 0) : TW e i' c' w A0 C0 xs A C ys := ⟨h.1.rc hz h0, h.2.imp id fun q => q.rc h0 h0⟩
theorem SP.take [Inhabited (List α)] (h : SP e j y c w A cap xss X) (k : Int) (h0 : 0 ≤ k) (h1 : k < xss.length) (hX : X = k.toNat) (hz : z ≠ y ∧ 0 < z) (hjy : j ≠ y) :
    ∃ c', (∀ b, c b ≠ y → c' b = c b) ∧ (∀ b, c' b = c b ∨ c' b = z) ∧ ∃ ad B D, A = some ad ∧ AT true j c' w (ad.add (k.toNat * 1)) [Value.slice B (rd xss k).length D] ∧ TW e z c' w B D (rd xss k) B D (rd xss k) ∧ SPT e j y c' w A cap xss X B D (rd xss k) := by
  subst hX
  obtain ⟨c', a1, a2, ad, B, D, a3, a4, a5, Hs, b1, b2, b3⟩ := SP.lend h k h0 h1 (Nat.le_refl _) hz hjy
  have hl := b2.hl
  have hk : k.toNat < xss.length := by omega
  have hk' : k.toNat < Hs.length := by omega
  obtain ⟨ad', q1, hat'⟩ := SP.cell b1 hk'
  rw [a3] at q1
  obtain rfl := Option.some.inj q1
  have eh := hat'.cell_eq a4
  have er : rd xss k = xss[k.toNat] := by unfold rd; rw [List.getD_eq_getElem?_getD, List.getElem?_eq_getElem hk]; rfl
  exact ⟨c', a1, a2, ad, B, D, a3, a4, ⟨a5, .inl ⟨rfl, rfl, Nat.le_refl _, List.take_length⟩⟩, Hs, b1, b2.weak (by rintro q (r | r) <;> omega), b3, by rw [List.getElem?_eq_getElem hk', eh], by rw [List.getElem?_eq_getElem hk, er]⟩
theorem SL.takeL (h : SL own e j i c w A C ys) (hn : n ≤ ys.length) : SL own e j i c w A C (ys.take n) := by
  obtain ⟨cs, a1, a2, a3, a4, a5⟩ := h
  refine ⟨cs, by rw [List.length_take]; omega, a2, a3, a4, fun q hq => ?_⟩
  rw [List.length_take] at hq
  rw [List.getElem_take]
  exact a5 q (by omega)
/-- what was gone on with turns no more -/
theorem TW.fr (h : TW e z c w A0 C0 xs A C ys) (hz : ∀ k, c k = z → c' k = 0) (h0 : ∀ k, c k = 0 → c' k = 0) : SL false e 0 0 c' w A0 C0 xs ∧ SL false e 0 0 c' w A C ys := by
  obtain ⟨h1, h2⟩ := h
  have g := (h1.rc (j' := 0) (i' := 0) hz h0).r
  refine ⟨?_, g⟩
  rcases h2 with ⟨rfl, rfl, h3, h4⟩ | h2
  · rw [← h4]; exact g.takeL h3
  · exact h2.rc h0 h0
theorem SPT.put (h : SPT e j y c w A cap xss X B D xs) (hs : SL false e 0 0 c w B D xs) : SP e j y c w A cap xss (X + 1) := by
  obtain ⟨Hs, h1, h2, h3, h4, h5⟩ := h
  refine ⟨Hs, h1, h2.weak fun k q => .inl q, fun k a b => ?_⟩
  by_cases c : k = X
  · subst c
    rw [List.getElem?_eq_getElem a] at h5
    obtain rfl := Option.some.inj h5
    exact ⟨B, D, h4, hs⟩
  · exact h3 k a (by omega)
/-- all of it turns no more -/
theorem SP.done (h : SP e j y c w A cap xss X) (hX : xss.length ≤ X) : SL true (Kslice e) j 0 c w A cap xss := by
  obtain ⟨Hs, ⟨cs, g1, g2, g3, g4, g5⟩, h2, h3⟩ := h
  have hl := h2.hl
  refine ⟨cs, by omega, g2, g3, g4, fun n hn => ?_⟩
  obtain ⟨B, D, q1, q2⟩ := h3 n hn (by omega)
  have hn' : n < Hs.length := by omega
  have h5 := (g5 n hn').1
  have e1 : (Kslice e).sz = 1 := rfl
  have e2 : Kval.sz = 1 := rfl
  refine ⟨B, D, ?_, q2⟩
  rw [e1]; rw [e2] at h5
  rw [h5]
  rw [List.getElem?_eq_getElem hn'] at q1
  rw [Option.some.inj q1]
theorem SP.cast {X' : Nat} (h : SP e j y c w A cap xss X) (hX : X = X') : SP e j y c w A cap xss X' := hX ▸ h
theorem SP.next {k : Int} (h : SP e j y c w A cap xss (X + 1)) (h0 : 0 ≤ k) (hX : X = k.toNat) (h1 : X < xss.length) : SP e j y c w A cap xss (IntKind.i64.wrap (k + 1)).toNat := by
  have hb := h.lenB
  refine h.cast ?_
  unfold maxLen at hb
  rw [IntKind.wrap_i64]; omega
end
section
variable {P : Program} {a : Act} {N : Nat} {L : List (Nat × Value)} {D : List Deferred} {w w' : World} {x y : Operand} {d : Option Tmp} {t el ty : TypeId} {pos : String} {af : Array Edge} {gd : Option (Nat × Bool)} {c : Nat → Nat} {z j2 : Nat} {own2 : Bool} {A A0 B : Option Addr} {C C0 cap2 bytes : Nat} {zz : Value} {α : Type} {e : K α} {xs ys vs : List α}
/-- an empty slice, just built: nothing fits into it -/
theorem e_build0 {tt ee : TypeId} (F : Fr a N L D) (hb : ∀ w, (Instr.buildSlice tt 0 #[]).run P w = .ok (.slice (some ⟨w.heap.size, 0, none⟩) 0 0) (w.alloc (.cells #[] ee (0, 0)))) (c : Nat → Nat) (j : Nat) :
    ∃ v' w', (execOp a.eval { dst := d, op := .buildSlice tt 0 #[], type := ty, pos := pos, after := af, guard := gd }).run P w = .ok (.value v') w' ∧ ∃ c' A, v' = .slice A 0 0 ∧ Ev No c w c' w' ∧ ∀ m, CB m c w → j < m → CB m c' w' := by
  obtain ⟨h1, h2, h3⟩ := alloc_new (M := No) c w #[] ee (0, 0) j true (fun _ k _ => by simp)
  refine ⟨.slice (some ⟨w.heap.size, 0, none⟩) 0 0, w.alloc (.cells #[] ee (0, 0)), ?_, _, some ⟨w.heap.size, 0, none⟩, rfl, h1, h3⟩
  simp [execOp, hb]
/-- what is appended to it lies anew -/
theorem e_append0 {j : Nat} (F : Fr a N L D) (T : ET P t el e.sz bytes zz) (hx : ev L x = some (.slice A 0 0)) (hy : ev L y = some (.slice B vs.length cap2)) (h2 : SL own2 e j2 0 c w B cap2 vs) (hb : vs.length * bytes ≤ 140737488355328) (hm : vs.length ≤ maxLen) :
    ∃ v w', (execOp a.eval { dst := d, op := .call { callee := .builtin .append, args := #[x, y], argTypes := #[t, t] }, type := ty, pos := pos, after := af, guard := gd }).run P w = .ok (.value v) w' ∧
      ∃ c' A' C', v = .slice A' vs.length C' ∧ Ev No c w c' w' ∧ SL true e j 0 c' w' A' C' vs ∧ ∀ m, CB m c w → j < m → CB m c' w' := by
  rcases Nat.eq_zero_or_pos vs.length with h0 | h0
  · obtain rfl : vs = [] := List.eq_nil_of_length_eq_zero h0
    obtain ⟨ds, b1, b2, b3, b4, b5⟩ := h2
    obtain ⟨inf, hi, hz, hs, hby⟩ := T.hi
    have f3 := run_first (P := P) (len := 0) (n := 0) b4 b3 (Nat.zero_le _) w rfl
    refine ⟨.slice A 0 0, w, ?_, c, A, 0, rfl, Ev.refl, ⟨[], Nat.le_refl _, Nat.zero_le _, by simp, .inl rfl, fun n hn => absurd hn (by simp)⟩, fun m hm _ => hm⟩
    simp at f3
    have : (Builtin.append_ #[t, t] ty #[.slice A 0 0, .slice B 0 cap2]).run P w = .ok (.slice A 0 0) w := by
      cases A <;> simp [Builtin.append_, run_underlying T.ht, sizeOf, typeInfo, hi, hs, Builtin.lenOf, f3, storeCells]
    have hy' : ev L y = some (.slice B 0 cap2) := hy
    simp [execOp, resolve, invoke, builtin, F.ev hx, F.ev hy', this]
  · have h1 : SL true e (j + 1) 0 c w A 0 ([] : List α) := ⟨[], Nat.le_refl _, Nat.zero_le _, by simp, .inl rfl, fun n hn => absurd hn (by simp)⟩
    obtain ⟨A', cap', w1, hr, c1, E, hS, hB, hT⟩ := run_appendT (ty := ty) T h1 h2 (by simpa using hb) (by simpa using hm) (by omega)
    rw [List.nil_append] at hr hS
    rcases hT with ⟨rfl, rfl⟩ | ⟨EN, hsz, q, rfl, hq⟩
    · obtain ⟨cs, a1, _⟩ := hS; omega
    · have hr' : (Builtin.append_ #[t, t] ty #[.slice A 0 0, .slice B vs.length cap2]).run P w = .ok (.slice (some q) vs.length cap') w1 := hr
      obtain ⟨cs, a1, a2, a3, a4, a5⟩ := hS
      refine ⟨_, w1, by simp [execOp, resolve, invoke, builtin, F.ev hx, F.ev hy, hr', Result.andThen], fun b => if b = w.heap.size then j else c1 b, some q, cap', rfl, ⟨EN.os, EN.tape, EN.out, EN.size, fun k hk => ?_, EN.blk⟩, ⟨cs, a1, a2, a3, a4.imp id ?_, fun n hn => ?_⟩, fun m hm hj k hk => ?_⟩
      · show (if k = w.heap.size then j else c1 k) = c k
        rw [if_neg (by omega)]; exact EN.col k hk
      · rintro ⟨ad, e1, b, off, cur, tt, fz, e2, b1, b2, b3, b4⟩
        obtain rfl := Option.some.inj e1
        subst e2
        have hbz : b = w.heap.size := hq
        exact ⟨_, rfl, b, off, cur, tt, fz, rfl, b1, (if_pos hbz : (if b = w.heap.size then j else c1 b) = j), b3, b4⟩
      · refine e.rc (a5 n hn) fun k hk => ?_
        show (if k = w.heap.size then j else c1 k) = 0
        by_cases h : k = w.heap.size
        · rcases a4 with rfl | ⟨ad, e1, b, off, cur, tt, fz, e2, b1, b2, b3, b4⟩
          · have hp := e.pos
            have : cap' * e.sz = 0 := by simpa using a3.symm
            rcases Nat.mul_eq_zero.1 this with q | q <;> omega
          · obtain rfl := Option.some.inj e1
            subst e2
            have hbz : b = w.heap.size := hq
            rw [h, ← hbz, b2] at hk; omega
        · rw [if_neg h]; exact hk
      · show (if k = w.heap.size then j else c1 k) < m
        by_cases h : k = w.heap.size
        · rw [if_pos h]; exact hj
        · rw [if_neg h, EN.col k (by omega)]; exact hm k (by omega)
/-- going on with a list of own lists by another one -/
theorem e_appendS {cap j y0 y2 : Nat} {xss yss : List (List α)} (F : Fr a N L D) (T : ET P t el Kval.sz bytes zz) (hx : ev L x = some (.slice A xss.length cap)) (hy : ev L y = some (.slice B yss.length cap2)) (h1 : SP e j y0 c w A cap xss 0) (h2 : SP e j2 y2 c w B cap2 yss 0) (hb : (xss.length + yss.length) * bytes ≤ 140737488355328) (hm : xss.length + yss.length ≤ maxLen) (hj : 0 < j) (hyj : y0 ≠ j) (hy2j : y2 ≠ j) (hne : y2 ≠ y0) :
    ∃ v w', (execOp a.eval { dst := d, op := .call { callee := .builtin .append, args := #[x, y], argTypes := #[t, t] }, type := ty, pos := pos, after := af, guard := gd }).run P w = .ok (.value v) w' ∧
      ∃ c1 A' C', v = .slice A' (xss ++ yss).length C' ∧ Ev (fun x => x = j) c w c1 w' ∧ (∀ m, CB m c w → j < m → CB m c1 w') ∧ ∃ c2, (∀ b, c1 b ≠ y2 → c2 b = c1 b) ∧ (∀ b, c2 b = c1 b ∨ c2 b = y0) ∧ SP e j y0 c2 w' A' C' (xss ++ yss) 0 := by
  obtain ⟨Hs, l1, g1, g2⟩ := h1.open
  obtain ⟨Hs2, l2, k1, k2⟩ := h2.open
  rw [← l1] at hx hb hm
  rw [← l2] at hy hb hm
  obtain ⟨v, w', hr, c1, A', C', rfl, E, hS, hB⟩ := e_append (d := d) (ty := ty) (pos := pos) (af := af) (gd := gd) F T hx hy g1 k1 hb hm (by omega)
  have hy2 := k2.1
  have n0 : ¬ (0 : Nat) = j := by omega
  have q1 := GRh.ev g2 E hyj n0
  have q2 := GRh.ev k2 E hy2j n0
  have q3 := GR.append q1 q2 hne
  refine ⟨_, w', hr, c1, A', C', by rw [List.length_append, List.length_append, l1, l2], E, hB, fun b => if c1 b = y2 then y0 else c1 b, fun b hb => if_neg hb, fun b => ?_, ?_⟩
  · by_cases h : c1 b = y2
    · exact .inr (if_pos h)
    · exact .inl (if_neg h)
  · rw [← List.map_append] at q3
    refine SP.mk (hS.rc (fun k hk => ?_) (fun k hk => ?_)) q3
    · show (if c1 k = y2 then y0 else c1 k) = j
      rw [if_neg (by rw [hk]; exact fun q => hy2j q.symm)]; exact hk
    · show (if c1 k = y2 then y0 else c1 k) = 0
      rw [if_neg (by omega)]; exact hk
/-- going on with a list: what it came of stays as it is -/
theorem e_appendT (F : Fr a N L D) (T : ET P t el e.sz bytes zz) (hx : ev L x = some (.slice A ys.length C)) (hy : ev L y = some (.slice B vs.length cap2)) (h1 : TW e z c w A0 C0 xs A C ys) (h2 : SL own2 e j2 0 c w B cap2 vs) (hb : (ys.length + vs.length) * bytes ≤ 140737488355328) (hm : ys.length + vs.length ≤ maxLen) (hz : 0 < z) :
    ∃ v w', (execOp a.eval { dst := d, op := .call { callee := .builtin .append, args := #[x, y], argTypes := #[t, t] }, type := ty, pos := pos, after := af, guard := gd }).run P w = .ok (.value v) w' ∧
      ∃ c1 A' C', v = .slice A' (ys ++ vs).length C' ∧ Ev (fun x => x = z) c w c1 w' ∧ (∀ m, CB m c w → z < m → CB m c1 w') ∧ ∃ c2, (∀ b, c1 b ≠ z → c2 b = c1 b) ∧ (∀ b, c2 b = c1 b ∨ c2 b = 0) ∧ TW e z c2 w' A0 C0 xs A' C' (ys ++ vs) := by
  obtain ⟨A', cap', w1, hr, c1, E, hS, hB, hT⟩ := run_appendT (ty := ty) T h1.1 h2 hb hm (by omega)
  refine ⟨_, w1, by simp [execOp, resolve, invoke, builtin, F.ev hx, F.ev hy, hr], c1, A', cap', rfl, E, hB, ?_⟩
  rcases hT with ⟨rfl, rfl⟩ | ⟨EN, hsz, q, rfl, hq⟩
  · refine ⟨c1, fun _ _ => rfl, fun _ => .inl rfl, hS, h1.2.imp (fun ⟨g1, g2, g3, g4⟩ => ⟨g1, g2, by rw [List.length_append]; omega, ?_⟩) fun g => g.ev E (by show ¬ (0 = z); omega) (by show ¬ (0 = z); omega)⟩
    rw [List.take_append_of_le_length g3, g4]
  · let c2 : Nat → Nat := fun b => if b < w.heap.size ∧ c1 b = z then 0 else c1 b
    have ho : ∀ b, c1 b ≠ z → c2 b = c1 b := fun b hb => if_neg fun q => hb q.2
    have h00 : ∀ b, c1 b = 0 → c2 b = 0 := fun b hb => (ho b (by rw [hb]; omega)).trans hb
    refine ⟨c2, ho, fun b => ?_, ?_, .inr ?_⟩
    · by_cases h : b < w.heap.size ∧ c1 b = z
      · exact .inr (if_pos h)
      · exact .inl (if_neg h)
    · obtain ⟨cs, a1, a2, a3, a4, a5⟩ := hS
      refine ⟨cs, a1, a2, a3, a4.imp id ?_, fun n hn => e.rc (a5 n hn) h00⟩
      rintro ⟨ad, e1, b, off, cur, tt, fz, e2, b1, b2, b3, b4⟩
      obtain rfl := Option.some.inj e1
      subst e2
      have hbz : b = w.heap.size := hq
      exact ⟨_, rfl, b, off, cur, tt, fz, rfl, b1, (if_neg fun q => by omega : c2 b = c1 b).trans b2, b3, b4⟩
    · rcases h1.2 with ⟨rfl, rfl, g3, g4⟩ | g
      · rw [← g4]
        refine SL.takeL ?_ g3
        obtain ⟨cs, a1, a2, a3, a4, a5⟩ := h1.1
        refine ⟨cs, a1, a2, a3, a4.imp id ?_, fun n hn => e.rc (e.ev (a5 n hn) EN (fun q => q)) h00⟩
        rintro ⟨ad, rfl, hat⟩
        refine ⟨ad, rfl, ?_⟩
        have hat1 := hat.ev EN (fun q => q)
        obtain ⟨b, off, cur, tt, fz, rfl, b1, b2, b3, b4⟩ := hat
        obtain ⟨b', off', cur', tt', fz', e2, d1, d2, d3, d4⟩ := hat1
        have hbb : b' = b := by injection e2 with e3; exact e3.symm
        have hoo : off' = off := by injection e2 with _ e3; exact e3.symm
        subst hbb hoo
        exact ⟨b', off', cur', tt', fz', rfl, d1, if_pos ⟨lt_of_get b1, d2⟩, d3, fun q => by cases q⟩
      · exact (g.ev EN (fun q => q) (fun q => q)).rc h00 h00
end
end Go.Proofs.Ytohljkjaggcapaa.G
/-! A route in the walks' own form: a pointer of a colour, told by the plain route. -/
namespace Go.Proofs.Ytohljkjaggcapaa.G
open Go Go.RowKit Go.Proofs.YtohljkjaggcapaaW.PrintWords Go.Proofs.YtohljkjaggcapaaW.PrintLast Go.Proofs.Ytohljkjaggcapaa.PJ Go.Proofs.Ytohljkjaggcapaa.JF Go.Proofs.Ytohljkjaggcapaa.JQ Go.Proofs.Ytohljkjaggcapaa.MV Go.Proofs.Ytohljkjaggcapaa.RT
set_option linter.unusedVariables false
set_option linter.unusedSimpArgs false
/-! ### the plain side -/
structure Rou where
  s : RS
  n : Nat
instance : Inhabited RS := ⟨⟨0, 0, 0, 0, 0, fun _ => none, fun _ => []⟩⟩
instance : Inhabited Rou := ⟨⟨default, 0⟩⟩
def route_New.f (a b : Int) : Option (Option Rou × Int) := some (if a < 1 ∨ 8 < a ∨ b < 1 ∨ 64 < b then (none, 2) else (some ⟨RS.new a b, 0⟩, 0))
def route_Route_Where.f (o : Option Rou) (s : Int) : Option Int := match o with
  | none => some (-1)
  | some r => some (r.s.where_ s)
def route_Route_Fine.f (o : Option Rou) (s v : Int) : Option (Bool × Option Rou) := match o with
  | none => some (false, none)
  | some r =>
  if r.s.is s v = true then (if r.n < 4611686018427387904 then some (true, some ⟨r.s.fine s v, r.n + 1⟩) else none) else some (false, some r)
def route_Route_Hint.f (o : Option Rou) (s v : Int) : Option (Bool × Option Rou) := match o with
  | none => some (false, none)
  | some r =>
  if r.s.is s v = true then (if r.s.where_ s = v then some (false, some ⟨r.s.hints1, r.n⟩) else if r.n < 4611686018427387904 then some (true, some ⟨r.s.hint s v, r.n + 1⟩) else none) else some (false, some r)
def route_Route_Trail.f (o : Option Rou) (s : Int) : Option (List Int) := match o with
  | none => some []
  | some r => if -9223372036854775808 ≤ s ∧ s ≤ 9223372036854775807 then some (r.s.tr s) else none
def route_Route_Shard.f (o : Option Rou) (k : List Int) : Option Int := match o with
  | none => some (-1)
  | some r => some (jumpV (fnvV [k]) r.s.shards)
def route_Route_Counts.f (o : Option Rou) : Option (Int × Int × Int) := match o with
  | none => some (0, 0, 0)
  | some r => some (r.s.good, r.s.hints, r.s.moved)
/-- the shards that are believed to be at a server -/
def atV (S : RS) (v : Int) : List Int := (List.map (fun n : Nat => (n : Int)) (List.range S.shards.toNat)).filter fun s => decide (S.where_ s = v)
def route_Route_At.f (o : Option Rou) (v : Int) : Option (List Int) := match o with
  | none => some []
  | some r => some (atV r.s v)
/-! ### between the two ways to tell memory -/
def newc (w : World) (c : Nat → Nat) (j : Nat) : Nat → Nat := fun k => if k < w.heap.size then c k else j
section
variable {M : Nat → Prop} {c c' : Nat → Nat} {w w' : World} {j m : Nat}
theorem ev_below (h : Below w.heap.size w w') (j : Nat) : Ev M c w (newc w c j) w' :=
  ⟨h.os, h.tape, h.output, h.size, fun k hk => if_pos hk, fun k hk _ => h.block k hk⟩
theorem ev_turn {F : Nat → Prop} (h : Turn F w w') (hF : ∀ k, F k → k < w.heap.size → M (c k)) (j : Nat) : Ev M c w (newc w c j) w' :=
  ⟨h.os, h.tape, h.output, h.size, fun k hk => if_pos hk, fun k hk hm => h.block k hk (fun f => hm (hF k f hk))⟩
theorem cb_newc (h : CB m c w) (hj : j < m) : CB m (newc w c j) w' := fun k _ => by
  unfold newc; split
  · exact h k (by assumption)
  · exact hj
theorem sl_of_R {e : TypeId} {base : Nat} {ok : Nat → Prop} {A : Option Addr} {cap : Nat} {xs : List Int} (h : Kd.R (Kd.int .i64) e w base ok (.slice A xs.length cap) xs) (hc : ∀ k, base ≤ k → k < w.heap.size → c k = j) : SL true (Kint .i64) j 0 c w A cap xs := by
  obtain ⟨_, cells, hown, hl, hr⟩ := h
  obtain ⟨h1, h2⟩ := hown
  rcases h2 with ⟨e1, e2⟩ | ⟨g, cap', cur, e1, hg, hb, hn, hm, hs, ht⟩
  · injection e1 with a b d
    subst a; subst d
    have : xs = [] := List.eq_nil_of_length_eq_zero b
    subst this
    exact SL.nil
  · injection e1 with a b d
    subst a; subst d
    refine ⟨cur.toList, hn, hm, by rw [Array.length_toList, hs]; rfl, .inr ⟨_, rfl, g, 0, cur, e, (0, 0), rfl, hb, hc g hg (lt_of_get hb), fun k hk => by rw [Nat.zero_add]; exact Array.getElem?_toList.symm, fun _ k hk => by omega⟩, fun n hn' => ?_⟩
    have ht : cur.toList.take (xs.length * 1) = cells := ht
    have h3 : ((cells.drop (n * 1)).take 1) = [Value.int .i64 xs[n]] := hr n xs[n] (List.getElem?_eq_getElem hn')
    rw [← ht] at h3
    show (cur.toList.drop (n * 1)).take 1 = [Value.int .i64 xs[n]]
    rw [← h3, List.drop_take, List.take_take]
    congr 1
    omega
theorem c_of_sl {q : IntKind} {own : Bool} {i : Nat} {A : Option Addr} {cap : Nat} {xs : List Int} (h : SL own (Kint q) j i c w A cap xs) : Kd.C (Kd.int q) w A xs.length xs := by
  refine Kd.C_of_reads (d := (0 : Int)) (h1 := fun _ => rfl) ⟨rfl, h.lenB, fun hne => ?_⟩
  obtain ⟨a, cs, e0, _, _⟩ := h.at 0 (by omega) (by omega)
  refine ⟨a, e0, fun k hk => ?_⟩
  obtain ⟨a', cs', e1, hat, hrep⟩ := h.at k (by omega) (by omega)
  rw [e0] at e1
  cases e1
  have hrep : cs' = [Value.int q (rd xs k)] := hrep
  subst hrep
  have := hat.cell0 (v := Value.int q (rd xs k)) rfl
  have e2 : (k : Int).toNat * (Kint q).sz = k := by show (k : Int).toNat * 1 = k; omega
  rw [e2] at this
  rw [this]
  unfold rd
  rfl
theorem sl_cap {α : Type} {e : K α} {own : Bool} {i : Nat} {A : Option Addr} {cap : Nat} {xs : List α} (h : SL own e j i c w A cap xs) : xs.length ≤ cap := by
  obtain ⟨cs, h2, _⟩ := h; exact h2
end
/-! ### a route -/
theorem _root_.Go.Proofs.Ytohljkjaggcapaa.RT.Rep.kept {w w' : World} {F : Nat → Prop} {b n : Nat} {S : RS} {m1 m2 : Nat} {T : Int → Option Value} (h : Rep w F b n S m1 m2 T) (hd : ∀ k, F k → k < w.heap.size → w'.heap[k]? = w.heap[k]?) : Rep w' F b n S m1 m2 T := by
  have lt : ∀ {g : Nat} {o : Obj}, w.heap[g]? = some o → g < w.heap.size := fun e => (Array.getElem?_eq_some_iff.1 e).1
  exact ⟨(hd _ h.fb (lt h.blk)).trans h.blk, h.fb, h.f1, h.f2, h.ne, h.vm1.kept (hd _ h.f1 h.vm1.lt), h.vm2.kept (hd _ h.f2 h.vm2.lt), fun k => (h.row k).kept (fun _ q => q) (fun g hg => hd g (h.rowne k g hg).2.2.2.1 (h.rowne k g hg).2.2.2.2), h.apart, h.s0, h.s1, h.h0, h.h1, h.short, h.whwf⟩
theorem _root_.Go.Proofs.Ytohljkjaggcapaa.RT.Rep.wide {w : World} {F F' : Nat → Prop} {b n : Nat} {S : RS} {m1 m2 : Nat} {T : Int → Option Value} (h : Rep w F b n S m1 m2 T) (hF : ∀ k, F k → k < w.heap.size → F' k) : Rep w F' b n S m1 m2 T := by
  have h := h.tight
  exact ⟨h.blk, hF _ h.fb.1 h.fb.2.1, hF _ h.f1.1 h.f1.2.1, hF _ h.f2.1 h.f2.2.1, h.ne, h.vm1, h.vm2, fun k => (h.row k).kept (fun k q => hF k q.1 q.2.1) (fun _ _ => rfl), h.apart, h.s0, h.s1, h.h0, h.h1, h.short, h.whwf⟩
def RU (j : Nat) (c : Nat → Nat) (w : World) (p : Option Addr) (o : Option Rou) : Prop := match o with
  | none => p = none
  | some r => ∃ b m1 m2 T, p = some ⟨b, 0, none⟩ ∧ Rep w (fun k => c k = j) b r.n r.s m1 m2 T ∧ ∀ k v, r.s.wh k = some v → 0 ≤ k ∧ k < r.s.shards
section
variable {M : Nat → Prop} {j j' : Nat} {c c' : Nat → Nat} {w w' : World} {p : Option Addr} {o : Option Rou}
theorem RU.nil : RU j c w none none := rfl
theorem RU.isNone (h : RU j c w p o) : p.isNone = o.isNone := by
  cases o with
  | none => have h : p = none := h; rw [h]; rfl
  | some r => obtain ⟨b, m1, m2, T, e, _⟩ := h; rw [e]; rfl
theorem RU.ev (h : RU j c w p o) (E : Ev M c w c' w') (hj : ¬ M j := by first | exact nq | exact ne_zm | exact mm) (h0 : ¬ M 0 := by first | exact nq | exact ne_zm | exact mm) : RU j c' w' p o := by
  cases o with
  | none => exact h
  | some r =>
    obtain ⟨b, m1, m2, T, e, R, hk⟩ := h
    have R' := R.wide (F' := fun k => c k = j ∧ k < w.heap.size) (fun k q l => ⟨q, l⟩)
    refine ⟨b, m1, m2, T, e, (R'.kept (w' := w') fun k q l => E.blk k l (by rw [q.1]; exact hj)).wide fun k q _ => by rw [E.col k q.2]; exact q.1, hk⟩
theorem RU.rc (h : RU j c w p o) (hr : ∀ k, c k = j → c' k = j') (h0 : ∀ k, c k = 0 → c' k = 0) : RU j' c' w p o := by
  cases o with
  | none => exact h
  | some r =>
    obtain ⟨b, m1, m2, T, e, R, hk⟩ := h
    exact ⟨b, m1, m2, T, e, R.wide fun k q _ => hr k q, hk⟩
end
theorem fits_wf {s : Int} (h : -9223372036854775808 ≤ s ∧ s ≤ 9223372036854775807) : (Lit.int .i64 s).wf = true := by
  show (decide (-9223372036854775808 ≤ s) && decide (s ≤ 9223372036854775807)) = true
  simp [h.1, h.2]
theorem wf_of_is {S : RS} {s v : Int} (h : S.is s v = true) (h1 : S.shards ≤ 64) : (Lit.int .i64 s).wf = true := by
  obtain ⟨i0, i1, _⟩ := is_of h
  exact fits_wf (by omega)
section
variable {m : Nat} {c0 : Nat → Nat} {w0 : World} {j4 : Nat} {p2 : Option Addr} {a1 : Option Rou} {a5 a6 : Int}
theorem route_New.calls (hm0 : 0 < m) (B0 : CB m c0 w0) (jr : Nat) (bjr : jr < m) (r : Option Rou × Int) (H : route_New.f a5 a6 = some r) :
    Calls Try.prog 10 #[.int .i64 a5, .int .i64 a6] w0 (fun e w_ => ∃ (c_ : Nat → Nat) (P0_ : Option Addr), e = .returned (.tuple #[.pointer P0_, .int .i64 r.2]) ∧ Ev (fun x => False) c0 w0 c_ w_ ∧ CB m c_ w_ ∧ RU jr c_ w_ P0_ r.1) := by
  have H := Option.some.inj H
  subst H
  by_cases c : a5 < 1 ∨ 8 < a5 ∨ a6 < 1 ∨ 64 < a6
  · rw [if_pos c]
    refine (new_bad a5 a6 c w0).mono ?_
    rintro e w' ⟨rfl, hd⟩
    exact ⟨newc w0 c0 jr, none, rfl, ev_below hd.below jr, cb_newc B0 bjr, rfl⟩
  · rw [if_neg c]
    refine (new_good a5 a6 (by omega) (by omega) (by omega) (by omega) w0).mono ?_
    rintro e w' ⟨b, m1, m2, rfl, R, hb⟩
    exact ⟨newc w0 c0 jr, some ⟨b, 0, none⟩, rfl, ev_below hb jr, cb_newc B0 bjr, b, m1, m2, _, rfl, R.wide (fun k q _ => if_neg (by have q : w0.heap.size ≤ k := q; omega)), fun k v h => by cases h⟩
theorem where_any {w : World} {F : Nat → Prop} {b n : Nat} {S : RS} {m1 m2 : Nat} {T : Int → Option Value} (h : Rep w F b n S m1 m2 T) (s : Int) :
    Calls Try.prog 14 #[.pointer (some ⟨b, 0, none⟩), .int .i64 s] w fun e w' => e = .returned (.int .i64 (S.where_ s)) ∧ Below w.heap.size w w' := by
  by_cases c : S.is s 0 = true
  · exact where_calls h s (wf_of_is c h.h1)
  · have H := Lib.hid h
    unfold RS.where_
    rw [if_neg c]
    have c' : S.is s 0 = false := by simpa using c
    clear h
    go_enter Try.func14, Try.ntmps14
    go_wp2_with (go_at_call 23; refine (is_calls H.out s 0).mono ?_; rintro e w1 ⟨rfl, k1, rfl⟩; rw [c'])
    go_ret
    exact ⟨rfl, by repeat (first | exact Below.refl _ _ | apply below_drew1 | exact Drawn0.below ⟨_, rfl⟩)⟩
theorem route_Route_Where.calls (hm0 : 0 < m) (B0 : CB m c0 w0) (h3 : RU j4 c0 w0 p2 a1) (bj4 : j4 < m) (r : Int) (H : route_Route_Where.f a1 a5 = some r) :
    Calls Try.prog 14 #[.pointer p2, .int .i64 a5] w0 (fun e w_ => ∃ (c_ : Nat → Nat), e = .returned (.int .i64 r) ∧ Ev (fun x => False) c0 w0 c_ w_ ∧ CB m c_ w_) := by
  rcases a1 with _ | q
  · have h3 : p2 = none := h3
    subst h3
    have H := Option.some.inj H
    subst H
    refine (where_nil a5 w0).mono ?_
    rintro e w' ⟨rfl, hb⟩
    exact ⟨newc w0 c0 0, rfl, ev_below hb 0, cb_newc B0 hm0⟩
  dsimp only [route_Route_Where.f] at H
  have H := Option.some.inj H
  subst H
  obtain ⟨b, m1, m2, T, rfl, R, hk⟩ := h3
  refine (where_any R a5).mono ?_
  rintro e w' ⟨rfl, hb⟩
  exact ⟨newc w0 c0 0, rfl, ev_below hb 0, cb_newc B0 hm0⟩
theorem route_Route_Shard.calls {A7 : Option Addr} {C8 j9 : Nat} {k1 : List Int} (hm0 : 0 < m) (B0 : CB m c0 w0) (h3 : RU j4 c0 w0 p2 a1) (h4 : SL false (Kint .u8) j9 0 c0 w0 A7 C8 k1) (bj4 : j4 < m) (bj9 : j9 < m) (r : Int) (H : route_Route_Shard.f a1 k1 = some r) :
    Calls Try.prog 17 #[.pointer p2, .slice A7 k1.length C8] w0 (fun e w_ => ∃ (c_ : Nat → Nat), e = .returned (.int .i64 r) ∧ Ev (fun x => False) c0 w0 c_ w_ ∧ CB m c_ w_) := by
  rcases a1 with _ | q
  · have h3 : p2 = none := h3
    subst h3
    have H := Option.some.inj H
    subst H
    refine (shard_nil A7 k1.length C8 w0).mono ?_
    rintro e w' ⟨rfl, hd⟩
    exact ⟨newc w0 c0 0, rfl, ev_below hd.below 0, cb_newc B0 hm0⟩
  dsimp only [route_Route_Shard.f] at H
  have H := Option.some.inj H
  subst H
  obtain ⟨b, m1, m2, T, rfl, R, hk⟩ := h3
  refine (shard_calls R A7 C8 k1 (c_of_sl h4) (sl_cap h4) (by have := h4.lenB; unfold maxLen at this; omega)).mono ?_
  rintro e w' ⟨rfl, hb⟩
  exact ⟨newc w0 c0 0, rfl, ev_below hb 0, cb_newc B0 hm0⟩
theorem route_Route_Trail.calls (hm0 : 0 < m) (B0 : CB m c0 w0) (h3 : RU j4 c0 w0 p2 a1) (bj4 : j4 < m) (jr : Nat) (bjr : jr < m) (r : List Int) (H : route_Route_Trail.f a1 a5 = some r) :
    Calls Try.prog 16 #[.pointer p2, .int .i64 a5] w0 (fun e w_ => ∃ (c_ : Nat → Nat) (A0_ : Option Addr) (C0_ : Nat), e = .returned (.slice A0_ r.length C0_) ∧ Ev (fun x => False) c0 w0 c_ w_ ∧ CB m c_ w_ ∧ SL true (Kint .i64) jr 0 c_ w_ A0_ C0_ r) := by
  rcases a1 with _ | q
  · have h3 : p2 = none := h3
    subst h3
    have H := Option.some.inj H
    subst H
    refine (trail_nil a5 w0).mono ?_
    rintro e w' ⟨rfl, hd⟩
    exact ⟨newc w0 c0 jr, none, 0, rfl, ev_below hd.below jr, cb_newc B0 bjr, SL.nil⟩
  dsimp only [route_Route_Trail.f] at H
  obtain ⟨g, H⟩ := ifN H
  have H := Option.some.inj H
  subst H
  obtain ⟨b, m1, m2, T, rfl, R, hk⟩ := h3
  refine (trail_calls R a5 (fits_wf ⟨g.1, g.2⟩)).mono ?_
  rintro e w' ⟨A', c', rfl, hR, hb⟩
  exact ⟨newc w0 c0 jr, A', c', rfl, ev_below hb jr, cb_newc B0 bjr, sl_of_R hR (fun k hk _ => if_neg (by omega))⟩
theorem route_Route_Fine.calls (hm0 : 0 < m) (B0 : CB m c0 w0) (h3 : RU j4 c0 w0 p2 a1) (bj4 : 0 < j4 ∧ j4 < m) (r : Bool × Option Rou) (H : route_Route_Fine.f a1 a5 a6 = some r) :
    Calls Try.prog 12 #[.pointer p2, .int .i64 a5, .int .i64 a6] w0 (fun e w_ => ∃ (c_ : Nat → Nat), e = .returned (.bool r.1) ∧ Ev (fun x => (x = j4)) c0 w0 c_ w_ ∧ CB m c_ w_ ∧ RU j4 c_ w_ p2 r.2) := by
  rcases a1 with _ | q
  · have h3 : p2 = none := h3
    subst h3
    have H := Option.some.inj H
    subst H
    refine (fine_nil a5 a6 w0).mono ?_
    rintro e w' ⟨rfl, hd⟩
    exact ⟨newc w0 c0 j4, rfl, ev_below hd.below j4, cb_newc B0 bj4.2, rfl⟩
  dsimp only [route_Route_Fine.f] at H
  have h3' := h3
  obtain ⟨b, m1, m2, T, rfl, R, hk⟩ := h3
  by_cases c : q.s.is a5 a6 = true
  · rw [if_pos c] at H
    obtain ⟨g, H⟩ := ifN H
    have H := Option.some.inj H
    subst H
    refine (fine_yes R a5 a6 (wf_of_is c R.h1) c g).mono ?_
    rintro e w' ⟨rfl, R', t⟩
    refine ⟨newc w0 c0 j4, rfl, ev_turn t (fun k q _ => q) j4, cb_newc B0 bj4.2, b, m1, m2, _, rfl, R'.wide (fun k q l => by unfold newc; split; exact q; rfl), fun k v hv => ?_⟩
    unfold RS.fine at hv ⊢
    simp only at hv ⊢
    split at hv
    · obtain ⟨i0, i1, _⟩ := is_of c; subst k; exact ⟨i0, i1⟩
    · exact hk k v hv
  · rw [if_neg c] at H
    have H := Option.some.inj H
    subst H
    refine (fine_no R a5 a6 (by simpa using c)).mono ?_
    rintro e w' ⟨rfl, hd⟩
    have E : Ev No c0 w0 (newc w0 c0 j4) w' := ev_below hd.below j4
    exact ⟨newc w0 c0 j4, rfl, E.mono (fun _ q => q.elim), cb_newc B0 bj4.2, h3'.ev E (fun q => q) (fun q => q)⟩
theorem route_Route_Hint.calls (hm0 : 0 < m) (B0 : CB m c0 w0) (h3 : RU j4 c0 w0 p2 a1) (bj4 : 0 < j4 ∧ j4 < m) (r : Bool × Option Rou) (H : route_Route_Hint.f a1 a5 a6 = some r) :
    Calls Try.prog 13 #[.pointer p2, .int .i64 a5, .int .i64 a6] w0 (fun e w_ => ∃ (c_ : Nat → Nat), e = .returned (.bool r.1) ∧ Ev (fun x => (x = j4)) c0 w0 c_ w_ ∧ CB m c_ w_ ∧ RU j4 c_ w_ p2 r.2) := by
  rcases a1 with _ | q
  · have h3 : p2 = none := h3
    subst h3
    have H := Option.some.inj H
    subst H
    refine (hint_nil a5 a6 w0).mono ?_
    rintro e w' ⟨rfl, hd⟩
    exact ⟨newc w0 c0 j4, rfl, ev_below hd.below j4, cb_newc B0 bj4.2, rfl⟩
  dsimp only [route_Route_Hint.f] at H
  have h3' := h3
  obtain ⟨b, m1, m2, T, rfl, R, hk⟩ := h3
  by_cases c : q.s.is a5 a6 = true
  · rw [if_pos c] at H
    by_cases cv : q.s.where_ a5 = a6
    · rw [if_pos cv] at H
      have H := Option.some.inj H
      subst H
      refine (hint_same R a5 a6 (wf_of_is c R.h1) c cv).mono ?_
      rintro e w' ⟨rfl, R', t⟩
      exact ⟨newc w0 c0 j4, rfl, ev_turn t (fun k q _ => q) j4, cb_newc B0 bj4.2, b, m1, m2, _, rfl, R'.wide (fun k q l => by unfold newc; split; exact q; rfl), hk⟩
    · rw [if_neg cv] at H
      obtain ⟨g, H⟩ := ifN H
      have H := Option.some.inj H
      subst H
      refine (hint_yes R a5 a6 (wf_of_is c R.h1) c cv g).mono ?_
      rintro e w' ⟨rfl, ⟨T', R'⟩, t⟩
      refine ⟨newc w0 c0 j4, rfl, ev_turn t (fun k q _ => q) j4, cb_newc B0 bj4.2, b, m1, m2, T', rfl, R'.wide (fun k q l => by unfold newc; split; exact q.elim id (fun q => by omega); rfl), fun k v hv => ?_⟩
      unfold RS.hint at hv ⊢
      simp only at hv ⊢
      split at hv
      · obtain ⟨i0, i1, _⟩ := is_of c; subst k; exact ⟨i0, i1⟩
      · exact hk k v hv
  · rw [if_neg c] at H
    have H := Option.some.inj H
    subst H
    refine (hint_no R a5 a6 (by simpa using c)).mono ?_
    rintro e w' ⟨rfl, hd⟩
    have E : Ev No c0 w0 (newc w0 c0 j4) w' := ev_below hd.below j4
    exact ⟨newc w0 c0 j4, rfl, E.mono (fun _ q => q.elim), cb_newc B0 bj4.2, h3'.ev E (fun q => q) (fun q => q)⟩
end
end Go.Proofs.Ytohljkjaggcapaa.G
namespace Go.Proofs.Ytohljkjaggcapaa.G
open Go
set_option linter.unusedVariables false
set_option linter.unusedSimpArgs false
structure haulagelaw23_Op where
  Who : Int
  Kind : Int
  Shard : Int
  Server : Int
  Key : List Int
deriving Inhabited, DecidableEq
/-! haulage/haulagelaw23.num -/
def haulagelaw23_num.f (a1 : Int) : Option Int := some a1
/-! haulage/haulagelaw23.ints -/
def haulagelaw23_ints.j2 : Option Bool := some true
def haulagelaw23_ints.b1 (a1 : List Int) (a6 : List Int) (i18 : Int) : Option (Ctl Int (Sum Unit Bool)) := if i18 < (a1.length : Int) then (if 0 ≤ i18 ∧ i18 < (a1.length : Int) then (if 0 ≤ i18 ∧ i18 < (a6.length : Int) then (if (rd a1 i18) = (rd a6 i18) then (some (.next (IntKind.i64.wrap (i18 + 1)))) else (some (.done (.inr false)))) else none) else none) else (some (.done (.inl ())))
def haulagelaw23_ints.f (k : Nat) (a1 : List Int) (a6 : List Int) : Option Bool := if (a1.length : Int) = (a6.length : Int) then ((loop (fun (s_ : Int) => haulagelaw23_ints.b1 a1 a6 s_) k 0).bind fun x_ => match x_ with | .inl y_ => haulagelaw23_ints.j2 | .inr q_ => some q_) else (some false)
/-! haulage/haulagelaw23.known -/
def haulagelaw23_known.j1 (k : Nat) (t3 : (Option Rou) × Int) (b22 : Bool) : Option Bool := if b22 = true then (some false) else ((route_Route_Fine.f t3.1 0 2).bind fun t29 => (route_Route_Hint.f t29.2 0 2).bind fun t38 => (route_Route_Hint.f t38.2 0 1).bind fun t47 => if t29.1 = true then (if t38.1 = true then (some false) else (if t47.1 = true then ((route_Route_Where.f t47.2 0).bind fun t59 => if t59 = 1 then ((route_Route_Trail.f t47.2 0).bind fun t67 => (haulagelaw23_ints.f k t67 [2]).bind fun t84 => some t84) else (some false)) else (some false))) else (some false))
def haulagelaw23_known.f (k : Nat) : Option Bool := (route_New.f 3 2).bind fun t3 => (haulagelaw23_num.f t3.2).bind fun t14 => if t14 = 0 then (haulagelaw23_known.j1 k t3 (Option.isNone t3.1)) else (haulagelaw23_known.j1 k t3 true)
/-! haulage/haulagelaw23.RouteHomes -/
def haulagelaw23_RouteHomes.j2 (i52 : Int) (b102 : Bool) : Option (Ctl Int (Sum Unit Bool)) := if b102 = true then (some (.done (.inr false))) else (some (.next (IntKind.i64.wrap (i52 + 1))))
def haulagelaw23_RouteHomes.j1 (a1 : Int) (t20 : (Option Rou) × Int) (t41 : (Option Rou) × Int) (i52 : Int) (b73 : Bool) : Option (Ctl Int (Sum Unit Bool)) := if b73 = true then ((route_Route_Where.f t41.1 i52).bind fun t80 => (route_Route_Where.f t20.1 i52).bind fun t87 => if t80 = t87 then (haulagelaw23_RouteHomes.j2 i52 false) else ((route_Route_Where.f t41.1 i52).bind fun t95 => haulagelaw23_RouteHomes.j2 i52 (!decide (t95 = a1)))) else (some (.done (.inl ())))
def haulagelaw23_RouteHomes.j5 (t20 : (Option Rou) × Int) (t113 : (Option Rou) × Int) (i124 : Int) (b145 : Bool) : Option (Ctl Int (Sum Unit Bool)) := if b145 = true then ((route_Route_Where.f t113.1 i124).bind fun t152 => (route_Route_Where.f t20.1 i124).bind fun t159 => if t152 = t159 then (some (.next (IntKind.i64.wrap (i124 + 1)))) else (some (.done (.inr false)))) else (some (.done (.inl ())))
def haulagelaw23_RouteHomes.b6 (a2 : Int) (t20 : (Option Rou) × Int) (t113 : (Option Rou) × Int) (i124 : Int) : Option (Ctl Int (Sum Unit Bool)) := if i124 < a2 then ((haulagelaw23_num.f t113.2).bind fun t138 => haulagelaw23_RouteHomes.j5 t20 t113 i124 (decide (t138 = 0))) else (haulagelaw23_RouteHomes.j5 t20 t113 i124 false)
def haulagelaw23_RouteHomes.j9 (i174 : Int) (b259 : Bool) : Option (Ctl Int (Sum Unit Bool)) := if b259 = true then (some (.done (.inr false))) else (some (.next (IntKind.i64.wrap (i174 + 1))))
def haulagelaw23_RouteHomes.j8 (a2 : Int) (a3 : List (List Int)) (t20 : (Option Rou) × Int) (t113 : (Option Rou) × Int) (i174 : Int) (b195 : Bool) : Option (Ctl Int (Sum Unit Bool)) := if b195 = true then (if 0 ≤ i174 ∧ i174 < (a3.length : Int) then (if 0 ≤ i174 ∧ i174 < (a3.length : Int) then ((route_Route_Shard.f t113.1 (rd a3 i174)).bind fun t226 => (route_Route_Shard.f t20.1 (rd a3 i174)).bind fun t233 => if t226 = t233 then (haulagelaw23_RouteHomes.j9 i174 false) else (if 0 ≤ i174 ∧ i174 < (a3.length : Int) then ((route_Route_Shard.f t113.1 (rd a3 i174)).bind fun t252 => haulagelaw23_RouteHomes.j9 i174 (!decide (t252 = a2))) else none)) else none) else none) else (some (.done (.inl ())))
def haulagelaw23_RouteHomes.b10 (a2 : Int) (a3 : List (List Int)) (t20 : (Option Rou) × Int) (t113 : (Option Rou) × Int) (i174 : Int) : Option (Ctl Int (Sum Unit Bool)) := if i174 < (a3.length : Int) then ((haulagelaw23_num.f t113.2).bind fun t188 => haulagelaw23_RouteHomes.j8 a2 a3 t20 t113 i174 (decide (t188 = 0))) else (haulagelaw23_RouteHomes.j8 a2 a3 t20 t113 i174 false)
def haulagelaw23_RouteHomes.j11 (a1 : Int) (a2 : Int) (t41 : (Option Rou) × Int) (t113 : (Option Rou) × Int) : Option Bool := (haulagelaw23_num.f t41.2).bind fun t270 => if ((decide (t270 = 0)) == (decide (a1 < 8))) = true then ((haulagelaw23_num.f t113.2).bind fun t278 => some ((decide (t278 = 0)) == (decide (a2 < 64)))) else (some false)
def haulagelaw23_RouteHomes.j7 (k : Nat) (a1 : Int) (a2 : Int) (a3 : List (List Int)) (t20 : (Option Rou) × Int) (t41 : (Option Rou) × Int) (t113 : (Option Rou) × Int) : Option Bool := (loop (fun (s_ : Int) => haulagelaw23_RouteHomes.b10 a2 a3 t20 t113 s_) k 0).bind fun x_ => match x_ with | .inl y_ => haulagelaw23_RouteHomes.j11 a1 a2 t41 t113 | .inr q_ => some q_
def haulagelaw23_RouteHomes.j4 (k : Nat) (a1 : Int) (a2 : Int) (a3 : List (List Int)) (t20 : (Option Rou) × Int) (t41 : (Option Rou) × Int) : Option Bool := (route_New.f a1 (IntKind.i64.wrap (a2 + 1))).bind fun t113 => (loop (fun (s_ : Int) => haulagelaw23_RouteHomes.b6 a2 t20 t113 s_) k 0).bind fun x_ => match x_ with | .inl y_ => haulagelaw23_RouteHomes.j7 k a1 a2 a3 t20 t41 t113 | .inr q_ => some q_
def haulagelaw23_RouteHomes.b3 (a1 : Int) (a2 : Int) (t20 : (Option Rou) × Int) (t41 : (Option Rou) × Int) (i52 : Int) : Option (Ctl Int (Sum Unit Bool)) := if i52 < a2 then ((haulagelaw23_num.f t41.2).bind fun t66 => haulagelaw23_RouteHomes.j1 a1 t20 t41 i52 (decide (t66 = 0))) else (haulagelaw23_RouteHomes.j1 a1 t20 t41 i52 false)
def haulagelaw23_RouteHomes.f (k : Nat) (a1 : Int) (a2 : Int) (a3 : List (List Int)) : Option Bool := (haulagelaw23_known.f k).bind fun t10 => if t10 = true then ((route_New.f a1 a2).bind fun t20 => (haulagelaw23_num.f t20.2).bind fun t31 => if t31 = 0 then ((route_New.f (IntKind.i64.wrap (a1 + 1)) a2).bind fun t41 => (loop (fun (s_ : Int) => haulagelaw23_RouteHomes.b3 a1 a2 t20 t41 s_) k 0).bind fun x_ => match x_ with | .inl y_ => haulagelaw23_RouteHomes.j4 k a1 a2 a3 t20 t41 | .inr q_ => some q_) else (some (Option.isNone t20.1))) else (some false)
/-! haulage/haulagelaw23.RouteBooks -/
def haulagelaw23_RouteBooks.j8 (a3 : List haulagelaw23_Op) (a11 : Int) (b186 : Bool) (i188 : Int) (o267 : Option Rou) (i268 : Int) (b269 : Bool) (b291 : Bool) : Option (Ctl ((Option Rou) × Bool × Int × Int) (Sum ((Option Rou) × Bool × Int) Bool)) := if b291 = true then (some (.done (.inr false))) else (if b186 = true then (some (.next (o267, true, i268, IntKind.i64.wrap (i188 + 1)))) else (if b269 = true then (some (.next (o267, decide (((rd a3 i188).Shard) = a11), i268, IntKind.i64.wrap (i188 + 1)))) else (some (.next (o267, false, i268, IntKind.i64.wrap (i188 + 1))))))
def haulagelaw23_RouteBooks.j7 (a1 : Int) (a3 : List haulagelaw23_Op) (a11 : Int) (t97 : Int) (b186 : Bool) (i188 : Int) (o267 : Option Rou) (i268 : Int) (b269 : Bool) : Option (Ctl ((Option Rou) × Bool × Int × Int) (Sum ((Option Rou) × Bool × Int) Bool)) := if b269 = true then ((route_Route_Where.f o267 ((rd a3 i188).Shard)).bind fun t158 => if t158 = ((rd a3 i188).Server) then (if ((rd a3 i188).Server) < 0 then (haulagelaw23_RouteBooks.j8 a3 a11 b186 i188 o267 i268 b269 true) else (if a1 ≤ ((rd a3 i188).Server) then (haulagelaw23_RouteBooks.j8 a3 a11 b186 i188 o267 i268 b269 true) else (haulagelaw23_RouteBooks.j8 a3 a11 b186 i188 o267 i268 b269 false))) else (haulagelaw23_RouteBooks.j8 a3 a11 b186 i188 o267 i268 b269 true)) else ((route_Route_Where.f o267 ((rd a3 i188).Shard)).bind fun t168 => haulagelaw23_RouteBooks.j8 a3 a11 b186 i188 o267 i268 b269 (!decide (t168 = t97)))
def haulagelaw23_RouteBooks.j6 (a1 : Int) (a3 : List haulagelaw23_Op) (a11 : Int) (t97 : Int) (t120 : Bool × (Option Rou)) (b186 : Bool) (i188 : Int) (i251 : Int) (b259 : Bool) : Option (Ctl ((Option Rou) × Bool × Int × Int) (Sum ((Option Rou) × Bool × Int) Bool)) := if b259 = true then (some (.done (.inr false))) else (haulagelaw23_RouteBooks.j7 a1 a3 a11 t97 b186 i188 t120.2 i251 t120.1)
def haulagelaw23_RouteBooks.j5 (a1 : Int) (a3 : List haulagelaw23_Op) (a11 : Int) (t97 : Int) (t120 : Bool × (Option Rou)) (b186 : Bool) (i188 : Int) (i251 : Int) : Option (Ctl ((Option Rou) × Bool × Int × Int) (Sum ((Option Rou) × Bool × Int) Bool)) := if (t120.1 == (decide (t97 = ((rd a3 i188).Server)))) = true then (if 0 ≤ t97 then (if 0 ≤ ((rd a3 i188).Server) then (haulagelaw23_RouteBooks.j6 a1 a3 a11 t97 t120 b186 i188 i251 (decide (((rd a3 i188).Server) < a1))) else (haulagelaw23_RouteBooks.j6 a1 a3 a11 t97 t120 b186 i188 i251 false)) else (haulagelaw23_RouteBooks.j6 a1 a3 a11 t97 t120 b186 i188 i251 false)) else (haulagelaw23_RouteBooks.j6 a1 a3 a11 t97 t120 b186 i188 i251 false)
def haulagelaw23_RouteBooks.j12 (i368 : Int) (i369 : Int) (b421 : Bool) : Option (Ctl (Int × Int) (Sum Int (Ctl (Int × Int) (Sum Int Bool)))) := if b421 = true then (some (.done (.inr (.done (.inr false))))) else (some (.next (IntKind.i64.wrap (i368 + 1), IntKind.i64.wrap (i369 + 1))))
def haulagelaw23_RouteBooks.b13 (o306 : Option Rou) (i341 : Int) (t357 : List Int) (i368 : Int) (i369 : Int) : Option (Ctl (Int × Int) (Sum Int (Ctl (Int × Int) (Sum Int Bool)))) := if i369 < (t357.length : Int) then (if 0 ≤ i369 ∧ i369 < (t357.length : Int) then ((route_Route_Where.f o306 (rd t357 i369)).bind fun t396 => if t396 = i341 then (if 0 < i369 then (if 0 ≤ i369 ∧ i369 < (t357.length : Int) then (if 0 ≤ (IntKind.i64.wrap (i369 - 1)) ∧ (IntKind.i64.wrap (i369 - 1)) < (t357.length : Int) then (haulagelaw23_RouteBooks.j12 i368 i369 (decide ((rd t357 i369) ≤ (rd t357 (IntKind.i64.wrap (i369 - 1)))))) else none) else none) else (haulagelaw23_RouteBooks.j12 i368 i369 false)) else (haulagelaw23_RouteBooks.j12 i368 i369 true)) else none) else (some (.done (.inl i368)))
def haulagelaw23_RouteBooks.j14 (i341 : Int) (i429 : Int) : Option (Ctl (Int × Int) (Sum Int Bool)) := some (.next (i429, IntKind.i64.wrap (i341 + 1)))
def haulagelaw23_RouteBooks.b15 (k : Nat) (a1 : Int) (o306 : Option Rou) (i340 : Int) (i341 : Int) : Option (Ctl (Int × Int) (Sum Int Bool)) := if i341 ≤ a1 then ((route_Route_At.f o306 i341).bind fun t357 => (loop (fun (s_ : Int × Int) => haulagelaw23_RouteBooks.b13 o306 i341 t357 s_.1 s_.2) k (i340, 0)).bind fun x_ => match x_ with | .inl y_ => haulagelaw23_RouteBooks.j14 i341 y_ | .inr q_ => some q_) else (some (.done (.inl i340)))
def haulagelaw23_RouteBooks.j17 (i441 : Int) (b477 : Bool) : Option (Ctl Int (Sum Unit Bool)) := if b477 = true then (some (.done (.inr false))) else (some (.next (IntKind.i64.wrap (i441 + 1))))
def haulagelaw23_RouteBooks.b18 (a2 : Int) (a7 : List (List Int)) (o306 : Option Rou) (i441 : Int) : Option (Ctl Int (Sum Unit Bool)) := if i441 < (a7.length : Int) then (if 0 ≤ i441 ∧ i441 < (a7.length : Int) then ((route_Route_Shard.f o306 (rd a7 i441)).bind fun t468 => if t468 < 0 then (haulagelaw23_RouteBooks.j17 i441 true) else (haulagelaw23_RouteBooks.j17 i441 (decide (a2 ≤ t468)))) else none) else (some (.done (.inl ())))
def haulagelaw23_RouteBooks.j19 (a2 : Int) (i435 : Int) : Option Bool := some (decide (i435 = a2))
def haulagelaw23_RouteBooks.j16 (k : Nat) (a2 : Int) (a7 : List (List Int)) (o306 : Option Rou) (i435 : Int) : Option Bool := (loop (fun (s_ : Int) => haulagelaw23_RouteBooks.b18 a2 a7 o306 s_) k 0).bind fun x_ => match x_ with | .inl y_ => haulagelaw23_RouteBooks.j19 a2 i435 | .inr q_ => some q_
def haulagelaw23_RouteBooks.j11 (k : Nat) (a1 : Int) (a2 : Int) (a7 : List (List Int)) (o306 : Option Rou) (b331 : Bool) : Option Bool := if b331 = true then (some false) else ((loop (fun (s_ : Int × Int) => haulagelaw23_RouteBooks.b15 k a1 o306 s_.1 s_.2) k (0, (-1))).bind fun x_ => match x_ with | .inl y_ => haulagelaw23_RouteBooks.j16 k a2 a7 o306 y_ | .inr q_ => some q_)
def haulagelaw23_RouteBooks.j10 (k : Nat) (a1 : Int) (a2 : Int) (a7 : List (List Int)) (a11 : Int) (t46 : Int) (o306 : Option Rou) (b307 : Bool) (i308 : Int) : Option Bool := (route_Route_Counts.f o306).bind fun t313 => if b307 = true then (haulagelaw23_RouteBooks.j11 k a1 a2 a7 o306 (!decide (t313.2.2 = i308))) else ((route_Route_Where.f o306 a11).bind fun t323 => if t323 = t46 then (haulagelaw23_RouteBooks.j11 k a1 a2 a7 o306 (!decide (t313.2.2 = i308))) else (haulagelaw23_RouteBooks.j11 k a1 a2 a7 o306 true))
def haulagelaw23_RouteBooks.b9 (a1 : Int) (a3 : List haulagelaw23_Op) (a11 : Int) (o185 : Option Rou) (b186 : Bool) (i187 : Int) (i188 : Int) : Option (Ctl ((Option Rou) × Bool × Int × Int) (Sum ((Option Rou) × Bool × Int) Bool)) := if i188 < (a3.length : Int) then (if 0 ≤ i188 ∧ i188 < (a3.length : Int) then ((route_Route_Where.f o185 ((rd a3 i188).Shard)).bind fun t97 => if ((rd a3 i188).Kind) = 0 then ((route_Route_Fine.f o185 ((rd a3 i188).Shard) ((rd a3 i188).Server)).bind fun t109 => haulagelaw23_RouteBooks.j7 a1 a3 a11 t97 b186 i188 t109.2 i187 t109.1) else (if ((rd a3 i188).Kind) = 1 then ((route_Route_Hint.f o185 ((rd a3 i188).Shard) ((rd a3 i188).Server)).bind fun t120 => if t120.1 = true then (haulagelaw23_RouteBooks.j5 a1 a3 a11 t97 t120 b186 i188 (IntKind.i64.wrap (i187 + 1))) else (haulagelaw23_RouteBooks.j5 a1 a3 a11 t97 t120 b186 i188 i187)) else (haulagelaw23_RouteBooks.j7 a1 a3 a11 t97 b186 i188 o185 i187 false))) else none) else (some (.done (.inl (o185, b186, i187))))
def haulagelaw23_RouteBooks.f (k : Nat) (a1 : Int) (a2 : Int) (a3 : List haulagelaw23_Op) (a7 : List (List Int)) (a11 : Int) : Option Bool := (haulagelaw23_known.f k).bind fun t15 => if t15 = true then ((route_New.f a1 a2).bind fun t25 => (haulagelaw23_num.f t25.2).bind fun t36 => if t36 = 0 then ((route_Route_Where.f t25.1 a11).bind fun t46 => (loop (fun (s_ : (Option Rou) × Bool × Int × Int) => haulagelaw23_RouteBooks.b9 a1 a3 a11 s_.1 s_.2.1 s_.2.2.1 s_.2.2.2) k (t25.1, false, 0, 0)).bind fun x_ => match x_ with | .inl y_ => haulagelaw23_RouteBooks.j10 k a1 a2 a7 a11 t46 y_.1 y_.2.1 y_.2.2 | .inr q_ => some q_) else (some (Option.isNone t25.1))) else (some false)
/-! haulage/haulagelaw23.RouteKnown -/
def haulagelaw23_RouteKnown.j1 (i26 : Int) (b64 : Bool) : Option (Ctl Int (Sum Unit Bool)) := if b64 = true then (some (.done (.inr false))) else (some (.next (IntKind.i64.wrap (i26 + 1))))
def haulagelaw23_RouteKnown.j6 (o374 : Option Rou) (b375 : Bool) : Option Bool := if b375 = true then (some false) else ((route_Route_Counts.f o374).bind fun t382 => (route_Route_Counts.f none).bind fun t391 => if t382.1 = 2 then (if t382.2.1 = 5 then (if t382.2.2 = 4 then ((route_Route_Where.f none 0).bind fun t402 => if t402 = (-1) then ((route_Route_Shard.f none []).bind fun t410 => if t410 = (-1) then ((route_Route_Fine.f none 0 0).bind fun t418 => if t418.1 = true then (some false) else ((route_Route_Hint.f t418.2 0 0).bind fun t427 => if t427.1 = true then (some false) else ((route_Route_Trail.f t427.2 0).bind fun t436 => if (t436.length : Int) = 0 then ((route_Route_At.f t427.2 0).bind fun t447 => if (t447.length : Int) = 0 then (if t391.1 = 0 then (if t391.2.1 = 0 then (some (decide (t391.2.2 = 0))) else (some false)) else (some false)) else (some false)) else (some false)))) else (some false)) else (some false)) else (some false)) else (some false)) else (some false))
def haulagelaw23_RouteKnown.j5 (k : Nat) (t205 : Bool × (Option Rou)) (b247 : Bool) : Option Bool := if b247 = true then (some false) else ((route_Route_Hint.f t205.2 0 1).bind fun t254 => (route_Route_Trail.f t254.2 0).bind fun t264 => (haulagelaw23_ints.f k t264 [2, 1, 0]).bind fun t281 => if t281 = true then ((route_Route_Hint.f t254.2 0 2).bind fun t291 => (route_Route_Trail.f t291.2 0).bind fun t301 => (haulagelaw23_ints.f k t301 [1, 0, 1]).bind fun t318 => if t318 = true then ((route_Route_Hint.f t291.2 0 3).bind fun t326 => if t326.1 = true then (haulagelaw23_RouteKnown.j6 t326.2 true) else ((route_Route_Hint.f t326.2 2 0).bind fun t335 => if t335.1 = true then (haulagelaw23_RouteKnown.j6 t335.2 true) else ((route_Route_Fine.f t335.2 0 (-1)).bind fun t344 => if t344.1 = true then (haulagelaw23_RouteKnown.j6 t344.2 true) else ((route_Route_Fine.f t344.2 0 1).bind fun t353 => if t353.1 = true then ((route_Route_Trail.f t353.2 0).bind fun t362 => haulagelaw23_RouteKnown.j6 t353.2 (!decide ((t362.length : Int) = 0))) else (haulagelaw23_RouteKnown.j6 t353.2 true))))) else (haulagelaw23_RouteKnown.j6 t291.2 true)) else (some false))
def haulagelaw23_RouteKnown.j4 (k : Nat) (b161 : Bool) : Option Bool := if b161 = true then (some false) else ((route_New.f 3 2).bind fun t168 => (route_Route_Fine.f t168.1 0 2).bind fun t178 => (route_Route_Hint.f t178.2 0 2).bind fun t187 => (route_Route_Hint.f t187.2 0 1).bind fun t196 => (route_Route_Hint.f t196.2 0 0).bind fun t205 => (route_Route_Where.f t205.2 0).bind fun t215 => if t215 = 0 then ((route_Route_Trail.f t205.2 0).bind fun t223 => (haulagelaw23_ints.f k t223 [2, 1]).bind fun t240 => haulagelaw23_RouteKnown.j5 k t205 (!t240)) else (haulagelaw23_RouteKnown.j5 k t205 true))
def haulagelaw23_RouteKnown.j3 (k : Nat) : Option Bool := (route_New.f 1 3).bind fun t75 => (haulagelaw23_num.f t75.2).bind fun t86 => if t86 = 0 then ((route_Route_Where.f t75.1 0).bind fun t94 => if t94 = 0 then ((route_Route_Where.f t75.1 2).bind fun t102 => if t102 = 0 then ((route_Route_Where.f t75.1 3).bind fun t110 => if t110 = (-1) then ((route_Route_Where.f t75.1 (-1)).bind fun t118 => if t118 = (-1) then ((route_Route_At.f t75.1 0).bind fun t126 => (haulagelaw23_ints.f k t126 [0, 1, 2]).bind fun t143 => if t143 = true then ((route_Route_At.f t75.1 1).bind fun t151 => haulagelaw23_RouteKnown.j4 k (!decide ((t151.length : Int) = 0))) else (haulagelaw23_RouteKnown.j4 k true)) else (haulagelaw23_RouteKnown.j4 k true)) else (haulagelaw23_RouteKnown.j4 k true)) else (haulagelaw23_RouteKnown.j4 k true)) else (haulagelaw23_RouteKnown.j4 k true)) else (haulagelaw23_RouteKnown.j4 k true)
def haulagelaw23_RouteKnown.b2 (i26 : Int) : Option (Ctl Int (Sum Unit Bool)) := if i26 < 4 then (if 0 ≤ i26 ∧ i26 < (4 : Int) then (if 0 ≤ i26 ∧ i26 < (4 : Int) then ((route_New.f (rd [0, 1, 9, 1, 1, 65, 1, 0] ((i26.toNat * 2 + 0 : Nat) : Int)) (rd [0, 1, 9, 1, 1, 65, 1, 0] ((i26.toNat * 2 + 1 : Nat) : Int))).bind fun t46 => if (Option.isNone t46.1) = true then ((haulagelaw23_num.f t46.2).bind fun t57 => haulagelaw23_RouteKnown.j1 i26 (!decide (t57 = 2))) else (haulagelaw23_RouteKnown.j1 i26 true)) else none) else none) else (some (.done (.inl ())))
def haulagelaw23_RouteKnown.f (k : Nat) : Option Bool := (haulagelaw23_known.f k).bind fun t4 => if t4 = true then ((loop (fun (s_ : Int) => haulagelaw23_RouteKnown.b2 s_) k 0).bind fun x_ => match x_ with | .inl y_ => haulagelaw23_RouteKnown.j3 k | .inr q_ => some q_) else (some false)
/-! haulage/haulagelaw23.RouteOwn -/
def haulagelaw23_RouteOwn.j2 (a3 : List haulagelaw23_Op) (o143 : Option Rou) (i144 : Int) (b172 : Bool) : Option (Ctl ((Option Rou) × Int) (Option Rou)) := if b172 = true then (if 0 ≤ i144 ∧ i144 < (a3.length : Int) then (if 0 ≤ i144 ∧ i144 < (a3.length : Int) then ((route_Route_Fine.f o143 ((rd a3 i144).Shard) ((rd a3 i144).Server)).bind fun t101 => some (.next (t101.2, IntKind.i64.wrap (i144 + 1)))) else none) else none) else (if 0 ≤ i144 ∧ i144 < (a3.length : Int) then (if 0 ≤ i144 ∧ i144 < (a3.length : Int) then ((route_Route_Hint.f o143 ((rd a3 i144).Shard) ((rd a3 i144).Server)).bind fun t133 => some (.next (t133.2, IntKind.i64.wrap (i144 + 1)))) else none) else none)
def haulagelaw23_RouteOwn.b5 (t247 : List Int) (t257 : List Int) (t267 : List Int) (t277 : List Int) (l366 : List (List Int)) (i370 : Int) : Option (Ctl ((List (List Int)) × Int) (List (List Int))) := if i370 < 4 then (if 0 ≤ i370 ∧ i370 < ([t247, t257, t267, t277].length : Int) then (if (rd [t247, t257, t267, t277] i370).length * 8 ≤ 140737488355328 then (if (l366.length + [(rd [t247, t257, t267, t277] i370)].length) * 24 ≤ 140737488355328 then (some (.next ((l366 ++ [(rd [t247, t257, t267, t277] i370)]), IntKind.i64.wrap (i370 + 1)))) else none) else none) else none) else (some (.done l366))
def haulagelaw23_RouteOwn.j8 (i660 : Int) (b739 : Bool) : Option (Ctl Int (Sum Unit Bool)) := if b739 = true then (some (.done (.inr false))) else (some (.next (IntKind.i64.wrap (i660 + 1))))
def haulagelaw23_RouteOwn.b9 (k : Nat) (t247 : List Int) (t257 : List Int) (t267 : List Int) (t277 : List Int) (l430 : List (List Int)) (t464 : List Int) (t474 : List Int) (i660 : Int) : Option (Ctl Int (Sum Unit Bool)) := if i660 < 6 then (if 0 ≤ i660 ∧ i660 < (([t247, t257, t267, t277] ++ [t464, t474]).length : Int) then (if 0 ≤ i660 ∧ i660 < ((l430 ++ [(rd ([t247, t257, t267, t277] ++ [t464, t474]) 4), (rd ([t247, t257, t267, t277] ++ [t464, t474]) 5)]).length : Int) then ((haulagelaw23_ints.f k (rd ([t247, t257, t267, t277] ++ [t464, t474]) i660) (rd (l430 ++ [(rd ([t247, t257, t267, t277] ++ [t464, t474]) 4), (rd ([t247, t257, t267, t277] ++ [t464, t474]) 5)]) i660)).bind fun t701 => if t701 = true then (if i660 < 4 then (if 0 ≤ i660 ∧ i660 < (([t247, t257, t267, t277] ++ [t464, t474]).length : Int) then (if 0 ≤ (IntKind.i64.wrap ((IntKind.i64.wrap (Int.tdiv i660 2)) * 2)) ∧ (IntKind.i64.wrap ((IntKind.i64.wrap (Int.tdiv i660 2)) * 2)) < ((l430 ++ [(rd ([t247, t257, t267, t277] ++ [t464, t474]) 4), (rd ([t247, t257, t267, t277] ++ [t464, t474]) 5)]).length : Int) then ((haulagelaw23_ints.f k (rd ([t247, t257, t267, t277] ++ [t464, t474]) i660) (rd (l430 ++ [(rd ([t247, t257, t267, t277] ++ [t464, t474]) 4), (rd ([t247, t257, t267, t277] ++ [t464, t474]) 5)]) (IntKind.i64.wrap ((IntKind.i64.wrap (Int.tdiv i660 2)) * 2)))).bind fun t732 => haulagelaw23_RouteOwn.j8 i660 (!t732)) else none) else none) else (haulagelaw23_RouteOwn.j8 i660 false)) else (haulagelaw23_RouteOwn.j8 i660 true)) else none) else none) else (some (.done (.inl ())))
def haulagelaw23_RouteOwn.b13 (i897 : Int) (l971 : List (List Int)) (i972 : Int) : Option (Ctl ((List (List Int)) × Int) (List (List Int))) := if 0 ≤ i897 ∧ i897 < (l971.length : Int) then (if i972 < ((rd l971 i897).length : Int) then (if 0 ≤ i897 ∧ i897 < (l971.length : Int) then (if 0 ≤ i972 ∧ i972 < ((rd l971 i897).length : Int) then (some (.next ((l971.set i897.toNat ((rd l971 i897).set i972.toNat (IntKind.i64.wrap ((IntKind.i64.wrap (1000 * i897)) + i972)))), IntKind.i64.wrap (i972 + 1)))) else none) else none) else (some (.done l971))) else none
def haulagelaw23_RouteOwn.j14 (i897 : Int) (l1033 : List (List Int)) : Option (Ctl ((List (List Int)) × Int) (List (List Int))) := some (.next (l1033, IntKind.i64.wrap (i897 + 1)))
def haulagelaw23_RouteOwn.b15 (k : Nat) (l896 : List (List Int)) (i897 : Int) : Option (Ctl ((List (List Int)) × Int) (List (List Int))) := if i897 < 6 then ((loop (fun (s_ : (List (List Int)) × Int) => haulagelaw23_RouteOwn.b13 i897 s_.1 s_.2) k (l896, 0)).bind fun x_ => haulagelaw23_RouteOwn.j14 i897 x_) else (some (.done l896))
def haulagelaw23_RouteOwn.b19 (i1156 : Int) (l1187 : List Int) (i1191 : Int) : Option (Ctl ((List Int) × Int) (List Int)) := if i1191 < 70 then (if (l1187.length + [IntKind.i64.wrap ((IntKind.i64.wrap ((IntKind.i64.wrap ((-1000) * i1156)) - i1191)) - 1)].length) * 8 ≤ 140737488355328 then (some (.next ((l1187 ++ [IntKind.i64.wrap ((IntKind.i64.wrap ((IntKind.i64.wrap ((-1000) * i1156)) - i1191)) - 1)]), IntKind.i64.wrap (i1191 + 1)))) else none) else (some (.done l1187))
def haulagelaw23_RouteOwn.j20 (l1152 : List (List Int)) (i1156 : Int) (l1229 : List Int) : Option (Ctl ((List (List Int)) × Int) (List (List Int))) := if (l1152.length + [l1229].length) * 24 ≤ 140737488355328 then (some (.next ((l1152 ++ [l1229]), IntKind.i64.wrap (i1156 + 1)))) else none
def haulagelaw23_RouteOwn.b21 (k : Nat) (l1045 : List (List Int)) (l1152 : List (List Int)) (i1156 : Int) : Option (Ctl ((List (List Int)) × Int) (List (List Int))) := if i1156 < 6 then (if 0 ≤ i1156 ∧ i1156 < (l1045.length : Int) then ((loop (fun (s_ : (List Int) × Int) => haulagelaw23_RouteOwn.b19 i1156 s_.1 s_.2) k ((rd l1045 i1156), 0)).bind fun x_ => haulagelaw23_RouteOwn.j20 l1152 i1156 x_) else none) else (if l1045.length ≤ i1156.toNat then (some (.done l1152)) else none)
def haulagelaw23_RouteOwn.j23 (i1295 : Int) (b1371 : Bool) : Option (Ctl Int (Sum Unit (Ctl Int (Sum Unit Bool)))) := if b1371 = true then (some (.done (.inr (.done (.inr false))))) else (some (.next (IntKind.i64.wrap (i1295 + 1))))
def haulagelaw23_RouteOwn.b24 (l1045 : List (List Int)) (l1258 : List (List Int)) (i1266 : Int) (i1295 : Int) : Option (Ctl Int (Sum Unit (Ctl Int (Sum Unit Bool)))) := if i1295 < ((rd l1045 i1266).length : Int) then (if 0 ≤ i1266 ∧ i1266 < (l1045.length : Int) then (if 0 ≤ i1295 ∧ i1295 < ((rd l1045 i1266).length : Int) then (if (rd (rd l1045 i1266) i1295) = (IntKind.i64.wrap ((IntKind.i64.wrap (1000 * i1266)) + i1295)) then (if 0 ≤ i1266 ∧ i1266 < (l1258.length : Int) then (if 0 ≤ i1295 ∧ i1295 < ((rd l1258 i1266).length : Int) then (if 0 ≤ i1266 ∧ i1266 < (l1045.length : Int) then (if 0 ≤ i1295 ∧ i1295 < ((rd l1045 i1266).length : Int) then (haulagelaw23_RouteOwn.j23 i1295 (!decide ((rd (rd l1258 i1266) i1295) = (rd (rd l1045 i1266) i1295)))) else none) else none) else none) else none) else (haulagelaw23_RouteOwn.j23 i1295 true)) else none) else none) else (some (.done (.inl ())))
def haulagelaw23_RouteOwn.b26 (l1045 : List (List Int)) (l1258 : List (List Int)) (i1266 : Int) (i1382 : Int) : Option (Ctl Int (Sum Unit (Ctl Int (Sum Unit Bool)))) := if i1382 < 70 then (if 0 ≤ i1266 ∧ i1266 < (l1258.length : Int) then (if 0 ≤ (IntKind.i64.wrap (((rd l1045 i1266).length : Int) + i1382)) ∧ (IntKind.i64.wrap (((rd l1045 i1266).length : Int) + i1382)) < ((rd l1258 i1266).length : Int) then (if (rd (rd l1258 i1266) (IntKind.i64.wrap (((rd l1045 i1266).length : Int) + i1382))) = (IntKind.i64.wrap ((IntKind.i64.wrap ((IntKind.i64.wrap ((-1000) * i1266)) - i1382)) - 1)) then (some (.next (IntKind.i64.wrap (i1382 + 1)))) else (some (.done (.inr (.done (.inr false)))))) else none) else none) else (some (.done (.inl ())))
def haulagelaw23_RouteOwn.j27 (i1266 : Int) : Option (Ctl Int (Sum Unit Bool)) := some (.next (IntKind.i64.wrap (i1266 + 1)))
def haulagelaw23_RouteOwn.j25 (k : Nat) (l1045 : List (List Int)) (l1258 : List (List Int)) (i1266 : Int) : Option (Ctl Int (Sum Unit Bool)) := (loop (fun (s_ : Int) => haulagelaw23_RouteOwn.b26 l1045 l1258 i1266 s_) k 0).bind fun x_ => match x_ with | .inl y_ => haulagelaw23_RouteOwn.j27 i1266 | .inr q_ => some q_
def haulagelaw23_RouteOwn.b28 (k : Nat) (l1045 : List (List Int)) (l1258 : List (List Int)) (i1266 : Int) : Option (Ctl Int (Sum Unit Bool)) := if i1266 < 6 then (if 0 ≤ i1266 ∧ i1266 < (l1045.length : Int) then ((loop (fun (s_ : Int) => haulagelaw23_RouteOwn.b24 l1045 l1258 i1266 s_) k 0).bind fun x_ => match x_ with | .inl y_ => haulagelaw23_RouteOwn.j25 k l1045 l1258 i1266 | .inr q_ => some q_) else none) else (some (.done (.inl ())))
def haulagelaw23_RouteOwn.j29 (k : Nat) (a7 : Int) (a8 : Int) (t247 : List Int) (t257 : List Int) (t267 : List Int) (t277 : List Int) (l430 : List (List Int)) (t455 : Bool × (Option Rou)) (t464 : List Int) (t474 : List Int) : Option Bool := if 0 ≤ (4 : Int) ∧ (4 : Int) < ((l430 ++ [(rd ([t247, t257, t267, t277] ++ [t464, t474]) 4), (rd ([t247, t257, t267, t277] ++ [t464, t474]) 5)]).length : Int) then ((route_Route_Trail.f t455.2 a7).bind fun t1441 => (haulagelaw23_ints.f k t1441 (rd (l430 ++ [(rd ([t247, t257, t267, t277] ++ [t464, t474]) 4), (rd ([t247, t257, t267, t277] ++ [t464, t474]) 5)]) 4)).bind fun t1451 => if t1451 = true then (if 0 ≤ (5 : Int) ∧ (5 : Int) < ((l430 ++ [(rd ([t247, t257, t267, t277] ++ [t464, t474]) 4), (rd ([t247, t257, t267, t277] ++ [t464, t474]) 5)]).length : Int) then ((route_Route_At.f t455.2 a8).bind fun t1470 => (haulagelaw23_ints.f k t1470 (rd (l430 ++ [(rd ([t247, t257, t267, t277] ++ [t464, t474]) 4), (rd ([t247, t257, t267, t277] ++ [t464, t474]) 5)]) 5)).bind fun t1480 => some t1480) else none) else (some false)) else none
def haulagelaw23_RouteOwn.j22 (k : Nat) (a7 : Int) (a8 : Int) (t247 : List Int) (t257 : List Int) (t267 : List Int) (t277 : List Int) (l430 : List (List Int)) (t455 : Bool × (Option Rou)) (t464 : List Int) (t474 : List Int) (l1045 : List (List Int)) (l1258 : List (List Int)) : Option Bool := (loop (fun (s_ : Int) => haulagelaw23_RouteOwn.b28 k l1045 l1258 s_) k 0).bind fun x_ => match x_ with | .inl y_ => haulagelaw23_RouteOwn.j29 k a7 a8 t247 t257 t267 t277 l430 t455 t464 t474 | .inr q_ => some q_
def haulagelaw23_RouteOwn.j16 (k : Nat) (a7 : Int) (a8 : Int) (t247 : List Int) (t257 : List Int) (t267 : List Int) (t277 : List Int) (l430 : List (List Int)) (t455 : Bool × (Option Rou)) (t464 : List Int) (t474 : List Int) (l1045 : List (List Int)) : Option Bool := (loop (fun (s_ : (List (List Int)) × Int) => haulagelaw23_RouteOwn.b21 k l1045 s_.1 s_.2) k ([], 0)).bind fun x_ => haulagelaw23_RouteOwn.j22 k a7 a8 t247 t257 t267 t277 l430 t455 t464 t474 l1045 x_
def haulagelaw23_RouteOwn.j10 (k : Nat) (a7 : Int) (a8 : Int) (t247 : List Int) (t257 : List Int) (t267 : List Int) (t277 : List Int) (l430 : List (List Int)) (t455 : Bool × (Option Rou)) (t464 : List Int) (t474 : List Int) : Option Bool := (loop (fun (s_ : (List (List Int)) × Int) => haulagelaw23_RouteOwn.b15 k s_.1 s_.2) k (([t247, t257, t267, t277] ++ [t464, t474]), 0)).bind fun x_ => haulagelaw23_RouteOwn.j16 k a7 a8 t247 t257 t267 t277 l430 t455 t464 t474 x_
def haulagelaw23_RouteOwn.j7 (k : Nat) (a7 : Int) (a8 : Int) (t247 : List Int) (t257 : List Int) (t267 : List Int) (t277 : List Int) (l430 : List (List Int)) (t455 : Bool × (Option Rou)) (t464 : List Int) (t474 : List Int) : Option Bool := (loop (fun (s_ : Int) => haulagelaw23_RouteOwn.b9 k t247 t257 t267 t277 l430 t464 t474 s_) k 0).bind fun x_ => match x_ with | .inl y_ => haulagelaw23_RouteOwn.j10 k a7 a8 t247 t257 t267 t277 l430 t455 t464 t474 | .inr q_ => some q_
def haulagelaw23_RouteOwn.j6 (k : Nat) (a7 : Int) (a8 : Int) (o242 : Option Rou) (t247 : List Int) (t257 : List Int) (t267 : List Int) (t277 : List Int) (l430 : List (List Int)) : Option Bool := (route_Route_Hint.f o242 a7 a8).bind fun t437 => (route_Route_Hint.f t437.2 a7 0).bind fun t446 => (route_Route_Fine.f t446.2 a7 a8).bind fun t455 => (route_Route_Trail.f t455.2 a7).bind fun t464 => (route_Route_At.f t455.2 a8).bind fun t474 => if ([t247, t257, t267, t277].length + [t464, t474].length) * 24 ≤ 140737488355328 then (if 0 ≤ (4 : Int) ∧ (4 : Int) < (([t247, t257, t267, t277] ++ [t464, t474]).length : Int) then (if 0 ≤ (5 : Int) ∧ (5 : Int) < (([t247, t257, t267, t277] ++ [t464, t474]).length : Int) then (if (rd ([t247, t257, t267, t277] ++ [t464, t474]) 4).length * 8 ≤ 140737488355328 then (if (rd ([t247, t257, t267, t277] ++ [t464, t474]) 5).length * 8 ≤ 140737488355328 then (if (l430.length + [(rd ([t247, t257, t267, t277] ++ [t464, t474]) 4), (rd ([t247, t257, t267, t277] ++ [t464, t474]) 5)].length) * 24 ≤ 140737488355328 then (haulagelaw23_RouteOwn.j7 k a7 a8 t247 t257 t267 t277 l430 t455 t464 t474) else none) else none) else none) else none) else none) else none
def haulagelaw23_RouteOwn.j4 (k : Nat) (a7 : Int) (a8 : Int) (o242 : Option Rou) : Option Bool := (route_Route_Trail.f o242 a7).bind fun t247 => (route_Route_Trail.f o242 a7).bind fun t257 => (route_Route_At.f o242 a8).bind fun t267 => (route_Route_At.f o242 a8).bind fun t277 => (loop (fun (s_ : (List (List Int)) × Int) => haulagelaw23_RouteOwn.b5 t247 t257 t267 t277 s_.1 s_.2) k ([], 0)).bind fun x_ => haulagelaw23_RouteOwn.j6 k a7 a8 o242 t247 t257 t267 t277 x_
def haulagelaw23_RouteOwn.b3 (a3 : List haulagelaw23_Op) (o143 : Option Rou) (i144 : Int) : Option (Ctl ((Option Rou) × Int) (Option Rou)) := if i144 < (a3.length : Int) then (if 0 ≤ i144 ∧ i144 < (a3.length : Int) then (if ((rd a3 i144).Kind) = 0 then (haulagelaw23_RouteOwn.j2 a3 o143 i144 (decide (i144 < 3))) else (haulagelaw23_RouteOwn.j2 a3 o143 i144 false)) else none) else (some (.done o143))
def haulagelaw23_RouteOwn.f (k : Nat) (a1 : Int) (a2 : Int) (a3 : List haulagelaw23_Op) (a7 : Int) (a8 : Int) : Option Bool := (haulagelaw23_known.f k).bind fun t12 => if t12 = true then ((route_New.f a1 a2).bind fun t22 => (haulagelaw23_num.f t22.2).bind fun t33 => if t33 = 0 then ((loop (fun (s_ : (Option Rou) × Int) => haulagelaw23_RouteOwn.b3 a3 s_.1 s_.2) k (t22.1, 0)).bind fun x_ => haulagelaw23_RouteOwn.j4 k a7 a8 x_) else (some (Option.isNone t22.1))) else (some false)end Go.Proofs.Ytohljkjaggcapaa.G
namespace Go.Proofs.Ytohljkjaggcapaa.G
open Go Go.RowKit
set_option linter.unusedVariables false
set_option linter.unusedSimpArgs false
abbrev AGA (t : TypeId) (b : Bool) : Prop := ∀ w, (isAgg t).run Try.prog w = .ok b w
abbrev SZA (t : TypeId) (n : Nat) : Prop := ∀ w, (sizeOf t).run Try.prog w = .ok n w
abbrev FFA (t : TypeId) (f off : Nat) : Prop := ∀ q w, (Instr.fieldAt t (.pointer (some q)) f).run Try.prog w = .ok (.pointer (some (q.add off))) w
def K_haulagelaw23_Op : K haulagelaw23_Op where
  sz := 5
  pos := by decide
  rep := fun i c w cs x => ∃ (A1 : Option Addr) (C2 : Nat), cs = [.int .i64 x.Who, .int .i64 x.Kind, .int .i64 x.Shard, .int .i64 x.Server, .slice A1 x.Key.length C2] ∧ SL false (Kint .u8) i i c w A1 C2 x.Key
  ev := fun ⟨A1, C2, h_, h3⟩ E hi => ⟨A1, C2, h_, h3.ev E hi hi⟩
  rc := fun ⟨A1, C2, h_, h3⟩ hr => ⟨A1, C2, h_, h3.rc hr hr⟩
  len := fun ⟨A1, C2, h_, h3⟩ => by rw [h_]; rfl
  one := @fun i c w cs x ⟨A1, C2, h_, h3⟩ u hu => by rw [h_] at hu; exact one_all (us := [.int .i64 x.Who, .int .i64 x.Kind, .int .i64 x.Shard, .int .i64 x.Server, .slice A1 x.Key.length C2]) rfl u hu
theorem Try_hm : Try.prog.follows .mixedOrders = true := by kernel_rfl
theorem sz_3 : SZA 3 1 := fun _ => by kernel_rfl
theorem ag_3 : AGA 3 false := fun _ => by kernel_rfl
theorem sz_36 : SZA 36 1 := fun _ => by kernel_rfl
theorem ag_36 : AGA 36 false := fun _ => by kernel_rfl
theorem sz_40 : SZA 40 5 := fun _ => by kernel_rfl
theorem ag_40 : AGA 40 true := fun _ => by kernel_rfl
theorem zv_40 : ∀ w, (zeroValue 40).run Try.prog w = .ok (.agg #[.int .i64 0, .int .i64 0, .int .i64 0, .int .i64 0, .slice none 0 0]) w := fun _ => by kernel_rfl
theorem ff_40_2 : FFA 40 2 2 := fun _ _ => by kernel_rfl
theorem ff_40_1 : FFA 40 1 1 := fun _ _ => by kernel_rfl
theorem ff_40_3 : FFA 40 3 3 := fun _ _ => by kernel_rfl
theorem bd_52_i64i64_0_i64i64_1_i64i64_2_i64i64_3 (x1 : Int) (x2 : Int) (x3 : Int) (x4 : Int) (x5 : Int) (x6 : Int) (x7 : Int) (x8 : Int) : ∀ w, (Instr.build 52 [(0, .agg #[.int .i64 x1, .int .i64 x2]), (1, .agg #[.int .i64 x3, .int .i64 x4]), (2, .agg #[.int .i64 x5, .int .i64 x6]), (3, .agg #[.int .i64 x7, .int .i64 x8])].toArray).run Try.prog w = .ok (.agg #[.int .i64 x1, .int .i64 x2, .int .i64 x3, .int .i64 x4, .int .i64 x5, .int .i64 x6, .int .i64 x7, .int .i64 x8]) w := fun _ => by kernel_rfl
theorem zv_52 : ∀ w, (zeroValue 52).run Try.prog w = .ok (.agg #[.int .i64 0, .int .i64 0, .int .i64 0, .int .i64 0, .int .i64 0, .int .i64 0, .int .i64 0, .int .i64 0]) w := fun _ => by kernel_rfl
theorem sz_52 : SZA 52 8 := fun _ => by kernel_rfl
theorem ua_52 : Try.prog.underlying 52 = some (.array 4 43) := Try.underlying52
theorem sz_43 : SZA 43 2 := fun _ => by kernel_rfl
theorem ua_43 : Try.prog.underlying 43 = some (.array 2 3) := Try.underlying43
theorem sz_22 : SZA 22 1 := fun _ => by kernel_rfl
theorem ag_22 : AGA 22 false := fun _ => by kernel_rfl
theorem et_22 : ET Try.prog 22 3 1 8 (.int .i64 0) := ⟨Try.underlying22, info_parts' (by kernel_rfl), rfl⟩
theorem et_41 : ET Try.prog 41 22 1 24 (.slice none 0 0) := ⟨Try.underlying41, info_parts' (by kernel_rfl), rfl⟩
end Go.Proofs.Ytohljkjaggcapaa.G
/-! The arguments of the rows: ops and keys opened. -/
namespace Go.Proofs.Ytohljkjaggcapaa.G
open Go Go.ChangeShapes Go.WideShapes
set_option linter.unusedVariables false
theorem row_own : ownKnob Try.prog.godebug = none := by kernel_rfl
theorem row_laidOut : laidOutB Try.prog = true := by kernel_rfl
theorem cellsU : Try.prog.cellsOf 5 = 1 := by kernel_rfl
theorem cellsI : Try.prog.cellsOf 3 = 1 := by kernel_rfl
theorem cellsB : Try.prog.cellsOf 36 = 1 := by kernel_rfl
theorem cellsO : Try.prog.cellsOf 40 = 5 := by kernel_rfl
def intok (n : Int) : Prop := (Lit.int .i64 n).wf = true
theorem intok.range {n : Int} (h : intok n) : -9223372036854775808 ≤ n ∧ n ≤ 9223372036854775807 := by simpa [intok, Lit.wf, IntKind.min, IntKind.max, IntKind.signed, IntKind.bits] using h
def byteok (n : Int) : Prop := (Lit.int .u8 n).wf = true
def bytesok (xs : List Int) : Prop := ∀ n ∈ xs, byteok n
theorem byteok.range {n : Int} (h : byteok n) : 0 ≤ n ∧ n ≤ 255 := by simpa [byteok, Lit.wf, IntKind.min, IntKind.max, IntKind.signed, IntKind.bits] using h
abbrev opwt (o : haulagelaw23_Op) : Nat := o.Key.length + 1
def opok (o : haulagelaw23_Op) : Prop := intok o.Shard ∧ intok o.Server ∧ bytesok o.Key
theorem sum_one {α : Type} (xs : List α) : (xs.map fun _ => 1).sum = xs.length := by
  induction xs with
  | nil => rfl
  | cons x xs ih => simp [ih]; omega
theorem opens_bytes {w : World} : Opens Try.prog w 36 (Kslice (Kint .u8)) (fun xs => xs.length + 1) bytesok := by
  intro H enc fuel cs x h
  obtain ⟨y, h1, h2, h3⟩ := opens_slice (e := Kint .u8) Try.underlying36 cellsU (opens_int Try.underlying5) H enc fuel cs x h
  have h2' : (y.map fun _ => 1).sum + 1 ≤ Rows.uptoBulk x.1 := h2
  rw [sum_one] at h2'
  exact ⟨y, h1, h2', h3⟩
set_option maxRecDepth 100000 in
theorem opens_op {w : World} : Opens Try.prog w 40 K_haulagelaw23_Op opwt opok := by
  intro H enc fuel cs x h
  obtain ⟨xs, n, rfl, rfl, hl, hxl, hf⟩ := DataW.trod_struct Try.underlying40 h
  rw [cellsO] at hl
  match cs, hl with
  | [v0, v1, v2, v3, v4], _ =>
    match xs, hxl with
    | [x0, x1, x2, x3, x4], _ =>
      have g0 : DataW.trod enc Try.prog w 0 (fun _ => true) true n 3 (([v0, v1, v2, v3, v4].drop 0).take (Try.prog.cellsOf 3)) = some x0 := hf 0 _ rfl
      rw [cellsI] at g0
      replace g0 : DataW.trod enc Try.prog w 0 (fun _ => true) true n 3 [v0] = some x0 := g0
      have g1 : DataW.trod enc Try.prog w 0 (fun _ => true) true n 3 (([v0, v1, v2, v3, v4].drop 1).take (Try.prog.cellsOf 3)) = some x1 := hf 1 _ rfl
      rw [cellsI] at g1
      replace g1 : DataW.trod enc Try.prog w 0 (fun _ => true) true n 3 [v1] = some x1 := g1
      have g2 : DataW.trod enc Try.prog w 0 (fun _ => true) true n 3 (([v0, v1, v2, v3, v4].drop 2).take (Try.prog.cellsOf 3)) = some x2 := hf 2 _ rfl
      rw [cellsI] at g2
      replace g2 : DataW.trod enc Try.prog w 0 (fun _ => true) true n 3 [v2] = some x2 := g2
      have g3 : DataW.trod enc Try.prog w 0 (fun _ => true) true n 3 (([v0, v1, v2, v3, v4].drop 3).take (Try.prog.cellsOf 3)) = some x3 := hf 3 _ rfl
      rw [cellsI] at g3
      replace g3 : DataW.trod enc Try.prog w 0 (fun _ => true) true n 3 [v3] = some x3 := g3
      have g4 : DataW.trod enc Try.prog w 0 (fun _ => true) true n 36 (([v0, v1, v2, v3, v4].drop 4).take (Try.prog.cellsOf 36)) = some x4 := hf 4 _ rfl
      rw [cellsB] at g4
      replace g4 : DataW.trod enc Try.prog w 0 (fun _ => true) true n 36 [v4] = some x4 := g4
      obtain ⟨y0, r0, -, -⟩ := opens_int (w := w) Try.underlying3 H enc n _ _ g0
      obtain ⟨y1, r1, -, -⟩ := opens_int (w := w) Try.underlying3 H enc n _ _ g1
      obtain ⟨y2, r2, -, k2⟩ := opens_int (w := w) Try.underlying3 H enc n _ _ g2
      obtain ⟨y3, r3, -, k3⟩ := opens_int (w := w) Try.underlying3 H enc n _ _ g3
      obtain ⟨y4, ⟨A4, C4, e4, s4⟩, b4, k4⟩ := opens_bytes (w := w) H enc n _ _ g4
      have r0' : [v0] = [.int .i64 y0] := r0
      have r1' : [v1] = [.int .i64 y1] := r1
      have r2' : [v2] = [.int .i64 y2] := r2
      have r3' : [v3] = [.int .i64 y3] := r3
      simp only [List.cons.injEq, and_true] at r0' r1' r2' r3' e4
      refine ⟨⟨y0, y1, y2, y3, y4⟩, ⟨A4, C4, by rw [r0', r1', r2', r3', e4], s4⟩, ?_, k2, k3, k4⟩
      refine Nat.le_trans ?_ (bulk_agg _)
      simp only [List.map_cons, List.map_nil, Rows.uptoBulkAll]
      have b4' : y4.length + 1 ≤ Rows.uptoBulk x4.1 := b4
      show y4.length + 1 ≤ _
      omega
theorem opsum_len : ∀ xs : List haulagelaw23_Op, xs.length ≤ (xs.map opwt).sum
  | [] => Nat.le_refl _
  | o :: xs => by have := opsum_len xs; simp only [List.map_cons, List.sum_cons, List.length_cons, opwt]; omega
theorem keysum_len : ∀ xs : List (List Int), xs.length ≤ (xs.map fun x => x.length + 1).sum
  | [] => Nat.le_refl _
  | o :: xs => by have := keysum_len xs; simp only [List.map_cons, List.sum_cons, List.length_cons]; omega
/-- an argument of ops -/
theorem arg_ops {H : Type} {enc : TypeId × Value → H} {w : World} {v : Value} {d : DataW H} {p : List MemPlace} (hv : ∃ a len cap, v = .slice a len cap) (h : DataW.Trod enc Try.prog w 0 (fun _ => true) true 38 v d p) :
    ∃ A C xs, v = .slice A xs.length C ∧ SL false K_haulagelaw23_Op 0 0 c0 w A C xs ∧ (xs.map opwt).sum + 1 ≤ Rows.uptoBulk d ∧ ∀ o ∈ xs, opok o := by
  obtain ⟨a, len, cap, rfl⟩ := hv
  obtain ⟨fuel, hf⟩ := h
  obtain ⟨A, C, xs, e, h1, h2, h3⟩ := open_sl (e := K_haulagelaw23_Op) Try.underlying38 cellsO opens_op hf
  refine ⟨A, C, xs, ?_, h1, h2, h3⟩
  have e' : [Value.slice a len cap] = [.slice A xs.length C] := e
  exact List.head_eq_of_cons_eq e'
/-- an argument of keys -/
theorem arg_keys {H : Type} {enc : TypeId × Value → H} {w : World} {v : Value} {d : DataW H} {p : List MemPlace} (hv : ∃ a len cap, v = .slice a len cap) (h : DataW.Trod enc Try.prog w 0 (fun _ => true) true 34 v d p) :
    ∃ A C xs, v = .slice A xs.length C ∧ SL false (Kslice (Kint .u8)) 0 0 c0 w A C xs ∧ (xs.map fun x => x.length + 1).sum + 1 ≤ Rows.uptoBulk d ∧ ∀ o ∈ xs, bytesok o := by
  obtain ⟨a, len, cap, rfl⟩ := hv
  obtain ⟨fuel, hf⟩ := h
  obtain ⟨A, C, xs, e, h1, h2, h3⟩ := open_sl (e := Kslice (Kint .u8)) Try.underlying34 cellsB opens_bytes hf
  refine ⟨A, C, xs, ?_, h1, h2, h3⟩
  have e' : [Value.slice a len cap] = [.slice A xs.length C] := e
  exact List.head_eq_of_cons_eq e'
end Go.Proofs.Ytohljkjaggcapaa.G
